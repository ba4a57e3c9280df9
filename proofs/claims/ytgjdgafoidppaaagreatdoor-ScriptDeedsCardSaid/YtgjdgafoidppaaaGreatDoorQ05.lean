/- voileref26.number, small, text, Words; voileref01.Text: what the reference reads and tells of numbers, and where it cuts. Conditions: a text of at most 10^6 bytes. script.stageText, StageText; voileref26.StageText: a stage's words. Conditions: the numbers are a stage's that may be told; strconv's table stands. script.StageOf: the stage of a text. Conditions: a text of at most 900000 bytes; the tables stand. script's words.data: whole sectors that are read. Conditions: the words stand in memory; a word of at most 200000 bytes. -/
import Derived.Test.YtgjdgafoidppaaaGreatDoorQ03
import Derived.Test.YtgjdgafoidppaaaGreatDoorQ04
import Derived.Test.YtgjdgafoidppaaaGreatDoorQ02
import Derived.Laws.CopyOwn
namespace Go.Proofs.YtgjdgafoidppaaaGreatDoor
open Go.RowKit
set_option linter.unusedVariables false
set_option linter.unusedSimpArgs false
set_option linter.unnecessarySimpa false
theorem number26_any (s : ByteArray) (most : Nat) (hm : most ≤ 18446744073709551615) (hs : s.size ≤ 1000000000) (w : World) :
    Calls Tryz.prog 90 #[.string s, .int .u64 most] w fun e w' => e = .returned (.int .u64 (decV s.data.toList most)) ∧ Gr w w' := by
  rcases Bool.eq_false_or_eq_true (decOk s.data.toList most) with h | h
  · have HD := Lib.hid (dec01_any s most hm hs w)
    go_enter Tryz.func90, Tryz.ntmps90
    go_wp2_with ((go_at_call 108; ((with_reducible refine (HD.out).mono ?_); rintro _ _ ⟨rfl, g, rfl⟩)))
    go_ret
    exact ⟨rfl, gri⟩
  · have HD := Lib.hid (dec01_any s most hm hs w)
    have HV := Lib.hid (decV_bad h)
    go_enter Tryz.func90, Tryz.ntmps90
    go_wp2_with ((go_at_call 108; ((with_reducible refine (HD.out).mono ?_); rintro _ _ ⟨rfl, g, rfl⟩)))
    go_ret
    exact ⟨by rw [HV.out]; rfl, gri⟩
theorem small26_any (s : ByteArray) (most : Nat) (hm : most ≤ 9223372036854775807) (hs : s.size ≤ 1000000000) (w : World) :
    Calls Tryz.prog 59 #[.string s, .int .i64 most] w fun e w' => e = .returned (.int .i64 (decV s.data.toList most)) ∧ Gr w w' := by
  have hv := decV_le s.data.toList most
  have hw : IntKind.i64.wrap (decV s.data.toList most : Int) = (decV s.data.toList most : Int) := by rw [IntKind.wrap_i64]; omega
  have hw2 : IntKind.u64.wrap (most : Int) = (most : Int) := by rw [u64_wrap]; omega
  go_enter Tryz.func59, Tryz.ntmps59
  go_wp2_with ((go_at_call 90; ((with_reducible refine (number26_any s most (by omega) hs _).mono ?_); rintro _ _ ⟨rfl, g, rfl⟩)))
  go_ret
  exact ⟨rfl, gri⟩
theorem digit_fin : ∀ i : Fin 10, ((⟨#[48, 49, 50, 51, 52, 53, 54, 55, 56, 57]⟩ : ByteArray).extract i.val (i.val + 1)) = ⟨#[UInt8.ofNat (48 + i.val)]⟩ := by decide +kernel
theorem digit_at (i : Nat) (h : i < 10) : ((⟨#[48, 49, 50, 51, 52, 53, 54, 55, 56, 57]⟩ : ByteArray).extract i (i + 1)) = ⟨#[UInt8.ofNat (48 + i)]⟩ := digit_fin ⟨i, h⟩
/-- The digits ahead of the last one. -/
def frontD (k : Nat) : List UInt8 := if k < 10 then [] else Lib.decDigits (k / 10)
theorem front_digits (k : Nat) : Lib.decDigits k = frontD k ++ [UInt8.ofNat (48 + k % 10)] := by
  unfold frontD
  by_cases h : k < 10
  · rw [if_pos h, Lib.decDigits_one h, Nat.mod_eq_of_lt h]; rfl
  · rw [if_neg h, Lib.decDigits, dif_neg h]
def TSt (u k : Nat) (l : List UInt8) : Prop := Lib.decDigits u = frontD k ++ l
theorem tst_next {u k : Nat} {l : List UInt8} (h : TSt u k l) (h9 : 9 < k) : TSt u (k / 10) (UInt8.ofNat (48 + k / 10 % 10) :: l) := by
  unfold TSt at h ⊢
  have e : frontD k = Lib.decDigits (k / 10) := by unfold frontD; rw [if_neg (by omega)]
  rw [h, e, front_digits (k / 10)]; simp
theorem tst_end {u k : Nat} {l : List UInt8} (h : TSt u k l) (h9 : k ≤ 9) : Lib.decDigits u = l := by
  unfold TSt at h
  have e : frontD k = [] := by unfold frontD; rw [if_pos (by omega)]
  rw [h, e]; rfl
theorem digit_app (i : Nat) (h : i < 10) (l : List UInt8) : ((⟨#[48, 49, 50, 51, 52, 53, 54, 55, 56, 57]⟩ : ByteArray).extract i (i + 1)) ++ (⟨l.toArray⟩ : ByteArray) = ⟨(UInt8.ofNat (48 + i) :: l).toArray⟩ := by
  rw [digit_at i h]
  apply ByteArray.ext
  simp
set_option maxHeartbeats 2000000 in
theorem text01_any (u : Nat) (hu : u ≤ 18446744073709551615) (w : World) :
    Calls Tryz.prog 46 #[.int .u64 u] w fun e w' => e = .returned (.string ⟨(Lib.decDigits u).toArray⟩) ∧ Gr w w' := by
  go_enter Tryz.func46, Tryz.ntmps46
  go_wp2
  go_loop [0, 4] (fun n s => ∃ (k : Nat) (l : List UInt8), n = .int .u64 k ∧ k ≤ u ∧ s = .string ⟨l.toArray⟩ ∧ TSt u k l) (fun n _ => (intOf n).toNat)
  case atStart => exact ⟨u, [UInt8.ofNat (48 + u % 10)], rfl, Nat.le_refl _, by rw [digit_at _ (by omega)], front_digits u⟩
  case round =>
    obtain ⟨k, l, rfl, hk, rfl, hd⟩ := hrel
    have hll : l.length ≤ 20 := by
      have h1 := dec_len u (by omega)
      rw [hd, List.length_append] at h1
      omega
    have HD := Lib.hid hd; clear hd
    by_cases h9 : 9 < k
    · go_wp2
      go_round
      case rel => exact ⟨k / 10, _, by go_num, by omega, by rw [digit_app _ (by omega)], tst_next HD.out h9⟩
      case measure => simp [intOf]; omega
    · go_wp2
      go_ret
      exact ⟨by rw [tst_end HD.out (by omega)]; rfl, gri⟩
theorem text26_any (n : Nat) (hn : n ≤ 9223372036854775807) (w : World) :
    Calls Tryz.prog 47 #[.int .i64 n] w fun e w' => e = .returned (.string ⟨(Lib.decDigits n).toArray⟩) ∧ Gr w w' := by
  have hw2 : IntKind.u64.wrap (n : Int) = (n : Int) := by rw [u64_wrap]; omega
  go_enter Tryz.func47, Tryz.ntmps47
  go_wp2_with ((go_at_call 46; ((with_reducible refine (text01_any n (by omega) _).mono ?_); rintro _ _ ⟨rfl, g, rfl⟩)))
  go_ret
  exact ⟨rfl, gri⟩
/-- What Words has cut ahead of place k, the last word from place f on. -/
def CSt (c : UInt8) (s : ByteArray) (f k : Nat) (d : List ByteArray) : Prop := cutL c (s.data.toList.take k) = d.map (·.data.toList) ++ [(s.data.toList.drop f).take (k - f)]
theorem cst_start (c : UInt8) (s : ByteArray) : CSt c s 0 0 [] := by simp [CSt, cutL]
theorem cst_sep {c : UInt8} {s : ByteArray} {f k : Nat} {d : List ByteArray} (h : CSt c s f k d) (hk : k < s.data.toList.length) (e : s.data.toList[k] = c) : CSt c s (k + 1) (k + 1) (d ++ [s.extract f k]) := by
  unfold CSt at h ⊢
  rw [List.take_succ_eq_append_getElem hk, e, cutL_snoc_sep, h]
  simp [Lib.extract_data]
theorem cst_ne {c : UInt8} {s : ByteArray} {f k : Nat} {d : List ByteArray} (h : CSt c s f k d) (hf : f ≤ k) (hk : k < s.data.toList.length) (e : s.data.toList[k] ≠ c) : CSt c s f (k + 1) d := by
  unfold CSt at h ⊢
  rw [List.take_succ_eq_append_getElem hk, cutL_snoc_ne e _ _ _ h]
  congr 2
  have h1 : k - f < (s.data.toList.drop f).length := by rw [List.length_drop]; omega
  rw [show k + 1 - f = (k - f) + 1 by omega, List.take_succ_eq_append_getElem h1]
  congr 2
  rw [List.getElem_drop]
  congr 1
  omega
theorem cst_end {c : UInt8} {s : ByteArray} {f k : Nat} {d : List ByteArray} (h : CSt c s f k d) (hk : k = s.size) : d ++ [s.extract f s.size] = wordsB c s := by
  unfold CSt at h
  subst hk
  have e1 : s.data.toList.take s.size = s.data.toList := List.take_of_length_le (by rw [← Lib.size_eq]; exact Nat.le_refl _)
  rw [e1] at h
  have h2 : (d ++ [s.extract f s.size]).map (·.data.toList) = (wordsB c s).map (·.data.toList) := by
    rw [wordsB_data, h]; simp [Lib.extract_data]
  have h3 := congrArg (List.map fun l => (⟨l.toArray⟩ : ByteArray)) h2
  rw [List.map_map, List.map_map] at h3
  have e : ∀ l : List ByteArray, l.map ((fun l : List UInt8 => (⟨l.toArray⟩ : ByteArray)) ∘ fun x => x.data.toList) = l := fun l => by
    induction l with
    | nil => rfl
    | cons x r ih => rw [List.map_cons, ih]; rfl
  rw [e, e] at h3
  exact h3
theorem cst_len {c : UInt8} {s : ByteArray} {f k : Nat} {d : List ByteArray} (h : CSt c s f k d) : d.length ≤ k := by
  unfold CSt at h
  have h1 := cutL_len_le c (s.data.toList.take k)
  rw [h] at h1
  have h2 := List.length_take_le k s.data.toList
  simp at h1
  omega
set_option maxRecDepth 100000 in
set_option maxHeartbeats 4000000 in
theorem words26_any (s : ByteArray) (c : UInt8) (hs : s.size ≤ 900000) (w : World) :
    Calls Tryz.prog 41 #[.string s, .int .u8 c.toNat] w fun e w' => ∃ v, e = .returned v ∧ OwnS w.heap.size w' v (wordsB c s) ∧ Below w.heap.size w w' := by
  go_enter Tryz.func41, Tryz.ntmps41
  go_wp2
  go_loopw [5, 6, 7] (fun v f i wr => ∃ (fn k : Nat) (d : List ByteArray), f = .int .i64 fn ∧ i = .int .i64 k ∧ fn ≤ k ∧ k ≤ s.size ∧ OwnS w.heap.size wr v d ∧ CSt c s fn k d ∧ Below w.heap.size w wr) (fun _ _ i _ => s.size - (intOf i).toNat)
  case atStart => exact ⟨0, 0, [], rfl, rfl, Nat.le_refl _, Nat.zero_le _, OwnS.nil _ _, cst_start c s, Below.refl _ _⟩
  case round =>
    obtain ⟨fn, k, d, rfl, rfl, hfk, hk, hown, hc, hbw⟩ := hrel
    have hlen := cst_len hc
    have HC := Lib.hid hc; clear hc
    have hsz := hbw.size
    by_cases hlt : k < s.size
    · by_cases hx : s[k] = c
      · have hb : ((s[k].toNat : Int) == (c.toNat : Int)) = true := by rw [hx]; simp
        have HX := Lib.hid hx; clear hx
        go_wp2_with (at_builtin; refine wp_append_strs rfl _ _ rfl w.heap.size ?vv d ?hs1 ?own1 _ [s.extract fn k] 1 rfl rfl ?hc1 ?hl1 ?hb1 ?_)
        case own1 => exact hown.alloc_ _
        case hs1 => rfl
        case hc1 =>
          intro j y hj
          match j, hj with
          | 0, hj => simp at hj; subst hj; simp [go_sem]
        case hl1 => simp; omega
        case hb1 => simp; omega
        intro v1 w1 a1
        have hb1 := a1.chain (a := w) (hbw.alloc hsz _) (Nat.le_refl _)
        have hown1 := a1.own
        clear a1 hown hbw
        go_wp2
        go_roundw
        case rel => exact ⟨k + 1, k + 1, _, by go_num, by go_num, by omega, by omega, hown1, cst_sep HC.out (by rw [← Lib.size_eq]; exact hlt) HX.out, hb1⟩
        case measure => simp [intOf]; omega
      · have hb : ((s[k].toNat : Int) == (c.toNat : Int)) = false := by
          simp only [beq_eq_false_iff_ne, ne_eq]; intro h; exact hx (UInt8.toNat_inj.1 (by omega))
        have HX := Lib.hid hx; clear hx
        go_wp2
        go_roundw
        case rel => exact ⟨fn, k + 1, d, rfl, by go_num, by omega, by omega, hown, cst_ne HC.out hfk (by rw [← Lib.size_eq]; exact hlt) HX.out, hbw⟩
        case measure => simp [intOf]; omega
    · go_wp2_with (at_builtin; refine wp_append_strs rfl _ _ rfl w.heap.size ?vv2 d ?hs2 ?own2 _ [s.extract fn s.size] 1 rfl rfl ?hc2 ?hl2 ?hb2 ?_)
      case own2 => exact hown.alloc_ _
      case hs2 => rfl
      case hc2 =>
        intro j y hj
        match j, hj with
        | 0, hj => simp at hj; subst hj; simp [go_sem]
      case hl2 => simp; omega
      case hb2 => simp; omega
      intro v1 w1 a1
      have hb1 := a1.chain (a := w) (hbw.alloc hsz _) (Nat.le_refl _)
      have hown1 := a1.own
      rw [cst_end HC.out (by omega)] at hown1
      clear a1 hown hbw
      go_wp2
      go_ret
      exact ⟨_, rfl, hown1, hb1⟩
end Go.Proofs.YtgjdgafoidppaaaGreatDoor
namespace Go.Proofs.YtgjdgafoidppaaaGreatDoor
open Go.RowKit
set_option linter.unusedVariables false
set_option linter.unusedSimpArgs false
set_option linter.unnecessarySimpa false
end Go.Proofs.YtgjdgafoidppaaaGreatDoor
namespace Go.Proofs.YtgjdgafoidppaaaGreatDoor
open Go.RowKit
set_option linter.unusedVariables false
set_option linter.unusedSimpArgs false
set_option linter.unnecessarySimpa false
theorem Row.set_other {X o : Nat} {W : World} {A : Option Addr} {l : List ByteArray} (h : Row Value.string W A l) (u v : Value) (hc : W.cell? ⟨X, o, none⟩ = some u) (hu : ∀ s, u ≠ .string s) : Row Value.string (W.setCell ⟨X, o, none⟩ v) A l :=
  ⟨fun h0 => by
    obtain ⟨b, o', rfl, hb, hx⟩ := h.at_ h0
    refine ⟨b, o', rfl, by simpa [World.setCell] using hb, fun j x hj => ?_⟩
    have h1 := hx j x hj
    rw [World.cell?_setCell_other _ _ _ _ (fun e => by
      rw [← e, hc] at h1
      exact hu x (Option.some.inj h1))]
    exact h1⟩
theorem WS.set_other {p X o : Nat} {W : World} {ws : List ByteArray} {bad : Bool} (h : WS p W ws bad) (u v : Value) (hne : X ≠ p) (hc : W.cell? ⟨X, o, none⟩ = some u) (hu : ∀ s, u ≠ .string s) : WS p (W.setCell ⟨X, o, none⟩ v) ws bad := by
  obtain ⟨f0, f1, c1, ⟨A, c, c0, hcc, hn, hr⟩, few, short⟩ := h
  refine ⟨by rw [World.frozen?_setCell]; exact f0, by rw [World.frozen?_setCell]; exact f1, ?_, ⟨A, c, ?_, hcc, hn, hr.set_other u v hc hu⟩, few, short⟩
  · rw [World.cell?_setCell_other _ _ _ _ (fun e => hne (congrArg Addr.block e))]; exact c1
  · rw [World.cell?_setCell_other _ _ _ _ (fun e => hne (congrArg Addr.block e))]; exact c0
theorem WS.alloc {p : Nat} {W : World} {ws : List ByteArray} {bad : Bool} (h : WS p W ws bad) (ob : Obj) : WS p (W.alloc ob) ws bad := h.gr ⟨_, below_alloc (Below.refl _ _) ob⟩
theorem WS.start (W : World) (ws : List ByteArray) (n n0 p : Nat) (T : TypeId) (hn : n = ws.length) [h1 : BlockAt W n0 (ws.map Value.string).toArray 9] [h2 : BlockAt W p #[.slice (some ⟨n0, 0, none⟩) n n, .bool false] T] (hne : n0 ≠ p) (few : ws.length ≤ 1000000) (short : ∀ x ∈ ws, x.size ≤ 1000000000) : WS p W ws false := by
  subst hn
  refine ⟨block_frozen _ _ _ _ _, block_frozen _ _ _ _ _, (block_cells _ _ _ _ _).trans rfl, ⟨_, _, (block_cells _ _ _ _ _).trans rfl, Nat.le_refl _, fun a e => by cases e; exact hne, ⟨fun _ => ⟨n0, 0, rfl, h1.lt, fun j x hj => ?_⟩⟩⟩, few, short⟩
  rw [block_cells, Nat.zero_add]
  simp [hj]
/-- A word by its place; the empty one, where there is none. -/
def wd (ws : List ByteArray) (i : Nat) : ByteArray := hdW (ws.drop i)
def bW (s : ByteArray) (i : Nat) : Bool := !decOk (wd (wordsB 32 s) i).data.toList 1000000
theorem itoa_no32 (n : Int) (h : 0 ≤ n) : (32 : UInt8) ∉ Lib.itoa n := by
  obtain ⟨k, rfl⟩ := Int.eq_ofNat_of_zero_le h
  rw [show ((k : Nat) : Int) = (k : Int) from rfl, Lib.itoa_nonneg]
  intro hm
  have h2 := (decDigits_all k).2.1
  rw [List.all_eq_true] at h2
  exact absurd (h2 32 hm) (by decide)
theorem below_set_le {a w : World} (h : Below a.heap.size a w) {b o : Nat} (hp : a.heap.size ≤ b) (u : Value) : Below a.heap.size a (w.setCell ⟨b, o, none⟩ u) := below_set h hp u
end Go.Proofs.YtgjdgafoidppaaaGreatDoor
namespace Go.Proofs.YtgjdgafoidppaaaGreatDoor
open Go.RowKit
set_option linter.unusedVariables false
set_option linter.unusedSimpArgs false
set_option linter.unnecessarySimpa false
def padS (b : List UInt8) : List UInt8 := b.take 64 ++ List.replicate (64 - b.length) 0
def secOf (x : ByteArray) : List UInt8 := if x.data.toList == [45] then List.replicate 64 0 else padS ((unhexL x.data.toList).getD [])
def badPc (x : ByteArray) : Bool := !(x.data.toList == [45]) && (!(unhexL x.data.toList).isSome || decide (64 < ((unhexL x.data.toList).getD []).length))
def dataOf (x : ByteArray) : List UInt8 := (wordsB 44 x).flatMap secOf
def dataBad (x : ByteArray) : Bool := (wordsB 44 x).any badPc
theorem padS_len (b : List UInt8) : (padS b).length = 64 := by simp [padS]; omega
theorem secOf_len (x : ByteArray) : (secOf x).length = 64 := by
  unfold secOf
  split
  · simp
  · exact padS_len _
theorem flat_len : ∀ l : List ByteArray, (l.flatMap secOf).length = 64 * l.length
  | [] => rfl
  | x :: l => by rw [List.flatMap_cons, List.length_append, secOf_len, flat_len l, List.length_cons]; omega
def zs64 : Array Value := Array.replicate 64 (.int .u8 0)
theorem zs64_bv : zs64 = ((List.replicate 64 (0 : UInt8)).map bv).toArray := by kernel_rfl
theorem z64_at (j : Nat) (y : UInt8) (hj : (List.replicate 64 (0 : UInt8))[j]? = some y) : zs64[j]? = some (bv y) := by
  rw [zs64_bv]
  simp only [List.getElem?_toArray, List.getElem?_map, hj, Option.map_some]
def zl64 : List Value := List.replicate 64 (.int .u8 0)
def cs64 (b : List UInt8) : List Value := (b.take 64).map bv
theorem copyLen (b : List UInt8) : (cs64 b).length = Nat.min b.length 64 := by simp only [cs64]; simp only [List.length_map, List.length_take]; exact Nat.min_comm _ _
theorem copyFit (b : List UInt8) : 0 + (cs64 b).length ≤ zl64.length := by simp [cs64, zl64, List.length_take]; omega
theorem copyOne (b : List UInt8) : ∀ v ∈ cs64 b, v.oneCell' = true := by
  intro v hv
  simp only [cs64, List.mem_map] at hv
  obtain ⟨y, _, rfl⟩ := hv
  rfl
theorem copySec (W : World) (g p : Nat) (u : Value) (T : TypeId) (h : W.heap[g]? = some (.cells zs64 T (0, 0))) (hne : g ≠ p) : (W.setCell ⟨p, 1, none⟩ u).heap[g]? = some (.cells zl64.toArray T (0, 0)) := by
  refine (Below.heap_setCell W ⟨p, 1, none⟩ u g hne).trans (h.trans ?_)
  rw [zs64_bv]; rfl
theorem copySrc (W : World) (p : Nat) (B : Bool) (b : List UInt8) (A : Option Addr) (h : Row bv W A b) (hne : ∀ a, A = some a → a.block ≠ p) (hc : 0 < (cs64 b).length) :
    ∃ ad, A = some ad ∧ ∀ j v, (cs64 b)[j]? = some v → (W.setCell ⟨p, 1, none⟩ (.bool B)).cell? (ad.add j) = some v := by
  unfold cs64 at hc ⊢
  have hb : b ≠ [] := by rintro rfl; simp at hc
  obtain ⟨g, o, rfl, _, hcell⟩ := h.at_ hb
  refine ⟨_, rfl, fun j v hj => ?_⟩
  rw [List.getElem?_map, List.getElem?_take] at hj
  split at hj
  · cases hy : b[j]? with
    | none => rw [hy] at hj; cases hj
    | some y =>
      rw [hy] at hj; cases hj
      rw [Go.WideShapes.add_plain, World.cell?_setCell_other _ _ _ _ (by intro e; injection e with e1; exact hne _ rfl e1.symm)]
      exact hcell j y hy
  · cases hj
theorem spliceS (b : List UInt8) : (splice zl64 0 (cs64 b)) = (padS b).map bv := by
  have e : List.replicate 64 (Value.int .u8 0) = (List.replicate 64 (0 : UInt8)).map bv := by kernel_rfl
  have e2 : 64 - min 64 b.length = 64 - b.length := by omega
  rw [cs64, zl64, splice, padS, List.map_append, e, List.take_zero, List.nil_append, Nat.zero_add, ← List.map_drop, List.length_map, List.length_take, List.drop_replicate, e2]
/-- The words that are left, as they stood at W0. -/
structure WSo (p : Nat) (W0 W : World) (ws : List ByteArray) (bad : Bool) : Prop where
  f0 : W.frozen? ⟨p, 0, none⟩ = false
  f1 : W.frozen? ⟨p, 1, none⟩ = false
  c1 : W.cell? ⟨p, 1, none⟩ = some (.bool bad)
  c0 : ∃ A c, W.cell? ⟨p, 0, none⟩ = some (.slice A ws.length c) ∧ ws.length ≤ c ∧ (∀ a, A = some a → a.block ≠ p) ∧ Row Value.string W0 A ws
  few : ws.length ≤ 1000000
  short : ∀ x ∈ ws, x.size ≤ 1000000000
theorem WS.o {p : Nat} {W : World} {ws : List ByteArray} {bad : Bool} (h : WS p W ws bad) : WSo p W W ws bad := ⟨h.f0, h.f1, h.c1, h.c0, h.few, h.short⟩
theorem WSo.ws {p : Nat} {W0 W : World} {ws : List ByteArray} {bad : Bool} (h : WSo p W0 W ws bad) (r : Wrd p W0 W) : WS p W ws bad := by
  obtain ⟨f0, f1, c1, ⟨A, c, c0, hc, hne, hr⟩, few, short⟩ := h
  exact ⟨f0, f1, c1, ⟨A, c, c0, hc, hne, hr.wrd r hne⟩, few, short⟩
theorem WSo.below {p B : Nat} {W0 W W' : World} {ws : List ByteArray} {bad : Bool} (h : WSo p W0 W ws bad) (hb : Below B W W') (hp : p < B) : WSo p W0 W' ws bad := by
  obtain ⟨f0, f1, c1, ⟨A, c, c0, hc, hne, hr⟩, few, short⟩ := h
  exact ⟨(hb.frozen (p := ⟨p, 0, none⟩) hp).trans f0, (hb.frozen (p := ⟨p, 1, none⟩) hp).trans f1, (hb.cell (p := ⟨p, 1, none⟩) hp).trans c1, ⟨A, c, (hb.cell (p := ⟨p, 0, none⟩) hp).trans c0, hc, hne, hr⟩, few, short⟩
theorem WSo.bad {p : Nat} {W0 W : World} {ws : List ByteArray} {bad : Bool} (h : WSo p W0 W ws bad) (b : Bool) : WSo p W0 (W.setCell ⟨p, 1, none⟩ (.bool b)) ws b := by
  obtain ⟨f0, f1, c1, ⟨A, c, c0, hc, hne, hr⟩, few, short⟩ := h
  refine ⟨by rw [World.frozen?_setCell]; exact f0, by rw [World.frozen?_setCell]; exact f1, World.cell?_setCell_same _ _ _ c1, ⟨A, c, ?_, hc, hne, hr⟩, few, short⟩
  rw [World.cell?_setCell_other _ _ _ _ (by intro e; cases e)]; exact c0
theorem Wrd.more {p B : Nat} {W0 W W' : World} (h : Wrd p W0 W) (hb : Below B W W') (hB : W0.heap.size ≤ B) : Wrd p W0 W' :=
  ⟨hb.os.trans h.g.os, hb.tape.trans h.g.tape, hb.output.trans h.g.output, Nat.le_trans h.g.size hb.size, fun i hi hne => (hb.block i (Nat.lt_of_lt_of_le hi hB)).trans (h.g.block i hi hne)⟩
theorem OwnR.wrd {α : Type} {enc : α → Value} {E : TypeId} {base p : Nat} {W W' : World} {v : Value} {xs : List α} (h : OwnR enc E base W v xs) (r : Wrd p W W') (hp : p < base) : OwnR enc E base W' v xs := by
  refine ⟨h.1, ?_⟩
  rcases h.2 with h2 | ⟨g, cap, cur, hv, hb, hh, h4⟩
  · exact .inl h2
  · exact .inr ⟨g, cap, cur, hv, hb, (r.g.block g (Array.getElem?_eq_some_iff.1 hh).1 (fun e => by cases e; omega)).trans hh, h4⟩
theorem Wrd.blockAt {p g : Nat} {W W' : World} {cs : Array Value} {t : TypeId} (r : Wrd p W W') (h : BlockAt W g cs t) (hne : g ≠ p) : BlockAt W' g cs t :=
  ⟨(r.g.block g (Array.getElem?_eq_some_iff.1 h.eq).1 (fun e => by cases e; exact hne rfl)).trans h.eq⟩
/-- What stands behind the copy. -/
structure DatC (p : Nat) (W1 wr W4 : World) (ws : List ByteArray) (B : Bool) (v : Value) (o : List UInt8) (ps : List ByteArray) (b : List UInt8) : Prop where
  own : OwnR bv 5 W1.heap.size W4 v o
  cell : ∀ j y, (padS b)[j]? = some y → W4.cell? ⟨wr.heap.size, 0 + j, none⟩ = some (bv y)
  ws : WSo p W1 W4 ws B
  blk : BlockAt W4 W1.heap.size (ps.map Value.string).toArray 9
  wrd : Wrd p W1 W4
theorem datC {p : Nat} {W1 wr W2 W4 : World} {ws : List ByteArray} {b0 B : Bool} {v : Value} {o : List UInt8} {ps : List ByteArray} {b : List UInt8} {T : TypeId}
    (h1 : OwnR bv 5 W1.heap.size wr v o) (h2 : Wrd p W1 wr) (h3 : Wrd p wr W2) (h4 : WSo p W1 W2 ws b0) (h5 : BlockAt wr W1.heap.size (ps.map Value.string).toArray 9) (hp : p < W1.heap.size)
    (h6 : Hid (W4.heap[wr.heap.size]? = some (.cells (splice zl64 0 (cs64 b)).toArray T (0, 0)))) (h7 : Below wr.heap.size (W2.setCell ⟨p, 1, none⟩ (.bool B)) W4) : DatC p W1 wr W4 ws B v o ps b := by
  have r : Wrd p wr W4 := (h3.trans (Wrd.set _ _ _ _)).more h7 (Nat.le_refl _)
  have hs := h2.g.size
  refine ⟨h1.wrd r hp, ?_, (h4.bad B).below h7 (by omega), r.blockAt h5 (by omega), h2.trans r⟩
  intro j y hj
  have := h6.out
  rw [spliceS] at this
  rw [Nat.zero_add]
  simp only [World.cell?, this]
  simp [hj]
set_option maxRecDepth 100000 in
set_option maxHeartbeats 4000000 in
theorem data_any (p : Nat) (W : World) [hm : Ml W] [hfp : Far p] (ws : List ByteArray) (bad : Bool) (h : WS p W ws bad) (hw : (hdW ws).size ≤ 200000) :
    Calls Tryz.prog 83 #[.pointer (some ⟨p, 0, none⟩)] W fun e W' => ∃ v, e = .returned v ∧ OwnR bv 5 W.heap.size W' v (dataOf (hdW ws)) ∧ WS p W' ws.tail ((bad || ws.isEmpty) || dataBad (hdW ws)) ∧ Wrd p W W' := by
  have H := Lib.hid h; clear h
  go_enter Tryz.func83, Tryz.ntmps83
  go_wp2_with ((go_at_call 49; ((with_reducible refine (word_any p _ ws bad H.out).mono ?_))))
  rintro _ W1 ⟨rfl, h1, r1⟩
  haveI : Ml W1 := r1.ml
  have hp1 := h1.old.lt
  have H1 := Lib.hid h1; have R1 := Lib.hid r1; clear h1 r1
  have hsz1 := R1.out.g.size
  go_wp2_with ((go_at_call 36; ((with_reducible refine (split_any (hdW ws) 44 _ (by omega)).mono ?_))))
  rintro _ _ ⟨rfl, rfl⟩
  have hn := wordsB_le 44 (hdW ws)
  have hsh := Lib.hid (fun x hx => wordsB_each 44 (hdW ws) x hx)
  generalize hps : wordsB 44 (hdW ws) = ps at *
  have HPS := Lib.hid hps; clear hps
  go_wp2
  go_loopw [3, 13] (fun v i wr => ∃ k : Nat, i = .int .i64 k ∧ k ≤ ps.length ∧ OwnR bv 5 W1.heap.size wr v ((ps.take k).flatMap secOf) ∧ WSo p W1 wr ws.tail ((bad || ws.isEmpty) || (ps.take k).any badPc) ∧ BlockAt wr W1.heap.size (ps.map Value.string).toArray 9 ∧ Wrd p W1 wr) (fun _ i _ => ps.length - (intOf i).toNat)
  case atStart => exact ⟨0, rfl, Nat.zero_le _, OwnR.nil _ _, by simpa using (H1.out.o.below (below_alloc (Below.refl W1.heap.size W1) _) hp1), inferInstance, Wrd.gr (Gr.of (below_alloc (Below.refl _ _) _))⟩
  case round =>
    obtain ⟨k, rfl, hk, hown, hws, hblk, hwrd⟩ := hrel
    have HWS := Lib.hid hws; have HWR := Lib.hid hwrd; clear hws hwrd
    have hsz := HWR.out.g.size
    have hfl := flat_len (ps.take k)
    have htl : (ps.take k).length ≤ k := List.length_take_le _ _
    by_cases hlt : k < ps.length
    · have hx : wr.cell? ⟨W1.heap.size, k, none⟩ = some (.string ps[k]) := by rw [block_cells]; simp [hlt]
      have hxs : ps[k].size ≤ (hdW ws).size := hsh.out _ (List.getElem_mem hlt)
      have htk := List.take_succ_eq_append_getElem hlt
      generalize hxk : ps[k] = x at *
      clear hxk
      have HT := Lib.hid htk; clear htk
      rcases Bool.eq_false_or_eq_true (x.toList == [45]) with h45 | h45
      · have e45 : (x.data.toList == [45]) = true := by rw [← Lib.toList_data]; exact h45
        have E1 := Lib.hid (show secOf x = List.replicate 64 0 by rw [secOf, if_pos e45])
        have E2 := Lib.hid (show badPc x = false by rw [badPc, e45]; rfl)
        clear e45
        go_wp2_with (at_builtin; refine wp_append_byte rfl _ _ rfl W1.heap.size ?vv ((ps.take k).flatMap secOf) ?hs1 ?own1 _ 0 64 (List.replicate 64 0) 64 (by simp) rfl ?hc1 ?hl1 ?hb1 ?_)
        case hs1 => rfl
        case own1 => exact hown.alloc_ _
        case hc1 =>
          intro j y hj
          rw [Nat.zero_add, World.cell?_alloc_new]
          exact z64_at j y hj
        case hl1 => simp only [List.length_replicate]; omega
        case hb1 => simp; omega
        intro v2 W2 a2
        have hbA : Below W1.heap.size wr W2 := ((Below.refl _ wr).alloc hsz _).trans a2.below
        have hown2 := a2.own
        have hblk2 := a2.keep _ _ _ (inferInstance : BlockAt _ W1.heap.size _ _) (by decide)
        clear a2
        go_wp2
        go_roundw
        case rel =>
          refine ⟨k + 1, by go_num, by omega, ?_, ?_, hblk2, HWR.out.more hbA (Nat.le_refl _)⟩
          · rw [HT.out, List.flatMap_append, List.flatMap_singleton, E1.out]; exact hown2
          · have := HWS.out.below hbA hp1
            rw [HT.out, List.any_append]
            simpa [E2.out] using this
        case measure => simp [intOf]; omega
      · -- HEX
        have e45 : (x.data.toList == [45]) = false := by rw [← Lib.toList_data]; exact h45
        have E1 := Lib.hid (show secOf x = padS ((unhexL x.data.toList).getD []) by rw [secOf, if_neg (by simpa using e45)])
        have E2 := Lib.hid (show badPc x = (!(unhexL x.data.toList).isSome || decide (64 < ((unhexL x.data.toList).getD []).length)) by rw [badPc, e45]; rfl)
        clear e45
        have hul : ((unhexL x.data.toList).getD []).length ≤ 200000 := by
          cases hu : unhexL x.data.toList with
          | none => simp
          | some o => have := unhexL_len _ _ hu; rw [← Lib.size_eq] at this; simp; omega
        have HU := Lib.hid (fun V => unhex_any x (by omega) V)
        go_wp2_with ((go_at_call 103; ((with_reducible refine (HU.out _).mono ?_))))
        clear HU
        generalize (unhexL x.data.toList).getD [] = b at *
        generalize (unhexL x.data.toList).isSome = so at *
        rintro _ W2 ⟨vb, rfl, hob, hbB⟩
        have hwA : Wrd p wr W2 := (Wrd.gr (Gr.of (below_alloc (Below.refl _ _) _))).more hbB (by simp)
        have hsec : W2.heap[wr.heap.size]? = some (.cells zs64 137 (0, 0)) := (hbB.block _ (by simp)).trans (heap_alloc_new wr _)
        have hws2 := (HWS.out.below (below_alloc (Below.refl wr.heap.size wr) _) (Nat.lt_of_lt_of_le hp1 hsz)).below hbB (Nat.lt_of_lt_of_le hp1 (Nat.le_trans hsz (by simp)))
        have hob' : OwnR bv 5 wr.heap.size W2 vb b := OwnR.more hob (by simp)
        have HOB := Lib.hid hob'; clear hob hob'
        have HWA := Lib.hid hwA; clear hwA
        have HBB := Lib.hid hbB; clear hbB
        have HSEC := Lib.hid hsec; clear hsec
        have c1 := hws2.c1
        have f1 := hws2.f1
        have HW2 := Lib.hid hws2; clear hws2
        have HWN := Lib.hid hown; clear hown
        have HBL := Lib.hid hblk; clear hblk
        generalize hbk : ((bad || ws.isEmpty) || (ps.take k).any badPc) = bk at *
        have HBK := Lib.hid hbk; clear hbk
        obtain ⟨Ab, cb, rfl, hcb, hrb⟩ := HOB.out.form
        have hneb : ∀ a, Ab = some a → a.block ≠ p := fun a e => by
          have := HOB.out.lt a.block (by simp [Value.ownBlock, e])
          omega
        have HRB := Lib.hid hrb; clear hrb
        have HNB := Lib.hid hneb; clear hneb
        rcases Bool.eq_false_or_eq_true bk with hk1 | hk1
        · rw [hk1] at c1
          have HB := Lib.hid (show (true : Bool) = (bk || badPc x) by rw [E2.out]; simp [*])
          go_wp2_with (with_reducible refine wpList_copy_splice rfl (.tmp 40) (.tmp 41) 24 24 rfl 5 Tryz.underlying24 ?hsz1 (some ⟨wr.heap.size, 0, none⟩) Ab 64 64 b.length cb ?hd1 ?hs1 wr.heap.size 0 zl64 137 ?hg1 (cs64 b) ?hn1 ?hpos1 ?hfit1 ?h11 wr.heap.size (W2.setCell ⟨p, 1, none⟩ (.bool true)) ?hb1 ?hBg1 ?_)
          case hsz1 => kernel_rfl
          case hd1 => rfl
          case hs1 => rfl
          case hg1 => exact copySec _ _ _ _ _ HSEC.out (by omega)
          case hn1 => exact copyLen b
          case hpos1 =>
            intro hc
            first | exact copySrc _ _ _ _ _ HRB.out HNB.out hc | exact ⟨rfl, copySrc _ _ _ _ _ HRB.out HNB.out hc⟩
          case hfit1 => exact copyFit b
          case h11 => exact copyOne b
          case hb1 => exact Below.refl _ _
          case hBg1 => exact Nat.le_refl _
          intro W4 HG4 hB4
          have HC := Lib.hid (datC HWN.out HWR.out HWA.out HW2.out HBL.out hp1 HG4 hB4)
          clear HG4 hB4
          have hs4 := HC.out.wrd.g.size
          go_wp2_with (at_builtin; refine wp_append_byte rfl _ _ rfl W1.heap.size ?vv1 ((ps.take k).flatMap secOf) ?hsa1 ?own1 wr.heap.size 0 64 (padS b) 64 (padS_len b) rfl ?hc1 ?hl1 ?hb11 ?_)
          case hsa1 => rfl
          case own1 => exact HC.out.own
          case hc1 => exact HC.out.cell
          case hl1 => rw [padS_len]; omega
          case hb11 => exact hs4
          intro v2 W5 a2
          have hown2 := a2.own
          have hblk2 := a2.keep _ _ _ HC.out.blk (by decide)
          have hwrd2 := HC.out.wrd.more a2.below (Nat.le_refl _)
          have hws2 := HC.out.ws.below a2.below hp1
          clear a2
          go_wp2
          go_roundw
          case rel =>
            refine ⟨k + 1, by go_num, by omega, ?_, ?_, hblk2, hwrd2⟩
            · rw [HT.out, List.flatMap_append, List.flatMap_singleton, E1.out]; exact hown2
            · rw [HT.out, List.any_append, List.any_cons, List.any_nil, Bool.or_false, ← Bool.or_assoc, HBK.out, ← HB.out]
              exact hws2
          case measure => simp [intOf]; omega
        · rw [hk1] at c1
          rcases Bool.eq_false_or_eq_true so with hso | hso
          · subst hso
            by_cases hbl : 64 < b.length
            · have hbi : decide ((64 : Int) < (b.length : Int)) = true := decide_eq_true (by omega)
              have HB := Lib.hid (show (true : Bool) = (bk || badPc x) by rw [E2.out]; simp [*])
              go_wp2_with (with_reducible refine wpList_copy_splice rfl (.tmp 40) (.tmp 41) 24 24 rfl 5 Tryz.underlying24 ?hsz2 (some ⟨wr.heap.size, 0, none⟩) Ab 64 64 b.length cb ?hd2 ?hs2 wr.heap.size 0 zl64 137 ?hg2 (cs64 b) ?hn2 ?hpos2 ?hfit2 ?h12 wr.heap.size (W2.setCell ⟨p, 1, none⟩ (.bool true)) ?hb2 ?hBg2 ?_)
              case hsz2 => kernel_rfl
              case hd2 => rfl
              case hs2 => rfl
              case hg2 => exact copySec _ _ _ _ _ HSEC.out (by omega)
              case hn2 => exact copyLen b
              case hpos2 =>
                intro hc
                first | exact copySrc _ _ _ _ _ HRB.out HNB.out hc | exact ⟨rfl, copySrc _ _ _ _ _ HRB.out HNB.out hc⟩
              case hfit2 => exact copyFit b
              case h12 => exact copyOne b
              case hb2 => exact Below.refl _ _
              case hBg2 => exact Nat.le_refl _
              intro W4 HG4 hB4
              have HC := Lib.hid (datC HWN.out HWR.out HWA.out HW2.out HBL.out hp1 HG4 hB4)
              clear HG4 hB4
              have hs4 := HC.out.wrd.g.size
              go_wp2_with (at_builtin; refine wp_append_byte rfl _ _ rfl W1.heap.size ?vv2 ((ps.take k).flatMap secOf) ?hsa2 ?own2 wr.heap.size 0 64 (padS b) 64 (padS_len b) rfl ?hc2 ?hl2 ?hb12 ?_)
              case hsa2 => rfl
              case own2 => exact HC.out.own
              case hc2 => exact HC.out.cell
              case hl2 => rw [padS_len]; omega
              case hb12 => exact hs4
              intro v2 W5 a2
              have hown2 := a2.own
              have hblk2 := a2.keep _ _ _ HC.out.blk (by decide)
              have hwrd2 := HC.out.wrd.more a2.below (Nat.le_refl _)
              have hws2 := HC.out.ws.below a2.below hp1
              clear a2
              go_wp2
              go_roundw
              case rel =>
                refine ⟨k + 1, by go_num, by omega, ?_, ?_, hblk2, hwrd2⟩
                · rw [HT.out, List.flatMap_append, List.flatMap_singleton, E1.out]; exact hown2
                · rw [HT.out, List.any_append, List.any_cons, List.any_nil, Bool.or_false, ← Bool.or_assoc, HBK.out, ← HB.out]
                  exact hws2
              case measure => simp [intOf]; omega
            · have hbi : decide ((64 : Int) < (b.length : Int)) = false := decide_eq_false (by omega)
              have HB := Lib.hid (show (false : Bool) = (bk || badPc x) by rw [E2.out]; simp [*])
              go_wp2_with (with_reducible refine wpList_copy_splice rfl (.tmp 40) (.tmp 41) 24 24 rfl 5 Tryz.underlying24 ?hsz3 (some ⟨wr.heap.size, 0, none⟩) Ab 64 64 b.length cb ?hd3 ?hs3 wr.heap.size 0 zl64 137 ?hg3 (cs64 b) ?hn3 ?hpos3 ?hfit3 ?h13 wr.heap.size (W2.setCell ⟨p, 1, none⟩ (.bool false)) ?hb3 ?hBg3 ?_)
              case hsz3 => kernel_rfl
              case hd3 => rfl
              case hs3 => rfl
              case hg3 => exact copySec _ _ _ _ _ HSEC.out (by omega)
              case hn3 => exact copyLen b
              case hpos3 =>
                intro hc
                first | exact copySrc _ _ _ _ _ HRB.out HNB.out hc | exact ⟨rfl, copySrc _ _ _ _ _ HRB.out HNB.out hc⟩
              case hfit3 => exact copyFit b
              case h13 => exact copyOne b
              case hb3 => exact Below.refl _ _
              case hBg3 => exact Nat.le_refl _
              intro W4 HG4 hB4
              have HC := Lib.hid (datC HWN.out HWR.out HWA.out HW2.out HBL.out hp1 HG4 hB4)
              clear HG4 hB4
              have hs4 := HC.out.wrd.g.size
              go_wp2_with (at_builtin; refine wp_append_byte rfl _ _ rfl W1.heap.size ?vv3 ((ps.take k).flatMap secOf) ?hsa3 ?own3 wr.heap.size 0 64 (padS b) 64 (padS_len b) rfl ?hc3 ?hl3 ?hb13 ?_)
              case hsa3 => rfl
              case own3 => exact HC.out.own
              case hc3 => exact HC.out.cell
              case hl3 => rw [padS_len]; omega
              case hb13 => exact hs4
              intro v2 W5 a2
              have hown2 := a2.own
              have hblk2 := a2.keep _ _ _ HC.out.blk (by decide)
              have hwrd2 := HC.out.wrd.more a2.below (Nat.le_refl _)
              have hws2 := HC.out.ws.below a2.below hp1
              clear a2
              go_wp2
              go_roundw
              case rel =>
                refine ⟨k + 1, by go_num, by omega, ?_, ?_, hblk2, hwrd2⟩
                · rw [HT.out, List.flatMap_append, List.flatMap_singleton, E1.out]; exact hown2
                · rw [HT.out, List.any_append, List.any_cons, List.any_nil, Bool.or_false, ← Bool.or_assoc, HBK.out, ← HB.out]
                  exact hws2
              case measure => simp [intOf]; omega
          · subst hso
            have HB := Lib.hid (show (true : Bool) = (bk || badPc x) by rw [E2.out]; simp [*])
            go_wp2_with (with_reducible refine wpList_copy_splice rfl (.tmp 40) (.tmp 41) 24 24 rfl 5 Tryz.underlying24 ?hsz4 (some ⟨wr.heap.size, 0, none⟩) Ab 64 64 b.length cb ?hd4 ?hs4 wr.heap.size 0 zl64 137 ?hg4 (cs64 b) ?hn4 ?hpos4 ?hfit4 ?h14 wr.heap.size (W2.setCell ⟨p, 1, none⟩ (.bool true)) ?hb4 ?hBg4 ?_)
            case hsz4 => kernel_rfl
            case hd4 => rfl
            case hs4 => rfl
            case hg4 => exact copySec _ _ _ _ _ HSEC.out (by omega)
            case hn4 => exact copyLen b
            case hpos4 =>
              intro hc
              first | exact copySrc _ _ _ _ _ HRB.out HNB.out hc | exact ⟨rfl, copySrc _ _ _ _ _ HRB.out HNB.out hc⟩
            case hfit4 => exact copyFit b
            case h14 => exact copyOne b
            case hb4 => exact Below.refl _ _
            case hBg4 => exact Nat.le_refl _
            intro W4 HG4 hB4
            have HC := Lib.hid (datC HWN.out HWR.out HWA.out HW2.out HBL.out hp1 HG4 hB4)
            clear HG4 hB4
            have hs4 := HC.out.wrd.g.size
            go_wp2_with (at_builtin; refine wp_append_byte rfl _ _ rfl W1.heap.size ?vv4 ((ps.take k).flatMap secOf) ?hsa4 ?own4 wr.heap.size 0 64 (padS b) 64 (padS_len b) rfl ?hc4 ?hl4 ?hb14 ?_)
            case hsa4 => rfl
            case own4 => exact HC.out.own
            case hc4 => exact HC.out.cell
            case hl4 => rw [padS_len]; omega
            case hb14 => exact hs4
            intro v2 W5 a2
            have hown2 := a2.own
            have hblk2 := a2.keep _ _ _ HC.out.blk (by decide)
            have hwrd2 := HC.out.wrd.more a2.below (Nat.le_refl _)
            have hws2 := HC.out.ws.below a2.below hp1
            clear a2
            go_wp2
            go_roundw
            case rel =>
              refine ⟨k + 1, by go_num, by omega, ?_, ?_, hblk2, hwrd2⟩
              · rw [HT.out, List.flatMap_append, List.flatMap_singleton, E1.out]; exact hown2
              · rw [HT.out, List.any_append, List.any_cons, List.any_nil, Bool.or_false, ← Bool.or_assoc, HBK.out, ← HB.out]
                exact hws2
            case measure => simp [intOf]; omega
    · have hkk : k = ps.length := by omega
      have htk : ps.take k = ps := List.take_of_length_le (by omega)
      rw [htk] at hown HWS
      clear htk hfl htl
      go_wp2
      go_ret
      refine ⟨_, rfl, ?_, ?_, ?_⟩
      · rw [dataOf, HPS.out]; exact hown.more hsz1
      · rw [dataBad, HPS.out]; exact HWS.out.ws HWR.out
      · exact R1.out.trans ⟨HWR.out.g⟩
end Go.Proofs.YtgjdgafoidppaaaGreatDoor
