/- voileref26.number, small, text, Words; voileref01.Text: what the reference reads and tells of numbers, and where it cuts. Conditions: a text of at most 10^6 bytes. script.stageText, StageText; voileref26.StageText: a stage's words. Conditions: the numbers are a stage's that may be told; strconv's table stands. script.StageOf: the stage of a text. Conditions: a text of at most 900000 bytes; the tables stand. script's words.data: whole sectors that are read. Conditions: the words stand in memory; a word of at most 200000 bytes. -/
import Derived.Test.YtgjdgafoidppaaaGreatDoorP03
import Derived.Test.YtgjdgafoidppaaaGreatDoorP04
import Derived.Test.YtgjdgafoidppaaaGreatDoorP02
import Derived.Laws.CopyOwn
namespace Go.Proofs.YtgjdgafoidppaaaGreatDoor
open Go.RowKit
set_option linter.unusedVariables false
set_option linter.unusedSimpArgs false
set_option linter.unnecessarySimpa false
theorem number26_any (s : ByteArray) (most : Nat) (hm : most ≤ 18446744073709551615) (hs : s.size ≤ 1000000000) (w : World) :
  Calls Tryz.prog 90 #[.string s, .int .u64 most] w fun e w' => e = .returned (.int .u64 (decV s.data.toList most)) ∧ Gr w w' := by
 rcases Bool.eq_false_or_eq_true (decOk s.data.toList most) with h | h
 ·have HD := Lib.hid (dec01_any s most hm hs w)
  go_enter Tryz.func90, Tryz.ntmps90
  go_wp2_with ((go_at_call 108; ((with_reducible refine (HD.out).mono ?_); rintro _ _ ⟨rfl, g, rfl⟩)))
  go_ret
  exact ⟨rfl, gri⟩
 ·have HD := Lib.hid (dec01_any s most hm hs w)
  have HV := Lib.hid (decV_bad h)
  go_enter Tryz.func90, Tryz.ntmps90
  go_wp2_with ((go_at_call 108; ((with_reducible refine (HD.out).mono ?_); rintro _ _ ⟨rfl, g, rfl⟩)))
  go_ret
  exact ⟨by rw [HV.out]; rfl, gri⟩
theorem small26_any (s : ByteArray) (most : Nat) (hm : most ≤ 9223372036854775807) (hs : s.size ≤ 1000000000) (w : World) :
  Calls Tryz.prog 59 #[.string s, .int .i64 most] w fun e w' => e = .returned (.int .i64 (decV s.data.toList most)) ∧ Gr w w' := by
 have hv := decV_le s.data.toList most
 have hw : IntKind.i64.wrap (decV s.data.toList most : Int) = (decV s.data.toList most : Int) := by rw [IntKind.wrap_i64]; omega
 have hw2 : IntKind.u64.wrap (most : Int) = (most : Int) := by rw [u64_wrap]; omega
 go_enter Tryz.func59, Tryz.ntmps59
 go_wp2_with ((go_at_call 90; ((with_reducible refine (number26_any s most (by omega) hs _).mono ?_); rintro _ _ ⟨rfl, g, rfl⟩)))
 go_ret
 exact ⟨rfl, gri⟩
theorem digit_fin : ∀ i : Fin 10, ((⟨#[48, 49, 50, 51, 52, 53, 54, 55, 56, 57]⟩ : ByteArray).extract i.val (i.val + 1)) = ⟨#[UInt8.ofNat (48 + i.val)]⟩ := by decide +kernel
theorem digit_at (i : Nat) (h : i < 10) : ((⟨#[48, 49, 50, 51, 52, 53, 54, 55, 56, 57]⟩ : ByteArray).extract i (i + 1)) = ⟨#[UInt8.ofNat (48 + i)]⟩ := digit_fin ⟨i, h⟩
def frontD (k : Nat) : List UInt8 := if k < 10 then [] else Lib.decDigits (k / 10)
theorem front_digits (k : Nat) : Lib.decDigits k = frontD k ++ [UInt8.ofNat (48 + k % 10)] := by
 unfold frontD
 by_cases h : k < 10
 ·rw [if_pos h, Lib.decDigits_one h, Nat.mod_eq_of_lt h]; rfl
 ·rw [if_neg h, Lib.decDigits, dif_neg h]
def TSt (u k : Nat) (l : List UInt8) : Prop := Lib.decDigits u = frontD k ++ l
theorem tst_next {u k : Nat} {l : List UInt8} (h : TSt u k l) (h9 : 9 < k) : TSt u (k / 10) (UInt8.ofNat (48 + k / 10 % 10) :: l) := by
 unfold TSt at h ⊢
 have e : frontD k = Lib.decDigits (k / 10) := by unfold frontD; rw [if_neg (by omega)]
 rw [h, e, front_digits (k / 10)]; simp
theorem tst_end {u k : Nat} {l : List UInt8} (h : TSt u k l) (h9 : k ≤ 9) : Lib.decDigits u = l := by
 unfold TSt at h
 have e : frontD k = [] := by unfold frontD; rw [if_pos (by omega)]
 rw [h, e]; rfl
theorem digit_app (i : Nat) (h : i < 10) (l : List UInt8) : ((⟨#[48, 49, 50, 51, 52, 53, 54, 55, 56, 57]⟩ : ByteArray).extract i (i + 1)) ++ (⟨l.toArray⟩ : ByteArray) = ⟨(UInt8.ofNat (48 + i) :: l).toArray⟩ := by
 rw [digit_at i h]
 apply ByteArray.ext
 simp
set_option maxHeartbeats 2000000 in
theorem text01_any (u : Nat) (hu : u ≤ 18446744073709551615) (w : World) :
  Calls Tryz.prog 46 #[.int .u64 u] w fun e w' => e = .returned (.string ⟨(Lib.decDigits u).toArray⟩) ∧ Gr w w' := by
 go_enter Tryz.func46, Tryz.ntmps46
 go_wp2
 go_loop [0, 4] (fun n s => ∃ (k : Nat) (l : List UInt8), n = .int .u64 k ∧ k ≤ u ∧ s = .string ⟨l.toArray⟩ ∧ TSt u k l) (fun n _ => (intOf n).toNat)
 case atStart => exact ⟨u, [UInt8.ofNat (48 + u % 10)], rfl, Nat.le_refl _, by rw [digit_at _ (by omega)], front_digits u⟩
 case round =>
  obtain ⟨k, l, rfl, hk, rfl, hd⟩ := hrel
  have hll : l.length ≤ 20 := by
   have h1 := dec_len u (by omega)
   rw [hd, List.length_append] at h1
   omega
  have HD := Lib.hid hd; clear hd
  by_cases h9 : 9 < k
  ·go_wp2
   go_round
   case rel => exact ⟨k / 10, _, by go_num, by omega, by rw [digit_app _ (by omega)], tst_next HD.out h9⟩
   case measure => simp [intOf]; omega
  ·go_wp2
   go_ret
   exact ⟨by rw [tst_end HD.out (by omega)]; rfl, gri⟩
theorem text26_any (n : Nat) (hn : n ≤ 9223372036854775807) (w : World) :
  Calls Tryz.prog 47 #[.int .i64 n] w fun e w' => e = .returned (.string ⟨(Lib.decDigits n).toArray⟩) ∧ Gr w w' := by
 have hw2 : IntKind.u64.wrap (n : Int) = (n : Int) := by rw [u64_wrap]; omega
 go_enter Tryz.func47, Tryz.ntmps47
 go_wp2_with ((go_at_call 46; ((with_reducible refine (text01_any n (by omega) _).mono ?_); rintro _ _ ⟨rfl, g, rfl⟩)))
 go_ret
 exact ⟨rfl, gri⟩
def CSt (c : UInt8) (s : ByteArray) (f k : Nat) (d : List ByteArray) : Prop := cutL c (s.data.toList.take k) = d.map (·.data.toList) ++ [(s.data.toList.drop f).take (k - f)]
theorem cst_start (c : UInt8) (s : ByteArray) : CSt c s 0 0 [] := by simp [CSt, cutL]
theorem cst_sep {c : UInt8} {s : ByteArray} {f k : Nat} {d : List ByteArray} (h : CSt c s f k d) (hk : k < s.data.toList.length) (e : s.data.toList[k] = c) : CSt c s (k + 1) (k + 1) (d ++ [s.extract f k]) := by
 unfold CSt at h ⊢
 rw [List.take_succ_eq_append_getElem hk, e, cutL_snoc_sep, h]
 simp [Lib.extract_data]
theorem cst_ne {c : UInt8} {s : ByteArray} {f k : Nat} {d : List ByteArray} (h : CSt c s f k d) (hf : f ≤ k) (hk : k < s.data.toList.length) (e : s.data.toList[k] ≠ c) : CSt c s f (k + 1) d := by
 unfold CSt at h ⊢
 rw [List.take_succ_eq_append_getElem hk, cutL_snoc_ne e _ _ _ h]
 congr 2
 have h1 : k - f < (s.data.toList.drop f).length := by rw [List.length_drop]; omega
 rw [show k + 1 - f = (k - f) + 1 by omega, List.take_succ_eq_append_getElem h1]
 congr 2
 rw [List.getElem_drop]
 congr 1
 omega
theorem cst_end {c : UInt8} {s : ByteArray} {f k : Nat} {d : List ByteArray} (h : CSt c s f k d) (hk : k = s.size) : d ++ [s.extract f s.size] = wordsB c s := by
 unfold CSt at h
 subst hk
 have e1 : s.data.toList.take s.size = s.data.toList := List.take_of_length_le (by rw [← Lib.size_eq]; exact Nat.le_refl _)
 rw [e1] at h
 have h2 : (d ++ [s.extract f s.size]).map (·.data.toList) = (wordsB c s).map (·.data.toList) := by
  rw [wordsB_data, h]; simp [Lib.extract_data]
 have h3 := congrArg (List.map fun l => (⟨l.toArray⟩ : ByteArray)) h2
 rw [List.map_map, List.map_map] at h3
 have e : ∀ l : List ByteArray, l.map ((fun l : List UInt8 => (⟨l.toArray⟩ : ByteArray)) ∘ fun x => x.data.toList) = l := fun l => by
  induction l with
  | nil => rfl
  | cons x r ih => rw [List.map_cons, ih]; rfl
 rw [e, e] at h3
 exact h3
theorem cst_len {c : UInt8} {s : ByteArray} {f k : Nat} {d : List ByteArray} (h : CSt c s f k d) : d.length ≤ k := by
 unfold CSt at h
 have h1 := cutL_len_le c (s.data.toList.take k)
 rw [h] at h1
 have h2 := List.length_take_le k s.data.toList
 simp at h1
 omega
set_option maxRecDepth 100000 in
set_option maxHeartbeats 4000000 in
theorem words26_any (s : ByteArray) (c : UInt8) (hs : s.size ≤ 900000) (w : World) :
  Calls Tryz.prog 41 #[.string s, .int .u8 c.toNat] w fun e w' => ∃ v, e = .returned v ∧ OwnS w.heap.size w' v (wordsB c s) ∧ Below w.heap.size w w' := by
 go_enter Tryz.func41, Tryz.ntmps41
 go_wp2
 go_loopw [5, 6, 7] (fun v f i wr => ∃ (fn k : Nat) (d : List ByteArray), f = .int .i64 fn ∧ i = .int .i64 k ∧ fn ≤ k ∧ k ≤ s.size ∧ OwnS w.heap.size wr v d ∧ CSt c s fn k d ∧ Below w.heap.size w wr) (fun _ _ i _ => s.size - (intOf i).toNat)
 case atStart => exact ⟨0, 0, [], rfl, rfl, Nat.le_refl _, Nat.zero_le _, OwnS.nil _ _, cst_start c s, Below.refl _ _⟩
 case round =>
  obtain ⟨fn, k, d, rfl, rfl, hfk, hk, hown, hc, hbw⟩ := hrel
  have hlen := cst_len hc
  have HC := Lib.hid hc; clear hc
  have hsz := hbw.size
  by_cases hlt : k < s.size
  ·by_cases hx : s[k] = c
   ·have hb : ((s[k].toNat : Int) == (c.toNat : Int)) = true := by rw [hx]; simp
    have HX := Lib.hid hx; clear hx
    go_wp2_with (at_builtin; refine wp_append_strs rfl _ _ rfl w.heap.size ?vv d ?hs1 ?own1 _ [s.extract fn k] 1 rfl rfl ?hc1 ?hl1 ?hb1 ?_)
    case own1 => exact hown.alloc_ _
    case hs1 => rfl
    case hc1 =>
     intro j y hj
     match j, hj with
     | 0, hj => simp at hj; subst hj; simp [go_sem]
    case hl1 => simp; omega
    case hb1 => simp; omega
    intro v1 w1 a1
    have hb1 := a1.chain (a := w) (hbw.alloc hsz _) (Nat.le_refl _)
    have hown1 := a1.own
    clear a1 hown hbw
    go_wp2
    go_roundw
    case rel => exact ⟨k + 1, k + 1, _, by go_num, by go_num, by omega, by omega, hown1, cst_sep HC.out (by rw [← Lib.size_eq]; exact hlt) HX.out, hb1⟩
    case measure => simp [intOf]; omega
   ·have hb : ((s[k].toNat : Int) == (c.toNat : Int)) = false := by
     simp only [beq_eq_false_iff_ne, ne_eq]; intro h; exact hx (UInt8.toNat_inj.1 (by omega))
    have HX := Lib.hid hx; clear hx
    go_wp2
    go_roundw
    case rel => exact ⟨fn, k + 1, d, rfl, by go_num, by omega, by omega, hown, cst_ne HC.out hfk (by rw [← Lib.size_eq]; exact hlt) HX.out, hbw⟩
    case measure => simp [intOf]; omega
  ·go_wp2_with (at_builtin; refine wp_append_strs rfl _ _ rfl w.heap.size ?vv2 d ?hs2 ?own2 _ [s.extract fn s.size] 1 rfl rfl ?hc2 ?hl2 ?hb2 ?_)
   case own2 => exact hown.alloc_ _
   case hs2 => rfl
   case hc2 =>
    intro j y hj
    match j, hj with
    | 0, hj => simp at hj; subst hj; simp [go_sem]
   case hl2 => simp; omega
   case hb2 => simp; omega
   intro v1 w1 a1
   have hb1 := a1.chain (a := w) (hbw.alloc hsz _) (Nat.le_refl _)
   have hown1 := a1.own
   rw [cst_end HC.out (by omega)] at hown1
   clear a1 hown hbw
   go_wp2
   go_ret
   exact ⟨_, rfl, hown1, hb1⟩
def stageWords (m0 m1 d0 d1 g : Int) : List ByteArray := [⟨#[115, 116, 97, 103, 101]⟩, ⟨(Lib.itoa m0).toArray⟩, ⟨(Lib.itoa d0).toArray⟩, ⟨(Lib.itoa m1).toArray⟩, ⟨(Lib.itoa d1).toArray⟩, ⟨(Lib.itoa g).toArray⟩]
def stageTextL (m0 m1 d0 d1 g : Int) : List UInt8 := Lib.join ((stageWords m0 m1 d0 d1 g).map (·.data.toList)) [32]
structure StBd (m0 m1 d0 d1 g : Int) : Prop where
 is : 0 ≤ m0 ∧ m0 ≤ 1000000 ∧ 0 ≤ m1 ∧ m1 ≤ 1000000 ∧ 0 ≤ d0 ∧ d0 ≤ 1000000 ∧ 0 ≤ d1 ∧ d1 ≤ 1000000 ∧ 0 ≤ g ∧ g ≤ 1000000
theorem stageWords_len {m0 m1 d0 d1 g : Int} (b : StBd m0 m1 d0 d1 g) : (stageTextL m0 m1 d0 d1 g).length ≤ 1000 := by
 have h := b.is
 have i0 := itoa_len m0 (by omega) (by omega)
 have i1 := itoa_len m1 (by omega) (by omega)
 have i2 := itoa_len d0 (by omega) (by omega)
 have i3 := itoa_len d1 (by omega) (by omega)
 have i4 := itoa_len g (by omega) (by omega)
 have := join_len [32] rfl 21 ((stageWords m0 m1 d0 d1 g).map (·.data.toList)) (fun y hy => by
  simp only [stageWords, List.map_cons, List.map_nil, List.mem_cons, List.mem_nil_iff, or_false] at hy
  rcases hy with rfl | rfl | rfl | rfl | rfl | rfl
  all_goals (first | omega | (simp; done)))
 unfold stageTextL
 simp only [stageWords, List.length_map, List.length_cons, List.length_nil] at this ⊢
 omega
set_option maxRecDepth 100000 in
set_option maxHeartbeats 4000000 in
theorem stageText_any (m0 m1 d0 d1 g : Int) (b : StBd m0 m1 d0 d1 g) (w : World) [hk : Tb w] : Calls Tryz.prog 71 #[.agg #[.int .i64 m0, .int .i64 m1, .int .i64 d0, .int .i64 d1, .int .i64 g]] w fun e w' => e = .returned (.string ⟨(stageTextL m0 m1 d0 d1 g).toArray⟩) ∧ Gr w w' := by
 have hb := b.is
 have HJ := Lib.hid (stageWords_len b)
 have hle6 : 6 ≤ w.heap.size + 1 := Nat.le_succ_of_le hk.size
 go_enter Tryz.func71, Tryz.ntmps71
 go_wp2
 refine wp_loop_rounds 6 ?_
 rw [rounds_succ]
 go_wp2_with (go_at_call 87; ((with_reducible refine (itoa_any m0 (by omega) (by omega) _).mono ?_)))
 rintro _ _ ⟨rfl, g0, rfl⟩
 go_wp2_with (at_builtin; refine wp_append_strs rfl _ _ rfl (w.heap.size + 1) (.slice (some ⟨w.heap.size + 1, 0, none⟩) 1 1) ([⟨#[115, 116, 97, 103, 101]⟩] : List ByteArray) ?hs0 ?own0 _ [⟨(Lib.itoa m0).toArray⟩] 1 rfl rfl ?hc0 (by simp) ?hb0 ?_)
 case hs0 => rfl
 case own0 => (with_reducible repeat (first | exact OwnS.new _ _ _ (Nat.le_refl _) | refine OwnS.alloc_ ?_ _ | refine OwnS.grown_ ?_ _))
 case hc0 =>
  intro j y hj
  match j, hj with
  | 0, hj => simp at hj; subst hj; simp [go_sem]
 case hb0 => exact Nat.succ_le_of_lt (inferInstance : Old w.heap.size _).lt
 intro v0 w0 a0
 haveI : Tb w0 := a0.tb hle6
 haveI : From w w0 := a0.from_ w
 haveI : Old w.heap.size w0 := a0.old _
 haveI : BlockAt w0 (w.heap.size + 1 + 1) #[.int .i64 m0, .int .i64 d0, .int .i64 m1, .int .i64 d1, .int .i64 g] 3 := a0.keep _ _ _ inferInstance (by decide)
 have c0 : w0.cell? ⟨w.heap.size + 1 + 1, 1, none⟩ = some (.int .i64 d0) := (block_cells _ _ _ _ _).trans rfl
 have hown0 := a0.own
 have hbw0 := a0.chain (a := w) (by (with_reducible repeat (first | exact Below.refl _ _ | apply below_alloc | refine below_trans ?_ (grown_below _ _)))) (Nat.le_succ _)
 clear a0
 simp only [List.cons_append, List.nil_append] at hown0
 go_wp2
 rw [rounds_succ]
 go_wp2_with (go_at_call 87; ((with_reducible refine (itoa_any d0 (by omega) (by omega) _).mono ?_)))
 rintro _ _ ⟨rfl, g1, rfl⟩
 go_wp2_with (at_builtin; refine wp_append_strs rfl _ _ rfl (w.heap.size + 1) v0 ([⟨#[115, 116, 97, 103, 101]⟩, ⟨(Lib.itoa m0).toArray⟩] : List ByteArray) ?hs1 ?own1 _ [⟨(Lib.itoa d0).toArray⟩] 1 rfl rfl ?hc1 (by simp) ?hb1 ?_)
 case hs1 => rfl
 case own1 => (with_reducible repeat (first | exact hown0 | refine OwnS.alloc_ ?_ _ | refine OwnS.grown_ ?_ _))
 case hc1 =>
  intro j y hj
  match j, hj with
  | 0, hj => simp at hj; subst hj; simp [go_sem]
 case hb1 => exact Nat.succ_le_of_lt (inferInstance : Old w.heap.size _).lt
 intro v1 w1 a1
 haveI : Tb w1 := a1.tb hle6
 haveI : From w w1 := a1.from_ w
 haveI : Old w.heap.size w1 := a1.old _
 haveI : BlockAt w1 (w.heap.size + 1 + 1) #[.int .i64 m0, .int .i64 d0, .int .i64 m1, .int .i64 d1, .int .i64 g] 3 := a1.keep _ _ _ inferInstance (by decide)
 have c1 : w1.cell? ⟨w.heap.size + 1 + 1, 2, none⟩ = some (.int .i64 m1) := (block_cells _ _ _ _ _).trans rfl
 have hown1 := a1.own
 have hbw1 := a1.chain (a := w) (by (with_reducible repeat (first | exact Below.refl _ _ | apply below_alloc | exact hbw0 | refine below_trans ?_ (grown_below _ _)))) (Nat.le_succ _)
 clear a1
 simp only [List.cons_append, List.nil_append] at hown1
 go_wp2
 rw [rounds_succ]
 go_wp2_with (go_at_call 87; ((with_reducible refine (itoa_any m1 (by omega) (by omega) _).mono ?_)))
 rintro _ _ ⟨rfl, g2, rfl⟩
 go_wp2_with (at_builtin; refine wp_append_strs rfl _ _ rfl (w.heap.size + 1) v1 ([⟨#[115, 116, 97, 103, 101]⟩, ⟨(Lib.itoa m0).toArray⟩, ⟨(Lib.itoa d0).toArray⟩] : List ByteArray) ?hs2 ?own2 _ [⟨(Lib.itoa m1).toArray⟩] 1 rfl rfl ?hc2 (by simp) ?hb2 ?_)
 case hs2 => rfl
 case own2 => (with_reducible repeat (first | exact hown1 | refine OwnS.alloc_ ?_ _ | refine OwnS.grown_ ?_ _))
 case hc2 =>
  intro j y hj
  match j, hj with
  | 0, hj => simp at hj; subst hj; simp [go_sem]
 case hb2 => exact Nat.succ_le_of_lt (inferInstance : Old w.heap.size _).lt
 intro v2 w2 a2
 haveI : Tb w2 := a2.tb hle6
 haveI : From w w2 := a2.from_ w
 haveI : Old w.heap.size w2 := a2.old _
 haveI : BlockAt w2 (w.heap.size + 1 + 1) #[.int .i64 m0, .int .i64 d0, .int .i64 m1, .int .i64 d1, .int .i64 g] 3 := a2.keep _ _ _ inferInstance (by decide)
 have c2 : w2.cell? ⟨w.heap.size + 1 + 1, 3, none⟩ = some (.int .i64 d1) := (block_cells _ _ _ _ _).trans rfl
 have hown2 := a2.own
 have hbw2 := a2.chain (a := w) (by (with_reducible repeat (first | exact Below.refl _ _ | apply below_alloc | exact hbw1 | refine below_trans ?_ (grown_below _ _)))) (Nat.le_succ _)
 clear a2
 simp only [List.cons_append, List.nil_append] at hown2
 go_wp2
 rw [rounds_succ]
 go_wp2_with (go_at_call 87; ((with_reducible refine (itoa_any d1 (by omega) (by omega) _).mono ?_)))
 rintro _ _ ⟨rfl, g3, rfl⟩
 go_wp2_with (at_builtin; refine wp_append_strs rfl _ _ rfl (w.heap.size + 1) v2 ([⟨#[115, 116, 97, 103, 101]⟩, ⟨(Lib.itoa m0).toArray⟩, ⟨(Lib.itoa d0).toArray⟩, ⟨(Lib.itoa m1).toArray⟩] : List ByteArray) ?hs3 ?own3 _ [⟨(Lib.itoa d1).toArray⟩] 1 rfl rfl ?hc3 (by simp) ?hb3 ?_)
 case hs3 => rfl
 case own3 => (with_reducible repeat (first | exact hown2 | refine OwnS.alloc_ ?_ _ | refine OwnS.grown_ ?_ _))
 case hc3 =>
  intro j y hj
  match j, hj with
  | 0, hj => simp at hj; subst hj; simp [go_sem]
 case hb3 => exact Nat.succ_le_of_lt (inferInstance : Old w.heap.size _).lt
 intro v3 w3 a3
 haveI : Tb w3 := a3.tb hle6
 haveI : From w w3 := a3.from_ w
 haveI : Old w.heap.size w3 := a3.old _
 haveI : BlockAt w3 (w.heap.size + 1 + 1) #[.int .i64 m0, .int .i64 d0, .int .i64 m1, .int .i64 d1, .int .i64 g] 3 := a3.keep _ _ _ inferInstance (by decide)
 have c3 : w3.cell? ⟨w.heap.size + 1 + 1, 4, none⟩ = some (.int .i64 g) := (block_cells _ _ _ _ _).trans rfl
 have hown3 := a3.own
 have hbw3 := a3.chain (a := w) (by (with_reducible repeat (first | exact Below.refl _ _ | apply below_alloc | exact hbw2 | refine below_trans ?_ (grown_below _ _)))) (Nat.le_succ _)
 clear a3
 simp only [List.cons_append, List.nil_append] at hown3
 go_wp2
 rw [rounds_succ]
 go_wp2_with (go_at_call 87; ((with_reducible refine (itoa_any g (by omega) (by omega) _).mono ?_)))
 rintro _ _ ⟨rfl, g4, rfl⟩
 go_wp2_with (at_builtin; refine wp_append_strs rfl _ _ rfl (w.heap.size + 1) v3 ([⟨#[115, 116, 97, 103, 101]⟩, ⟨(Lib.itoa m0).toArray⟩, ⟨(Lib.itoa d0).toArray⟩, ⟨(Lib.itoa m1).toArray⟩, ⟨(Lib.itoa d1).toArray⟩] : List ByteArray) ?hs4 ?own4 _ [⟨(Lib.itoa g).toArray⟩] 1 rfl rfl ?hc4 (by simp) ?hb4 ?_)
 case hs4 => rfl
 case own4 => (with_reducible repeat (first | exact hown3 | refine OwnS.alloc_ ?_ _ | refine OwnS.grown_ ?_ _))
 case hc4 =>
  intro j y hj
  match j, hj with
  | 0, hj => simp at hj; subst hj; simp [go_sem]
 case hb4 => exact Nat.succ_le_of_lt (inferInstance : Old w.heap.size _).lt
 intro v4 w4 a4
 haveI : Tb w4 := a4.tb hle6
 haveI : From w w4 := a4.from_ w
 haveI : Old w.heap.size w4 := a4.old _
 haveI : BlockAt w4 (w.heap.size + 1 + 1) #[.int .i64 m0, .int .i64 d0, .int .i64 m1, .int .i64 d1, .int .i64 g] 3 := a4.keep _ _ _ inferInstance (by decide)
 have hown4 := a4.own
 have hbw4 := a4.chain (a := w) (by (with_reducible repeat (first | exact Below.refl _ _ | apply below_alloc | exact hbw3 | refine below_trans ?_ (grown_below _ _)))) (Nat.le_succ _)
 clear a4
 simp only [List.cons_append, List.nil_append] at hown4
 go_wp2
 rw [rounds_succ]
 obtain ⟨VA, vc, hv, hvc, hrow⟩ := hown4.form
 subst hv
 have hvc2 : 6 ≤ vc := hvc
 clear hvc
 have HR := Lib.hid hrow; clear hrow hown4
 go_wp2_with (go_at_call 89; ((with_reducible refine (join_any VA 6 vc (stageWords m0 m1 d0 d1 g) _ _ rfl hvc2 (Nat.le_trans HJ.out (by omega)) (by omega) HR.out).mono ?_); rintro _ _ ⟨rfl, g9, rfl⟩))
 go_ret
 exact ⟨rfl, Gr.of (below_trans hbw4 (grown_below _ _))⟩
theorem stage26_text (m0 m1 d0 d1 g : Nat) : (⟨#[115, 116, 97, 103, 101, 32]⟩ ++ ⟨(Lib.decDigits m0).toArray⟩ ++ ⟨#[32]⟩ ++ ⟨(Lib.decDigits d0).toArray⟩ ++ ⟨#[32]⟩ ++ ⟨(Lib.decDigits m1).toArray⟩ ++ ⟨#[32]⟩ ++ ⟨(Lib.decDigits d1).toArray⟩ ++ ⟨#[32]⟩ ++ ⟨(Lib.decDigits g).toArray⟩ : ByteArray) = ⟨(stageTextL m0 m1 d0 d1 g).toArray⟩ := by
 apply ByteArray.ext
 simp [stageTextL, stageWords, Lib.itoa_nonneg, join_one, join_two]
set_option maxRecDepth 100000 in
set_option maxHeartbeats 4000000 in
theorem stageText26_any (m0 m1 d0 d1 g : Nat) (b : StBd m0 m1 d0 d1 g) (w : World) : Calls Tryz.prog 75 #[.agg #[.int .i64 m0, .int .i64 m1, .int .i64 d0, .int .i64 d1, .int .i64 g]] w fun e w' => e = .returned (.string ⟨(stageTextL m0 m1 d0 d1 g).toArray⟩) ∧ Gr w w' := by
 have hb := b.is
 have l0 := dec_len m0 (by omega)
 have l1 := dec_len m1 (by omega)
 have l2 := dec_len d0 (by omega)
 have l3 := dec_len d1 (by omega)
 have l4 := dec_len g (by omega)
 go_enter Tryz.func75, Tryz.ntmps75
 go_wp2
 refine wp_region_grow (by kernel_rfl) (by kernel_rfl) ?_
 repeat (go_big_quiet_step ((go_at_call 47; exact grow_call (text26_any _ (by omega) _))))
 refine wpQuiet_nil ?_
 intro g1
 go_wp2
 go_ret
 exact ⟨by rw [stage26_text]; rfl, gri⟩
theorem Row.set_other {X o : Nat} {W : World} {A : Option Addr} {l : List ByteArray} (h : Row Value.string W A l) (u v : Value) (hc : W.cell? ⟨X, o, none⟩ = some u) (hu : ∀ s, u ≠ .string s) : Row Value.string (W.setCell ⟨X, o, none⟩ v) A l :=
 ⟨fun h0 => by
  obtain ⟨b, o', rfl, hb, hx⟩ := h.at_ h0
  refine ⟨b, o', rfl, by simpa [World.setCell] using hb, fun j x hj => ?_⟩
  have h1 := hx j x hj
  rw [World.cell?_setCell_other _ _ _ _ (fun e => by
   rw [← e, hc] at h1
   exact hu x (Option.some.inj h1))]
  exact h1⟩
theorem WS.set_other {p X o : Nat} {W : World} {ws : List ByteArray} {bad : Bool} (h : WS p W ws bad) (u v : Value) (hne : X ≠ p) (hc : W.cell? ⟨X, o, none⟩ = some u) (hu : ∀ s, u ≠ .string s) : WS p (W.setCell ⟨X, o, none⟩ v) ws bad := by
 obtain ⟨f0, f1, c1, ⟨A, c, c0, hcc, hn, hr⟩, few, short⟩ := h
 refine ⟨by rw [World.frozen?_setCell]; exact f0, by rw [World.frozen?_setCell]; exact f1, ?_, ⟨A, c, ?_, hcc, hn, hr.set_other u v hc hu⟩, few, short⟩
 ·rw [World.cell?_setCell_other _ _ _ _ (fun e => hne (congrArg Addr.block e))]; exact c1
 ·rw [World.cell?_setCell_other _ _ _ _ (fun e => hne (congrArg Addr.block e))]; exact c0
theorem WS.alloc {p : Nat} {W : World} {ws : List ByteArray} {bad : Bool} (h : WS p W ws bad) (ob : Obj) : WS p (W.alloc ob) ws bad := h.gr ⟨_, below_alloc (Below.refl _ _) ob⟩
theorem WS.start (W : World) (ws : List ByteArray) (n n0 p : Nat) (T : TypeId) (hn : n = ws.length) [h1 : BlockAt W n0 (ws.map Value.string).toArray 9] [h2 : BlockAt W p #[.slice (some ⟨n0, 0, none⟩) n n, .bool false] T] (hne : n0 ≠ p) (few : ws.length ≤ 1000000) (short : ∀ x ∈ ws, x.size ≤ 1000000000) : WS p W ws false := by
 subst hn
 refine ⟨block_frozen _ _ _ _ _, block_frozen _ _ _ _ _, (block_cells _ _ _ _ _).trans rfl, ⟨_, _, (block_cells _ _ _ _ _).trans rfl, Nat.le_refl _, fun a e => by cases e; exact hne, ⟨fun _ => ⟨n0, 0, rfl, h1.lt, fun j x hj => ?_⟩⟩⟩, few, short⟩
 rw [block_cells, Nat.zero_add]
 simp [hj]
def wd (ws : List ByteArray) (i : Nat) : ByteArray := hdW (ws.drop i)
def nW (s : ByteArray) (i : Nat) : Nat := decV (wd (wordsB 32 s) i).data.toList 1000000
def bW (s : ByteArray) (i : Nat) : Bool := !decOk (wd (wordsB 32 s) i).data.toList 1000000
theorem itoa_no32 (n : Int) (h : 0 ≤ n) : (32 : UInt8) ∉ Lib.itoa n := by
 obtain ⟨k, rfl⟩ := Int.eq_ofNat_of_zero_le h
 rw [show ((k : Nat) : Int) = (k : Int) from rfl, Lib.itoa_nonneg]
 intro hm
 have h2 := (decDigits_all k).2.1
 rw [List.all_eq_true] at h2
 exact absurd (h2 32 hm) (by decide)
theorem stageWords_cut (m0 m1 d0 d1 g : Int) (b : StBd m0 m1 d0 d1 g) (s : ByteArray) (h : stageTextL m0 m1 d0 d1 g = s.data.toList) : wordsB 32 s = stageWords m0 m1 d0 d1 g := by
 have hb := b.is
 have h1 : cutL 32 s.data.toList = (stageWords m0 m1 d0 d1 g).map (·.data.toList) := by
  rw [← h]
  refine cutL_join 32 _ (by simp [stageWords]) (fun x hx => ?_)
  simp only [stageWords, List.map_cons, List.map_nil, List.mem_cons, List.mem_nil_iff, or_false] at hx
  rcases hx with rfl | rfl | rfl | rfl | rfl | rfl
  ·decide
  ·exact itoa_no32 _ (by omega)
  ·exact itoa_no32 _ (by omega)
  ·exact itoa_no32 _ (by omega)
  ·exact itoa_no32 _ (by omega)
  ·exact itoa_no32 _ (by omega)
 rw [wordsB, h1, List.map_map]
 simp [stageWords, Function.comp_def]
theorem itoa_ok (n : Int) (h : 0 ≤ n ∧ n ≤ 1000000) : decOk (Lib.itoa n) 1000000 = true := by
 obtain ⟨k, rfl⟩ := Int.eq_ofNat_of_zero_le h.1
 rw [Lib.itoa_nonneg]
 exact decOk_digits k 1000000 (by omega)
theorem small_w (s : ByteArray) (i : Nat) (p : Nat) (W : World) (bad : Bool) (h : WS p W ((wordsB 32 s).drop i) bad) :
  Calls Tryz.prog 53 #[.pointer (some ⟨p, 0, none⟩), .int .i64 1000000] W fun e W' => e = .returned (.int .i64 (nW s i)) ∧ WS p W' ((wordsB 32 s).drop (i + 1)) (bad || bW s i) ∧ Wrd p W W' :=
 (small_any p 1000000 (by omega) W _ bad h).mono fun e W' ⟨he, hw, hr⟩ => ⟨he, by rw [List.tail_drop] at hw; exact hw, hr⟩
theorem nW_le (s : ByteArray) (i : Nat) : nW s i ≤ 1000000 := decV_le _ _
def badW (s : ByteArray) : Bool := bW s 1 || bW s 2 || bW s 3 || bW s 4 || bW s 5
def goodSt (s : ByteArray) : Bool := mayStB (nW s 1) (nW s 3) (nW s 2) (nW s 4) (nW s 5) && (stageTextL (nW s 1) (nW s 3) (nW s 2) (nW s 4) (nW s 5) == s.data.toList)
theorem bd_nW (s : ByteArray) : StBd (nW s 1) (nW s 3) (nW s 2) (nW s 4) (nW s 5) := ⟨by
 have h1 := nW_le s 1
 have h2 := nW_le s 2
 have h3 := nW_le s 3
 have h4 := nW_le s 4
 have h5 := nW_le s 5
 omega⟩
theorem good_words {s : ByteArray} (h : goodSt s = true) : badW s = false ∧ (wordsB 32 s).drop 6 = [] := by
 simp only [goodSt, Bool.and_eq_true, beq_iff_eq] at h
 have hb := (bd_nW s).is
 have hw := stageWords_cut _ _ _ _ _ (bd_nW s) s h.2
 refine ⟨?_, by rw [hw]; rfl⟩
 have e1 : bW s 1 = false := by rw [bW, hw]; exact congrArg (!·) (itoa_ok (nW s 1) (by omega))
 have e2 : bW s 2 = false := by rw [bW, hw]; exact congrArg (!·) (itoa_ok (nW s 2) (by omega))
 have e3 : bW s 3 = false := by rw [bW, hw]; exact congrArg (!·) (itoa_ok (nW s 3) (by omega))
 have e4 : bW s 4 = false := by rw [bW, hw]; exact congrArg (!·) (itoa_ok (nW s 4) (by omega))
 have e5 : bW s 5 = false := by rw [bW, hw]; exact congrArg (!·) (itoa_ok (nW s 5) (by omega))
 simp [badW, e1, e2, e3, e4, e5]
def stV (s : ByteArray) : Array Value := if goodSt s then #[.int .i64 (nW s 1), .int .i64 (nW s 3), .int .i64 (nW s 2), .int .i64 (nW s 4), .int .i64 (nW s 5)] else #[.int .i64 0, .int .i64 0, .int .i64 0, .int .i64 0, .int .i64 0]
def stE (s : ByteArray) : Int := if goodSt s then 0 else 4
theorem st_no {s : ByteArray} (h : goodSt s = false) : Ending.returned (.tuple #[.agg #[.int .i64 0, .int .i64 0, .int .i64 0, .int .i64 0, .int .i64 0], .int .i64 4]) = .returned (.tuple #[.agg (stV s), .int .i64 (stE s)]) := by simp [stV, stE, h]
theorem st_yes {s : ByteArray} (h : goodSt s = true) : Ending.returned (.tuple #[.agg #[.int .i64 (nW s 1), .int .i64 (nW s 3), .int .i64 (nW s 2), .int .i64 (nW s 4), .int .i64 (nW s 5)], .int .i64 0]) = .returned (.tuple #[.agg (stV s), .int .i64 (stE s)]) := by simp [stV, stE, h]
theorem below_set_le {a w : World} (h : Below a.heap.size a w) {b o : Nat} (hp : a.heap.size ≤ b) (u : Value) : Below a.heap.size a (w.setCell ⟨b, o, none⟩ u) := below_set h hp u
set_option maxRecDepth 100000 in
set_option maxHeartbeats 4000000 in
theorem stageOf_any (s : ByteArray) (hs : s.size ≤ 900000) (w : World) [hk : Tb w] [hm : Ml w] : Calls Tryz.prog 65 #[.string s] w fun e w' => e = .returned (.tuple #[.agg (stV s), .int .i64 (stE s)]) ∧ Gr w w' := by
 have few : (wordsB 32 s).length ≤ 1000000 := by have := wordsB_le 32 s; omega
 have short : ∀ x ∈ wordsB 32 s, x.size ≤ 1000000000 := fun x hx => by have := wordsB_each 32 s x hx; omega
 have FEW := Lib.hid few; clear few
 have SHORT := Lib.hid short; clear short
 have hne : (wordsB 32 s).isEmpty = false := by
  have := wordsB_ne 32 s
  cases h : wordsB 32 s with
  | nil => exact absurd h this
  | cons x r => rfl
 have HNE := Lib.hid hne; clear hne
 go_enter Tryz.func65, Tryz.ntmps65
 go_wp2_with ((go_at_call 36; ((with_reducible refine (split_any s 32 _ (by omega)).mono ?_))))
 rintro _ _ ⟨rfl, rfl⟩
 go_wp2_with ((go_at_call 49; ((with_reducible refine (word_any (w.heap.size + 1 + 1) _ (wordsB 32 s) false ?ws0).mono ?_))))
 case ws0 => exact WS.start _ _ _ (w.heap.size + 1) _ 79 rfl (by omega) FEW.out SHORT.out
 rintro _ W1 ⟨rfl, h1, r1⟩
 haveI : Tb W1 := r1.tb
 haveI : From w W1 := r1.from_ w
 haveI bR1 : BlockAt W1 w.heap.size #[.int .i64 0, .int .i64 0, .int .i64 0, .int .i64 0, .int .i64 0] 55 := BlockAt.grown inferInstance r1.g (fun e => by have := Option.some.inj e; omega)
 have h1' : WS (w.heap.size + 1 + 1) W1 ((wordsB 32 s).drop 1) false := by
  rw [HNE.out, ← List.drop_one] at h1
  exact h1
 have H1 := Lib.hid h1'; clear h1 h1'
 have hP1 : w.heap.size + 1 + 1 < W1.heap.size := H1.out.old.lt
 haveI : BNe w.heap.size W1.heap.size := ⟨by omega⟩
 have hb1 : Below w.heap.size w W1 := Below.trans (by ((with_reducible repeat (first | exact Below.refl _ _ | apply below_alloc)))) (r1.below (by omega) (by simp; omega))
 clear r1
 go_wp2
 refine wp_loop_rounds 6 ?_
 rw [rounds_succ]
 go_wp2_with ((go_at_call 53; ((with_reducible refine (small_w s 1 (w.heap.size + 1 + 1) _ false ?ws1).mono ?_))))
 case ws1 => exact (H1.out.alloc _).alloc _
 rintro _ W2 ⟨rfl, h2, r2⟩
 haveI : Tb W2 := r2.tb
 haveI : From w W2 := r2.from_ w
 haveI bR2 : BlockAt W2 (w.heap.size) #[.int .i64 0, .int .i64 0, .int .i64 0, .int .i64 0, .int .i64 0] 55 := BlockAt.grown inferInstance r2.g (fun e => by have := Option.some.inj e; omega)
 haveI bX2 : BlockAt W2 (W1.heap.size) #[.int .i64 0, .int .i64 0, .int .i64 0, .int .i64 0, .int .i64 0] 55 := BlockAt.grown inferInstance r2.g (fun e => by have := Option.some.inj e; omega)
 haveI bL2 : BlockAt W2 (W1.heap.size + 1) #[.pointer (some ⟨W1.heap.size, 0, none⟩), .pointer (some ⟨W1.heap.size, 2, none⟩), .pointer (some ⟨W1.heap.size, 1, none⟩), .pointer (some ⟨W1.heap.size, 3, none⟩), .pointer (some ⟨W1.heap.size, 4, none⟩)] 129 := BlockAt.grown inferInstance r2.g (fun e => by have := Option.some.inj e; omega)
 have cX2 : W2.cell? ⟨W1.heap.size, 0, none⟩ = some (.int .i64 0) := (block_cells _ _ _ _ _).trans rfl
 have fX2 : W2.frozen? ⟨W1.heap.size, 0, none⟩ = false := block_frozen _ _ _ _ _
 have cL2 : W2.cell? ⟨W1.heap.size + 1, 1, none⟩ = some (.pointer (some ⟨W1.heap.size, 2, none⟩)) := (block_cells _ _ _ _ _).trans rfl
 have hb2 : Below w.heap.size w W2 := Below.trans (by ((with_reducible repeat (first | exact hb1 | apply below_alloc)))) (r2.below (by omega) (by simp; omega))
 have H2 := Lib.hid h2; clear h2 r2
 go_wp2
 rw [rounds_succ]
 go_wp2_with ((go_at_call 53; ((with_reducible refine (small_w s 2 (w.heap.size + 1 + 1) _ (false || bW s 1) ?ws2).mono ?_))))
 case ws2 => exact H2.out.set_other (.int .i64 0) _ (by omega) ((block_cells _ _ _ _ _).trans rfl) (fun _ e => by cases e)
 rintro _ W3 ⟨rfl, h3, r3⟩
 haveI : Tb W3 := r3.tb
 haveI : From w W3 := r3.from_ w
 haveI bR3 : BlockAt W3 (w.heap.size) #[.int .i64 0, .int .i64 0, .int .i64 0, .int .i64 0, .int .i64 0] 55 := BlockAt.grown inferInstance r3.g (fun e => by have := Option.some.inj e; omega)
 haveI bX3 : BlockAt W3 (W1.heap.size) #[.int .i64 (nW s 1), .int .i64 0, .int .i64 0, .int .i64 0, .int .i64 0] 55 := BlockAt.grown inferInstance r3.g (fun e => by have := Option.some.inj e; omega)
 haveI bL3 : BlockAt W3 (W1.heap.size + 1) #[.pointer (some ⟨W1.heap.size, 0, none⟩), .pointer (some ⟨W1.heap.size, 2, none⟩), .pointer (some ⟨W1.heap.size, 1, none⟩), .pointer (some ⟨W1.heap.size, 3, none⟩), .pointer (some ⟨W1.heap.size, 4, none⟩)] 129 := BlockAt.grown inferInstance r3.g (fun e => by have := Option.some.inj e; omega)
 have cX3 : W3.cell? ⟨W1.heap.size, 2, none⟩ = some (.int .i64 0) := (block_cells _ _ _ _ _).trans rfl
 have fX3 : W3.frozen? ⟨W1.heap.size, 2, none⟩ = false := block_frozen _ _ _ _ _
 have cL3 : W3.cell? ⟨W1.heap.size + 1, 2, none⟩ = some (.pointer (some ⟨W1.heap.size, 1, none⟩)) := (block_cells _ _ _ _ _).trans rfl
 have hb3 : Below w.heap.size w W3 := Below.trans (by ((with_reducible repeat (first | exact hb2 | refine below_set_le ?_ (by omega) _)))) (r3.below (by omega) (by simp [World.setCell]; have := (inferInstance : From w W2).le; omega))
 have H3 := Lib.hid h3; clear h3 r3
 go_wp2
 rw [rounds_succ]
 go_wp2_with ((go_at_call 53; ((with_reducible refine (small_w s 3 (w.heap.size + 1 + 1) _ ((false || bW s 1) || bW s 2) ?ws3).mono ?_))))
 case ws3 => exact H3.out.set_other (.int .i64 0) _ (by omega) ((block_cells _ _ _ _ _).trans rfl) (fun _ e => by cases e)
 rintro _ W4 ⟨rfl, h4, r4⟩
 haveI : Tb W4 := r4.tb
 haveI : From w W4 := r4.from_ w
 haveI bR4 : BlockAt W4 (w.heap.size) #[.int .i64 0, .int .i64 0, .int .i64 0, .int .i64 0, .int .i64 0] 55 := BlockAt.grown inferInstance r4.g (fun e => by have := Option.some.inj e; omega)
 haveI bX4 : BlockAt W4 (W1.heap.size) #[.int .i64 (nW s 1), .int .i64 0, .int .i64 (nW s 2), .int .i64 0, .int .i64 0] 55 := BlockAt.grown inferInstance r4.g (fun e => by have := Option.some.inj e; omega)
 haveI bL4 : BlockAt W4 (W1.heap.size + 1) #[.pointer (some ⟨W1.heap.size, 0, none⟩), .pointer (some ⟨W1.heap.size, 2, none⟩), .pointer (some ⟨W1.heap.size, 1, none⟩), .pointer (some ⟨W1.heap.size, 3, none⟩), .pointer (some ⟨W1.heap.size, 4, none⟩)] 129 := BlockAt.grown inferInstance r4.g (fun e => by have := Option.some.inj e; omega)
 have cX4 : W4.cell? ⟨W1.heap.size, 1, none⟩ = some (.int .i64 0) := (block_cells _ _ _ _ _).trans rfl
 have fX4 : W4.frozen? ⟨W1.heap.size, 1, none⟩ = false := block_frozen _ _ _ _ _
 have cL4 : W4.cell? ⟨W1.heap.size + 1, 3, none⟩ = some (.pointer (some ⟨W1.heap.size, 3, none⟩)) := (block_cells _ _ _ _ _).trans rfl
 have hb4 : Below w.heap.size w W4 := Below.trans (by ((with_reducible repeat (first | exact hb3 | refine below_set_le ?_ (by omega) _)))) (r4.below (by omega) (by simp [World.setCell]; have := (inferInstance : From w W3).le; omega))
 have H4 := Lib.hid h4; clear h4 r4
 go_wp2
 rw [rounds_succ]
 go_wp2_with ((go_at_call 53; ((with_reducible refine (small_w s 4 (w.heap.size + 1 + 1) _ (((false || bW s 1) || bW s 2) || bW s 3) ?ws4).mono ?_))))
 case ws4 => exact H4.out.set_other (.int .i64 0) _ (by omega) ((block_cells _ _ _ _ _).trans rfl) (fun _ e => by cases e)
 rintro _ W5 ⟨rfl, h5, r5⟩
 haveI : Tb W5 := r5.tb
 haveI : From w W5 := r5.from_ w
 haveI bR5 : BlockAt W5 (w.heap.size) #[.int .i64 0, .int .i64 0, .int .i64 0, .int .i64 0, .int .i64 0] 55 := BlockAt.grown inferInstance r5.g (fun e => by have := Option.some.inj e; omega)
 haveI bX5 : BlockAt W5 (W1.heap.size) #[.int .i64 (nW s 1), .int .i64 (nW s 3), .int .i64 (nW s 2), .int .i64 0, .int .i64 0] 55 := BlockAt.grown inferInstance r5.g (fun e => by have := Option.some.inj e; omega)
 haveI bL5 : BlockAt W5 (W1.heap.size + 1) #[.pointer (some ⟨W1.heap.size, 0, none⟩), .pointer (some ⟨W1.heap.size, 2, none⟩), .pointer (some ⟨W1.heap.size, 1, none⟩), .pointer (some ⟨W1.heap.size, 3, none⟩), .pointer (some ⟨W1.heap.size, 4, none⟩)] 129 := BlockAt.grown inferInstance r5.g (fun e => by have := Option.some.inj e; omega)
 have cX5 : W5.cell? ⟨W1.heap.size, 3, none⟩ = some (.int .i64 0) := (block_cells _ _ _ _ _).trans rfl
 have fX5 : W5.frozen? ⟨W1.heap.size, 3, none⟩ = false := block_frozen _ _ _ _ _
 have cL5 : W5.cell? ⟨W1.heap.size + 1, 4, none⟩ = some (.pointer (some ⟨W1.heap.size, 4, none⟩)) := (block_cells _ _ _ _ _).trans rfl
 have hb5 : Below w.heap.size w W5 := Below.trans (by ((with_reducible repeat (first | exact hb4 | refine below_set_le ?_ (by omega) _)))) (r5.below (by omega) (by simp [World.setCell]; have := (inferInstance : From w W4).le; omega))
 have H5 := Lib.hid h5; clear h5 r5
 go_wp2
 rw [rounds_succ]
 go_wp2_with ((go_at_call 53; ((with_reducible refine (small_w s 5 (w.heap.size + 1 + 1) _ ((((false || bW s 1) || bW s 2) || bW s 3) || bW s 4) ?ws5).mono ?_))))
 case ws5 => exact H5.out.set_other (.int .i64 0) _ (by omega) ((block_cells _ _ _ _ _).trans rfl) (fun _ e => by cases e)
 rintro _ W6 ⟨rfl, h6, r6⟩
 haveI : Tb W6 := r6.tb
 haveI : From w W6 := r6.from_ w
 haveI bR6 : BlockAt W6 (w.heap.size) #[.int .i64 0, .int .i64 0, .int .i64 0, .int .i64 0, .int .i64 0] 55 := BlockAt.grown inferInstance r6.g (fun e => by have := Option.some.inj e; omega)
 haveI bX6 : BlockAt W6 (W1.heap.size) #[.int .i64 (nW s 1), .int .i64 (nW s 3), .int .i64 (nW s 2), .int .i64 (nW s 4), .int .i64 0] 55 := BlockAt.grown inferInstance r6.g (fun e => by have := Option.some.inj e; omega)
 haveI bL6 : BlockAt W6 (W1.heap.size + 1) #[.pointer (some ⟨W1.heap.size, 0, none⟩), .pointer (some ⟨W1.heap.size, 2, none⟩), .pointer (some ⟨W1.heap.size, 1, none⟩), .pointer (some ⟨W1.heap.size, 3, none⟩), .pointer (some ⟨W1.heap.size, 4, none⟩)] 129 := BlockAt.grown inferInstance r6.g (fun e => by have := Option.some.inj e; omega)
 have cX6 : W6.cell? ⟨W1.heap.size, 4, none⟩ = some (.int .i64 0) := (block_cells _ _ _ _ _).trans rfl
 have fX6 : W6.frozen? ⟨W1.heap.size, 4, none⟩ = false := block_frozen _ _ _ _ _
 have hb6 : Below w.heap.size w W6 := Below.trans (by ((with_reducible repeat (first | exact hb5 | refine below_set_le ?_ (by omega) _)))) (r6.below (by omega) (by simp [World.setCell]; have := (inferInstance : From w W5).le; omega))
 have H6 := Lib.hid h6; clear h6 r6
 go_wp2
 rw [rounds_succ]
 have hlt6 : w.heap.size + 1 + 1 < W1.heap.size := hP1
 have e1 : (w.heap.size + 1 + 1 = W1.heap.size) = False := by simp; omega
 have e2 : (W1.heap.size = w.heap.size + 1 + 1) = False := by simp; omega
 have e3 : (w.heap.size = W1.heap.size) = False := by simp; omega
 have e4 : (W1.heap.size = w.heap.size) = False := by simp; omega
 have hBAD : (((((false || bW s 1) || bW s 2) || bW s 3) || bW s 4) || bW s 5) = badW s := by simp [badW, Bool.or_assoc]
 have p1 := H6.out.c1
 rw [hBAD] at p1
 obtain ⟨A6, n6, p0, hn6, _, _⟩ := H6.out.c0
 have x0 : W6.cell? ⟨W1.heap.size, 0, none⟩ = some (.int .i64 (nW s 1)) := (block_cells _ _ _ _ _).trans rfl
 have x1 : W6.cell? ⟨W1.heap.size, 1, none⟩ = some (.int .i64 (nW s 3)) := (block_cells _ _ _ _ _).trans rfl
 have x2 : W6.cell? ⟨W1.heap.size, 2, none⟩ = some (.int .i64 (nW s 2)) := (block_cells _ _ _ _ _).trans rfl
 have x3 : W6.cell? ⟨W1.heap.size, 3, none⟩ = some (.int .i64 (nW s 4)) := (block_cells _ _ _ _ _).trans rfl
 have y0 : W6.cell? ⟨w.heap.size, 0, none⟩ = some (.int .i64 0) := (block_cells _ _ _ _ _).trans rfl
 have y1 : W6.cell? ⟨w.heap.size, 1, none⟩ = some (.int .i64 0) := (block_cells _ _ _ _ _).trans rfl
 have y2 : W6.cell? ⟨w.heap.size, 2, none⟩ = some (.int .i64 0) := (block_cells _ _ _ _ _).trans rfl
 have y3 : W6.cell? ⟨w.heap.size, 3, none⟩ = some (.int .i64 0) := (block_cells _ _ _ _ _).trans rfl
 have y4 : W6.cell? ⟨w.heap.size, 4, none⟩ = some (.int .i64 0) := (block_cells _ _ _ _ _).trans rfl
 have z0 : W6.frozen? ⟨w.heap.size, 0, none⟩ = false := block_frozen _ _ _ _ _
 have z1 : W6.frozen? ⟨w.heap.size, 1, none⟩ = false := block_frozen _ _ _ _ _
 have z2 : W6.frozen? ⟨w.heap.size, 2, none⟩ = false := block_frozen _ _ _ _ _
 have z3 : W6.frozen? ⟨w.heap.size, 3, none⟩ = false := block_frozen _ _ _ _ _
 have z4 : W6.frozen? ⟨w.heap.size, 4, none⟩ = false := block_frozen _ _ _ _ _
 haveI : Old w.heap.size W6 := bR6.old
 haveI : Old W1.heap.size W6 := bX6.old
 haveI : Old (w.heap.size + 1 + 1) W6 := H6.out.old
 rcases Bool.eq_false_or_eq_true (badW s) with hB | hB
 ·rw [hB] at p1
  have hg : goodSt s = false := by
   cases h : goodSt s with
   | false => rfl
   | true => rw [(good_words h).1] at hB; cases hB
  have HG := Lib.hid hg; clear hg hB hBAD
  go_wp2
  exact bodyPost_ret (v := .tuple #[.agg #[.int .i64 0, .int .i64 0, .int .i64 0, .int .i64 0, .int .i64 0], .int .i64 4]) (by simp [results, Tryz.results65, go_sem, e1, e2, e3, e4, x0, x1, x2, x3, y0, y1, y2, y3, y4, z0, z1, z2, z3, z4]) rfl ⟨st_no HG.out, Gr.of (by (with_reducible repeat (first | exact hb6 | refine below_set_le ?_ (by omega) _ | refine below_trans ?_ (grown_below _ _))))⟩
 ·rw [hB] at p1
  rcases Nat.eq_zero_or_pos ((wordsB 32 s).drop 6).length with hL | hL
  ·rw [hL] at p0
   rcases Bool.eq_false_or_eq_true (mayStB (nW s 1) (nW s 3) (nW s 2) (nW s 4) (nW s 5)) with hM | hM
   ·have HM := Lib.hid (fun W => mayStage_any (nW s 1) (nW s 3) (nW s 2) (nW s 4) (nW s 5) W)
    rw [hM] at HM
    have HT := Lib.hid (fun W (_ : Tb W) => stageText_any (nW s 1) (nW s 3) (nW s 2) (nW s 4) (nW s 5) (bd_nW s) W)
    rcases Bool.eq_false_or_eq_true (stageTextL (nW s 1) (nW s 3) (nW s 2) (nW s 4) (nW s 5) == s.data.toList) with hS | hS
    ·have hg : goodSt s = true := by rw [goodSt, hM, hS]; rfl
     have HG := Lib.hid hg; clear hg
     have hne : (stageTextL (nW s 1) (nW s 3) (nW s 2) (nW s 4) (nW s 5) == s.toList) = true := by rw [Lib.toList_data]; exact hS
     clear hS hM hB hBAD hL
     go_wp2_with (first | (go_at_call 67; ((with_reducible refine (HM.out _).mono ?_); rintro _ _ ⟨rfl, g1, rfl⟩)) | (go_at_call 71; ((with_reducible refine (HT.out _ inferInstance).mono ?_); rintro _ _ ⟨rfl, g2, rfl⟩)))
     exact bodyPost_ret (v := .tuple #[.agg #[.int .i64 (nW s 1), .int .i64 (nW s 3), .int .i64 (nW s 2), .int .i64 (nW s 4), .int .i64 (nW s 5)], .int .i64 0]) (by simp [results, Tryz.results65, go_sem, e1, e2, e3, e4, x0, x1, x2, x3, y0, y1, y2, y3, y4, z0, z1, z2, z3, z4]) rfl ⟨st_yes HG.out, Gr.of (by (with_reducible repeat (first | exact hb6 | refine below_set_le ?_ (by omega) _ | refine below_trans ?_ (grown_below _ _))))⟩
    ·have hg : goodSt s = false := by rw [goodSt, hM, hS]; rfl
     have HG := Lib.hid hg; clear hg
     have hne : (stageTextL (nW s 1) (nW s 3) (nW s 2) (nW s 4) (nW s 5) == s.toList) = false := by rw [Lib.toList_data]; exact hS
     clear hS hM hB hBAD hL
     go_wp2_with (first | (go_at_call 67; ((with_reducible refine (HM.out _).mono ?_); rintro _ _ ⟨rfl, g1, rfl⟩)) | (go_at_call 71; ((with_reducible refine (HT.out _ inferInstance).mono ?_); rintro _ _ ⟨rfl, g2, rfl⟩)))
     exact bodyPost_ret (v := .tuple #[.agg #[.int .i64 0, .int .i64 0, .int .i64 0, .int .i64 0, .int .i64 0], .int .i64 4]) (by simp [results, Tryz.results65, go_sem, e1, e2, e3, e4, x0, x1, x2, x3, y0, y1, y2, y3, y4, z0, z1, z2, z3, z4]) rfl ⟨st_no HG.out, Gr.of (by (with_reducible repeat (first | exact hb6 | refine below_set_le ?_ (by omega) _ | refine below_trans ?_ (grown_below _ _))))⟩
   ·have HM := Lib.hid (fun W => mayStage_any (nW s 1) (nW s 3) (nW s 2) (nW s 4) (nW s 5) W)
    rw [hM] at HM
    have hg : goodSt s = false := by rw [goodSt, hM]; rfl
    have HG := Lib.hid hg; clear hg hM hB hBAD hL
    go_wp2_with ((go_at_call 67; ((with_reducible refine (HM.out _).mono ?_); rintro _ _ ⟨rfl, g1, rfl⟩)))
    exact bodyPost_ret (v := .tuple #[.agg #[.int .i64 0, .int .i64 0, .int .i64 0, .int .i64 0, .int .i64 0], .int .i64 4]) (by simp [results, Tryz.results65, go_sem, e1, e2, e3, e4, x0, x1, x2, x3, y0, y1, y2, y3, y4, z0, z1, z2, z3, z4]) rfl ⟨st_no HG.out, Gr.of (by (with_reducible repeat (first | exact hb6 | refine below_set_le ?_ (by omega) _ | refine below_trans ?_ (grown_below _ _))))⟩
  ·have hg : goodSt s = false := by
    cases h : goodSt s with
    | false => rfl
    | true => rw [(good_words h).2] at hL; simp at hL
   have HG := Lib.hid hg; clear hg hB hBAD
   generalize ((wordsB 32 s).drop 6).length = q at *
   go_wp2
   exact bodyPost_ret (v := .tuple #[.agg #[.int .i64 0, .int .i64 0, .int .i64 0, .int .i64 0, .int .i64 0], .int .i64 4]) (by simp [results, Tryz.results65, go_sem, e1, e2, e3, e4, x0, x1, x2, x3, y0, y1, y2, y3, y4, z0, z1, z2, z3, z4]) rfl ⟨st_no HG.out, Gr.of (by (with_reducible repeat (first | exact hb6 | refine below_set_le ?_ (by omega) _ | refine below_trans ?_ (grown_below _ _))))⟩
def padS (b : List UInt8) : List UInt8 := b.take 64 ++ List.replicate (64 - b.length) 0
def secOf (x : ByteArray) : List UInt8 := if x.data.toList == [45] then List.replicate 64 0 else padS ((unhexL x.data.toList).getD [])
def badPc (x : ByteArray) : Bool := !(x.data.toList == [45]) && (!(unhexL x.data.toList).isSome || decide (64 < ((unhexL x.data.toList).getD []).length))
def dataOf (x : ByteArray) : List UInt8 := (wordsB 44 x).flatMap secOf
def dataBad (x : ByteArray) : Bool := (wordsB 44 x).any badPc
theorem padS_len (b : List UInt8) : (padS b).length = 64 := by simp [padS]; omega
theorem secOf_len (x : ByteArray) : (secOf x).length = 64 := by
 unfold secOf
 split
 ·simp
 ·exact padS_len _
theorem flat_len : ∀ l : List ByteArray, (l.flatMap secOf).length = 64 * l.length
 | [] => rfl
 | x :: l => by rw [List.flatMap_cons, List.length_append, secOf_len, flat_len l, List.length_cons]; omega
def zs64 : Array Value := Array.replicate 64 (.int .u8 0)
theorem zs64_bv : zs64 = ((List.replicate 64 (0 : UInt8)).map bv).toArray := by kernel_rfl
theorem z64_at (j : Nat) (y : UInt8) (hj : (List.replicate 64 (0 : UInt8))[j]? = some y) : zs64[j]? = some (bv y) := by
 rw [zs64_bv]
 simp only [List.getElem?_toArray, List.getElem?_map, hj, Option.map_some]
def zl64 : List Value := List.replicate 64 (.int .u8 0)
def cs64 (b : List UInt8) : List Value := (b.take 64).map bv
theorem copyLen (b : List UInt8) : (cs64 b).length = Nat.min b.length 64 := by simp only [cs64]; simp only [List.length_map, List.length_take]; exact Nat.min_comm _ _
theorem copyFit (b : List UInt8) : 0 + (cs64 b).length ≤ zl64.length := by simp [cs64, zl64, List.length_take]; omega
theorem copyOne (b : List UInt8) : ∀ v ∈ cs64 b, v.oneCell' = true := by
 intro v hv
 simp only [cs64, List.mem_map] at hv
 obtain ⟨y, _, rfl⟩ := hv
 rfl
theorem copySec (W : World) (g p : Nat) (u : Value) (T : TypeId) (h : W.heap[g]? = some (.cells zs64 T (0, 0))) (hne : g ≠ p) : (W.setCell ⟨p, 1, none⟩ u).heap[g]? = some (.cells zl64.toArray T (0, 0)) := by
 refine (Below.heap_setCell W ⟨p, 1, none⟩ u g hne).trans (h.trans ?_)
 rw [zs64_bv]; rfl
theorem copySrc (W : World) (p : Nat) (B : Bool) (b : List UInt8) (A : Option Addr) (h : Row bv W A b) (hne : ∀ a, A = some a → a.block ≠ p) (hc : 0 < (cs64 b).length) :
  ∃ ad, A = some ad ∧ ∀ j v, (cs64 b)[j]? = some v → (W.setCell ⟨p, 1, none⟩ (.bool B)).cell? (ad.add j) = some v := by
 unfold cs64 at hc ⊢
 have hb : b ≠ [] := by rintro rfl; simp at hc
 obtain ⟨g, o, rfl, _, hcell⟩ := h.at_ hb
 refine ⟨_, rfl, fun j v hj => ?_⟩
 rw [List.getElem?_map, List.getElem?_take] at hj
 split at hj
 ·cases hy : b[j]? with
  | none => rw [hy] at hj; cases hj
  | some y =>
   rw [hy] at hj; cases hj
   rw [Go.WideShapes.add_plain, World.cell?_setCell_other _ _ _ _ (by intro e; injection e with e1; exact hne _ rfl e1.symm)]
   exact hcell j y hy
 ·cases hj
theorem spliceS (b : List UInt8) : (splice zl64 0 (cs64 b)) = (padS b).map bv := by
 have e : List.replicate 64 (Value.int .u8 0) = (List.replicate 64 (0 : UInt8)).map bv := by kernel_rfl
 have e2 : 64 - min 64 b.length = 64 - b.length := by omega
 rw [cs64, zl64, splice, padS, List.map_append, e, List.take_zero, List.nil_append, Nat.zero_add, ← List.map_drop, List.length_map, List.length_take, List.drop_replicate, e2]
structure WSo (p : Nat) (W0 W : World) (ws : List ByteArray) (bad : Bool) : Prop where
 f0 : W.frozen? ⟨p, 0, none⟩ = false
 f1 : W.frozen? ⟨p, 1, none⟩ = false
 c1 : W.cell? ⟨p, 1, none⟩ = some (.bool bad)
 c0 : ∃ A c, W.cell? ⟨p, 0, none⟩ = some (.slice A ws.length c) ∧ ws.length ≤ c ∧ (∀ a, A = some a → a.block ≠ p) ∧ Row Value.string W0 A ws
 few : ws.length ≤ 1000000
 short : ∀ x ∈ ws, x.size ≤ 1000000000
theorem WS.o {p : Nat} {W : World} {ws : List ByteArray} {bad : Bool} (h : WS p W ws bad) : WSo p W W ws bad := ⟨h.f0, h.f1, h.c1, h.c0, h.few, h.short⟩
theorem WSo.ws {p : Nat} {W0 W : World} {ws : List ByteArray} {bad : Bool} (h : WSo p W0 W ws bad) (r : Wrd p W0 W) : WS p W ws bad := by
 obtain ⟨f0, f1, c1, ⟨A, c, c0, hc, hne, hr⟩, few, short⟩ := h
 exact ⟨f0, f1, c1, ⟨A, c, c0, hc, hne, hr.wrd r hne⟩, few, short⟩
theorem WSo.below {p B : Nat} {W0 W W' : World} {ws : List ByteArray} {bad : Bool} (h : WSo p W0 W ws bad) (hb : Below B W W') (hp : p < B) : WSo p W0 W' ws bad := by
 obtain ⟨f0, f1, c1, ⟨A, c, c0, hc, hne, hr⟩, few, short⟩ := h
 exact ⟨(hb.frozen (p := ⟨p, 0, none⟩) hp).trans f0, (hb.frozen (p := ⟨p, 1, none⟩) hp).trans f1, (hb.cell (p := ⟨p, 1, none⟩) hp).trans c1, ⟨A, c, (hb.cell (p := ⟨p, 0, none⟩) hp).trans c0, hc, hne, hr⟩, few, short⟩
theorem WSo.bad {p : Nat} {W0 W : World} {ws : List ByteArray} {bad : Bool} (h : WSo p W0 W ws bad) (b : Bool) : WSo p W0 (W.setCell ⟨p, 1, none⟩ (.bool b)) ws b := by
 obtain ⟨f0, f1, c1, ⟨A, c, c0, hc, hne, hr⟩, few, short⟩ := h
 refine ⟨by rw [World.frozen?_setCell]; exact f0, by rw [World.frozen?_setCell]; exact f1, World.cell?_setCell_same _ _ _ c1, ⟨A, c, ?_, hc, hne, hr⟩, few, short⟩
 rw [World.cell?_setCell_other _ _ _ _ (by intro e; cases e)]; exact c0
theorem Wrd.more {p B : Nat} {W0 W W' : World} (h : Wrd p W0 W) (hb : Below B W W') (hB : W0.heap.size ≤ B) : Wrd p W0 W' :=
 ⟨hb.os.trans h.g.os, hb.tape.trans h.g.tape, hb.output.trans h.g.output, Nat.le_trans h.g.size hb.size, fun i hi hne => (hb.block i (Nat.lt_of_lt_of_le hi hB)).trans (h.g.block i hi hne)⟩
theorem OwnR.wrd {α : Type} {enc : α → Value} {E : TypeId} {base p : Nat} {W W' : World} {v : Value} {xs : List α} (h : OwnR enc E base W v xs) (r : Wrd p W W') (hp : p < base) : OwnR enc E base W' v xs := by
 refine ⟨h.1, ?_⟩
 rcases h.2 with h2 | ⟨g, cap, cur, hv, hb, hh, h4⟩
 ·exact .inl h2
 ·exact .inr ⟨g, cap, cur, hv, hb, (r.g.block g (Array.getElem?_eq_some_iff.1 hh).1 (fun e => by cases e; omega)).trans hh, h4⟩
theorem Wrd.blockAt {p g : Nat} {W W' : World} {cs : Array Value} {t : TypeId} (r : Wrd p W W') (h : BlockAt W g cs t) (hne : g ≠ p) : BlockAt W' g cs t :=
 ⟨(r.g.block g (Array.getElem?_eq_some_iff.1 h.eq).1 (fun e => by cases e; exact hne rfl)).trans h.eq⟩
structure DatC (p : Nat) (W1 wr W4 : World) (ws : List ByteArray) (B : Bool) (v : Value) (o : List UInt8) (ps : List ByteArray) (b : List UInt8) : Prop where
 own : OwnR bv 5 W1.heap.size W4 v o
 cell : ∀ j y, (padS b)[j]? = some y → W4.cell? ⟨wr.heap.size, 0 + j, none⟩ = some (bv y)
 ws : WSo p W1 W4 ws B
 blk : BlockAt W4 W1.heap.size (ps.map Value.string).toArray 9
 wrd : Wrd p W1 W4
theorem datC {p : Nat} {W1 wr W2 W4 : World} {ws : List ByteArray} {b0 B : Bool} {v : Value} {o : List UInt8} {ps : List ByteArray} {b : List UInt8} {T : TypeId}
  (h1 : OwnR bv 5 W1.heap.size wr v o) (h2 : Wrd p W1 wr) (h3 : Wrd p wr W2) (h4 : WSo p W1 W2 ws b0) (h5 : BlockAt wr W1.heap.size (ps.map Value.string).toArray 9) (hp : p < W1.heap.size)
  (h6 : Hid (W4.heap[wr.heap.size]? = some (.cells (splice zl64 0 (cs64 b)).toArray T (0, 0)))) (h7 : Below wr.heap.size (W2.setCell ⟨p, 1, none⟩ (.bool B)) W4) : DatC p W1 wr W4 ws B v o ps b := by
 have r : Wrd p wr W4 := (h3.trans (Wrd.set _ _ _ _)).more h7 (Nat.le_refl _)
 have hs := h2.g.size
 refine ⟨h1.wrd r hp, ?_, (h4.bad B).below h7 (by omega), r.blockAt h5 (by omega), h2.trans r⟩
 intro j y hj
 have := h6.out
 rw [spliceS] at this
 rw [Nat.zero_add]
 simp only [World.cell?, this]
 simp [hj]
set_option maxRecDepth 100000 in
set_option maxHeartbeats 4000000 in
theorem data_any (p : Nat) (W : World) [hm : Ml W] [hfp : Far p] (ws : List ByteArray) (bad : Bool) (h : WS p W ws bad) (hw : (hdW ws).size ≤ 200000) :
  Calls Tryz.prog 83 #[.pointer (some ⟨p, 0, none⟩)] W fun e W' => ∃ v, e = .returned v ∧ OwnR bv 5 W.heap.size W' v (dataOf (hdW ws)) ∧ WS p W' ws.tail ((bad || ws.isEmpty) || dataBad (hdW ws)) ∧ Wrd p W W' := by
 have H := Lib.hid h; clear h
 go_enter Tryz.func83, Tryz.ntmps83
 go_wp2_with ((go_at_call 49; ((with_reducible refine (word_any p _ ws bad H.out).mono ?_))))
 rintro _ W1 ⟨rfl, h1, r1⟩
 haveI : Ml W1 := r1.ml
 have hp1 := h1.old.lt
 have H1 := Lib.hid h1; have R1 := Lib.hid r1; clear h1 r1
 have hsz1 := R1.out.g.size
 go_wp2_with ((go_at_call 36; ((with_reducible refine (split_any (hdW ws) 44 _ (by omega)).mono ?_))))
 rintro _ _ ⟨rfl, rfl⟩
 have hn := wordsB_le 44 (hdW ws)
 have hsh := Lib.hid (fun x hx => wordsB_each 44 (hdW ws) x hx)
 generalize hps : wordsB 44 (hdW ws) = ps at *
 have HPS := Lib.hid hps; clear hps
 go_wp2
 go_loopw [3, 13] (fun v i wr => ∃ k : Nat, i = .int .i64 k ∧ k ≤ ps.length ∧ OwnR bv 5 W1.heap.size wr v ((ps.take k).flatMap secOf) ∧ WSo p W1 wr ws.tail ((bad || ws.isEmpty) || (ps.take k).any badPc) ∧ BlockAt wr W1.heap.size (ps.map Value.string).toArray 9 ∧ Wrd p W1 wr) (fun _ i _ => ps.length - (intOf i).toNat)
 case atStart => exact ⟨0, rfl, Nat.zero_le _, OwnR.nil _ _, by simpa using (H1.out.o.below (below_alloc (Below.refl W1.heap.size W1) _) hp1), inferInstance, Wrd.gr (Gr.of (below_alloc (Below.refl _ _) _))⟩
 case round =>
  obtain ⟨k, rfl, hk, hown, hws, hblk, hwrd⟩ := hrel
  have HWS := Lib.hid hws; have HWR := Lib.hid hwrd; clear hws hwrd
  have hsz := HWR.out.g.size
  have hfl := flat_len (ps.take k)
  have htl : (ps.take k).length ≤ k := List.length_take_le _ _
  by_cases hlt : k < ps.length
  ·have hx : wr.cell? ⟨W1.heap.size, k, none⟩ = some (.string ps[k]) := by rw [block_cells]; simp [hlt]
   have hxs : ps[k].size ≤ (hdW ws).size := hsh.out _ (List.getElem_mem hlt)
   have htk := List.take_succ_eq_append_getElem hlt
   generalize hxk : ps[k] = x at *
   clear hxk
   have HT := Lib.hid htk; clear htk
   rcases Bool.eq_false_or_eq_true (x.toList == [45]) with h45 | h45
   ·have e45 : (x.data.toList == [45]) = true := by rw [← Lib.toList_data]; exact h45
    have E1 := Lib.hid (show secOf x = List.replicate 64 0 by rw [secOf, if_pos e45])
    have E2 := Lib.hid (show badPc x = false by rw [badPc, e45]; rfl)
    clear e45
    go_wp2_with (at_builtin; refine wp_append_byte rfl _ _ rfl W1.heap.size ?vv ((ps.take k).flatMap secOf) ?hs1 ?own1 _ 0 64 (List.replicate 64 0) 64 (by simp) rfl ?hc1 ?hl1 ?hb1 ?_)
    case hs1 => rfl
    case own1 => exact hown.alloc_ _
    case hc1 =>
     intro j y hj
     rw [Nat.zero_add, World.cell?_alloc_new]
     exact z64_at j y hj
    case hl1 => simp only [List.length_replicate]; omega
    case hb1 => simp; omega
    intro v2 W2 a2
    have hbA : Below W1.heap.size wr W2 := ((Below.refl _ wr).alloc hsz _).trans a2.below
    have hown2 := a2.own
    have hblk2 := a2.keep _ _ _ (inferInstance : BlockAt _ W1.heap.size _ _) (by decide)
    clear a2
    go_wp2
    go_roundw
    case rel =>
     refine ⟨k + 1, by go_num, by omega, ?_, ?_, hblk2, HWR.out.more hbA (Nat.le_refl _)⟩
     ·rw [HT.out, List.flatMap_append, List.flatMap_singleton, E1.out]; exact hown2
     ·have := HWS.out.below hbA hp1
      rw [HT.out, List.any_append]
      simpa [E2.out] using this
    case measure => simp [intOf]; omega
   ·-- HEX
    have e45 : (x.data.toList == [45]) = false := by rw [← Lib.toList_data]; exact h45
    have E1 := Lib.hid (show secOf x = padS ((unhexL x.data.toList).getD []) by rw [secOf, if_neg (by simpa using e45)])
    have E2 := Lib.hid (show badPc x = (!(unhexL x.data.toList).isSome || decide (64 < ((unhexL x.data.toList).getD []).length)) by rw [badPc, e45]; rfl)
    clear e45
    have hul : ((unhexL x.data.toList).getD []).length ≤ 200000 := by
     cases hu : unhexL x.data.toList with
     | none => simp
     | some o => have := unhexL_len _ _ hu; rw [← Lib.size_eq] at this; simp; omega
    have HU := Lib.hid (fun V => unhex_any x (by omega) V)
    go_wp2_with ((go_at_call 103; ((with_reducible refine (HU.out _).mono ?_))))
    clear HU
    generalize (unhexL x.data.toList).getD [] = b at *
    generalize (unhexL x.data.toList).isSome = so at *
    rintro _ W2 ⟨vb, rfl, hob, hbB⟩
    have hwA : Wrd p wr W2 := (Wrd.gr (Gr.of (below_alloc (Below.refl _ _) _))).more hbB (by simp)
    have hsec : W2.heap[wr.heap.size]? = some (.cells zs64 137 (0, 0)) := (hbB.block _ (by simp)).trans (heap_alloc_new wr _)
    have hws2 := (HWS.out.below (below_alloc (Below.refl wr.heap.size wr) _) (Nat.lt_of_lt_of_le hp1 hsz)).below hbB (Nat.lt_of_lt_of_le hp1 (Nat.le_trans hsz (by simp)))
    have hob' : OwnR bv 5 wr.heap.size W2 vb b := OwnR.more hob (by simp)
    have HOB := Lib.hid hob'; clear hob hob'
    have HWA := Lib.hid hwA; clear hwA
    have HBB := Lib.hid hbB; clear hbB
    have HSEC := Lib.hid hsec; clear hsec
    have c1 := hws2.c1
    have f1 := hws2.f1
    have HW2 := Lib.hid hws2; clear hws2
    have HWN := Lib.hid hown; clear hown
    have HBL := Lib.hid hblk; clear hblk
    generalize hbk : ((bad || ws.isEmpty) || (ps.take k).any badPc) = bk at *
    have HBK := Lib.hid hbk; clear hbk
    obtain ⟨Ab, cb, rfl, hcb, hrb⟩ := HOB.out.form
    have hneb : ∀ a, Ab = some a → a.block ≠ p := fun a e => by
     have := HOB.out.lt a.block (by simp [Value.ownBlock, e])
     omega
    have HRB := Lib.hid hrb; clear hrb
    have HNB := Lib.hid hneb; clear hneb
    rcases Bool.eq_false_or_eq_true bk with hk1 | hk1
    ·rw [hk1] at c1
     have HB := Lib.hid (show (true : Bool) = (bk || badPc x) by rw [E2.out]; simp [*])
     go_wp2_with (with_reducible refine wpList_copy_splice rfl (.tmp 40) (.tmp 41) 24 24 rfl 5 Tryz.underlying24 ?hsz1 (some ⟨wr.heap.size, 0, none⟩) Ab 64 64 b.length cb ?hd1 ?hs1 wr.heap.size 0 zl64 137 ?hg1 (cs64 b) ?hn1 ?hpos1 ?hfit1 ?h11 wr.heap.size (W2.setCell ⟨p, 1, none⟩ (.bool true)) ?hb1 ?hBg1 ?_)
     case hsz1 => kernel_rfl
     case hd1 => rfl
     case hs1 => rfl
     case hg1 => exact copySec _ _ _ _ _ HSEC.out (by omega)
     case hn1 => exact copyLen b
     case hpos1 =>
      intro hc
      first | exact copySrc _ _ _ _ _ HRB.out HNB.out hc | exact ⟨rfl, copySrc _ _ _ _ _ HRB.out HNB.out hc⟩
     case hfit1 => exact copyFit b
     case h11 => exact copyOne b
     case hb1 => exact Below.refl _ _
     case hBg1 => exact Nat.le_refl _
     intro W4 HG4 hB4
     have HC := Lib.hid (datC HWN.out HWR.out HWA.out HW2.out HBL.out hp1 HG4 hB4)
     clear HG4 hB4
     have hs4 := HC.out.wrd.g.size
     go_wp2_with (at_builtin; refine wp_append_byte rfl _ _ rfl W1.heap.size ?vv1 ((ps.take k).flatMap secOf) ?hsa1 ?own1 wr.heap.size 0 64 (padS b) 64 (padS_len b) rfl ?hc1 ?hl1 ?hb11 ?_)
     case hsa1 => rfl
     case own1 => exact HC.out.own
     case hc1 => exact HC.out.cell
     case hl1 => rw [padS_len]; omega
     case hb11 => exact hs4
     intro v2 W5 a2
     have hown2 := a2.own
     have hblk2 := a2.keep _ _ _ HC.out.blk (by decide)
     have hwrd2 := HC.out.wrd.more a2.below (Nat.le_refl _)
     have hws2 := HC.out.ws.below a2.below hp1
     clear a2
     go_wp2
     go_roundw
     case rel =>
      refine ⟨k + 1, by go_num, by omega, ?_, ?_, hblk2, hwrd2⟩
      ·rw [HT.out, List.flatMap_append, List.flatMap_singleton, E1.out]; exact hown2
      ·rw [HT.out, List.any_append, List.any_cons, List.any_nil, Bool.or_false, ← Bool.or_assoc, HBK.out, ← HB.out]
       exact hws2
     case measure => simp [intOf]; omega
    ·rw [hk1] at c1
     rcases Bool.eq_false_or_eq_true so with hso | hso
     ·subst hso
      by_cases hbl : 64 < b.length
      ·have hbi : decide ((64 : Int) < (b.length : Int)) = true := decide_eq_true (by omega)
       have HB := Lib.hid (show (true : Bool) = (bk || badPc x) by rw [E2.out]; simp [*])
       go_wp2_with (with_reducible refine wpList_copy_splice rfl (.tmp 40) (.tmp 41) 24 24 rfl 5 Tryz.underlying24 ?hsz2 (some ⟨wr.heap.size, 0, none⟩) Ab 64 64 b.length cb ?hd2 ?hs2 wr.heap.size 0 zl64 137 ?hg2 (cs64 b) ?hn2 ?hpos2 ?hfit2 ?h12 wr.heap.size (W2.setCell ⟨p, 1, none⟩ (.bool true)) ?hb2 ?hBg2 ?_)
       case hsz2 => kernel_rfl
       case hd2 => rfl
       case hs2 => rfl
       case hg2 => exact copySec _ _ _ _ _ HSEC.out (by omega)
       case hn2 => exact copyLen b
       case hpos2 =>
        intro hc
        first | exact copySrc _ _ _ _ _ HRB.out HNB.out hc | exact ⟨rfl, copySrc _ _ _ _ _ HRB.out HNB.out hc⟩
       case hfit2 => exact copyFit b
       case h12 => exact copyOne b
       case hb2 => exact Below.refl _ _
       case hBg2 => exact Nat.le_refl _
       intro W4 HG4 hB4
       have HC := Lib.hid (datC HWN.out HWR.out HWA.out HW2.out HBL.out hp1 HG4 hB4)
       clear HG4 hB4
       have hs4 := HC.out.wrd.g.size
       go_wp2_with (at_builtin; refine wp_append_byte rfl _ _ rfl W1.heap.size ?vv2 ((ps.take k).flatMap secOf) ?hsa2 ?own2 wr.heap.size 0 64 (padS b) 64 (padS_len b) rfl ?hc2 ?hl2 ?hb12 ?_)
       case hsa2 => rfl
       case own2 => exact HC.out.own
       case hc2 => exact HC.out.cell
       case hl2 => rw [padS_len]; omega
       case hb12 => exact hs4
       intro v2 W5 a2
       have hown2 := a2.own
       have hblk2 := a2.keep _ _ _ HC.out.blk (by decide)
       have hwrd2 := HC.out.wrd.more a2.below (Nat.le_refl _)
       have hws2 := HC.out.ws.below a2.below hp1
       clear a2
       go_wp2
       go_roundw
       case rel =>
        refine ⟨k + 1, by go_num, by omega, ?_, ?_, hblk2, hwrd2⟩
        ·rw [HT.out, List.flatMap_append, List.flatMap_singleton, E1.out]; exact hown2
        ·rw [HT.out, List.any_append, List.any_cons, List.any_nil, Bool.or_false, ← Bool.or_assoc, HBK.out, ← HB.out]
         exact hws2
       case measure => simp [intOf]; omega
      ·have hbi : decide ((64 : Int) < (b.length : Int)) = false := decide_eq_false (by omega)
       have HB := Lib.hid (show (false : Bool) = (bk || badPc x) by rw [E2.out]; simp [*])
       go_wp2_with (with_reducible refine wpList_copy_splice rfl (.tmp 40) (.tmp 41) 24 24 rfl 5 Tryz.underlying24 ?hsz3 (some ⟨wr.heap.size, 0, none⟩) Ab 64 64 b.length cb ?hd3 ?hs3 wr.heap.size 0 zl64 137 ?hg3 (cs64 b) ?hn3 ?hpos3 ?hfit3 ?h13 wr.heap.size (W2.setCell ⟨p, 1, none⟩ (.bool false)) ?hb3 ?hBg3 ?_)
       case hsz3 => kernel_rfl
       case hd3 => rfl
       case hs3 => rfl
       case hg3 => exact copySec _ _ _ _ _ HSEC.out (by omega)
       case hn3 => exact copyLen b
       case hpos3 =>
        intro hc
        first | exact copySrc _ _ _ _ _ HRB.out HNB.out hc | exact ⟨rfl, copySrc _ _ _ _ _ HRB.out HNB.out hc⟩
       case hfit3 => exact copyFit b
       case h13 => exact copyOne b
       case hb3 => exact Below.refl _ _
       case hBg3 => exact Nat.le_refl _
       intro W4 HG4 hB4
       have HC := Lib.hid (datC HWN.out HWR.out HWA.out HW2.out HBL.out hp1 HG4 hB4)
       clear HG4 hB4
       have hs4 := HC.out.wrd.g.size
       go_wp2_with (at_builtin; refine wp_append_byte rfl _ _ rfl W1.heap.size ?vv3 ((ps.take k).flatMap secOf) ?hsa3 ?own3 wr.heap.size 0 64 (padS b) 64 (padS_len b) rfl ?hc3 ?hl3 ?hb13 ?_)
       case hsa3 => rfl
       case own3 => exact HC.out.own
       case hc3 => exact HC.out.cell
       case hl3 => rw [padS_len]; omega
       case hb13 => exact hs4
       intro v2 W5 a2
       have hown2 := a2.own
       have hblk2 := a2.keep _ _ _ HC.out.blk (by decide)
       have hwrd2 := HC.out.wrd.more a2.below (Nat.le_refl _)
       have hws2 := HC.out.ws.below a2.below hp1
       clear a2
       go_wp2
       go_roundw
       case rel =>
        refine ⟨k + 1, by go_num, by omega, ?_, ?_, hblk2, hwrd2⟩
        ·rw [HT.out, List.flatMap_append, List.flatMap_singleton, E1.out]; exact hown2
        ·rw [HT.out, List.any_append, List.any_cons, List.any_nil, Bool.or_false, ← Bool.or_assoc, HBK.out, ← HB.out]
         exact hws2
       case measure => simp [intOf]; omega
     ·subst hso
      have HB := Lib.hid (show (true : Bool) = (bk || badPc x) by rw [E2.out]; simp [*])
      go_wp2_with (with_reducible refine wpList_copy_splice rfl (.tmp 40) (.tmp 41) 24 24 rfl 5 Tryz.underlying24 ?hsz4 (some ⟨wr.heap.size, 0, none⟩) Ab 64 64 b.length cb ?hd4 ?hs4 wr.heap.size 0 zl64 137 ?hg4 (cs64 b) ?hn4 ?hpos4 ?hfit4 ?h14 wr.heap.size (W2.setCell ⟨p, 1, none⟩ (.bool true)) ?hb4 ?hBg4 ?_)
      case hsz4 => kernel_rfl
      case hd4 => rfl
      case hs4 => rfl
      case hg4 => exact copySec _ _ _ _ _ HSEC.out (by omega)
      case hn4 => exact copyLen b
      case hpos4 =>
       intro hc
       first | exact copySrc _ _ _ _ _ HRB.out HNB.out hc | exact ⟨rfl, copySrc _ _ _ _ _ HRB.out HNB.out hc⟩
      case hfit4 => exact copyFit b
      case h14 => exact copyOne b
      case hb4 => exact Below.refl _ _
      case hBg4 => exact Nat.le_refl _
      intro W4 HG4 hB4
      have HC := Lib.hid (datC HWN.out HWR.out HWA.out HW2.out HBL.out hp1 HG4 hB4)
      clear HG4 hB4
      have hs4 := HC.out.wrd.g.size
      go_wp2_with (at_builtin; refine wp_append_byte rfl _ _ rfl W1.heap.size ?vv4 ((ps.take k).flatMap secOf) ?hsa4 ?own4 wr.heap.size 0 64 (padS b) 64 (padS_len b) rfl ?hc4 ?hl4 ?hb14 ?_)
      case hsa4 => rfl
      case own4 => exact HC.out.own
      case hc4 => exact HC.out.cell
      case hl4 => rw [padS_len]; omega
      case hb14 => exact hs4
      intro v2 W5 a2
      have hown2 := a2.own
      have hblk2 := a2.keep _ _ _ HC.out.blk (by decide)
      have hwrd2 := HC.out.wrd.more a2.below (Nat.le_refl _)
      have hws2 := HC.out.ws.below a2.below hp1
      clear a2
      go_wp2
      go_roundw
      case rel =>
       refine ⟨k + 1, by go_num, by omega, ?_, ?_, hblk2, hwrd2⟩
       ·rw [HT.out, List.flatMap_append, List.flatMap_singleton, E1.out]; exact hown2
       ·rw [HT.out, List.any_append, List.any_cons, List.any_nil, Bool.or_false, ← Bool.or_assoc, HBK.out, ← HB.out]
        exact hws2
      case measure => simp [intOf]; omega
  ·have hkk : k = ps.length := by omega
   have htk : ps.take k = ps := List.take_of_length_le (by omega)
   rw [htk] at hown HWS
   clear htk hfl htl
   go_wp2
   go_ret
   refine ⟨_, rfl, ?_, ?_, ?_⟩
   ·rw [dataOf, HPS.out]; exact hown.more hsz1
   ·rw [dataBad, HPS.out]; exact HWS.out.ws HWR.out
   ·exact R1.out.trans ⟨HWR.out.g⟩
end Go.Proofs.YtgjdgafoidppaaaGreatDoor
