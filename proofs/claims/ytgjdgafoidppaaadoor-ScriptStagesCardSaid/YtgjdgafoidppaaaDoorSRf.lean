/- voileref26.number, small, text, Words; voileref01.Text: what the reference reads and tells of numbers, and where it cuts. Conditions: a text of at most 10^6 bytes. -/
import Derived.Test.YtgjdgafoidppaaaDoorSApp2
import Derived.Test.YtgjdgafoidppaaaDoorSDc2
import Derived.Test.YtgjdgafoidppaaaDoorSOpT
namespace Go.Proofs.YtgjdgafoidppaaaDoor
open Go.RowKit
set_option linter.unusedVariables false
set_option linter.unusedSimpArgs false
set_option linter.unnecessarySimpa false
theorem number26_any (s : ByteArray) (most : Nat) (hm : most ≤ 18446744073709551615) (hs : s.size ≤ 1000000000) (w : World) :
    Calls Tryd.prog 58 #[.string s, .int .u64 most] w fun e w' => e = .returned (.int .u64 (decV s.data.toList most)) ∧ Gr w w' := by
  rcases Bool.eq_false_or_eq_true (decOk s.data.toList most) with h | h
  · have HD := Lib.hid (dec01_any s most hm hs w)
    go_enter Tryd.func58, Tryd.ntmps58
    go_wp2_with ((go_at_call 82; ((with_reducible refine (HD.out).mono ?_); rintro _ _ ⟨rfl, g, rfl⟩)))
    go_ret
    exact ⟨rfl, by (refine Gr.of ?_; repeat (first | with_reducible exact Below.refl _ _ | with_reducible apply below_alloc | with_reducible refine below_set' ?_ _ | with_reducible refine below_trans ?_ (grown_below _ _) | with_reducible refine below_iter' ?_ _ _ | with_reducible apply Below.drew | with_reducible refine below_trans ?_ (by assumption)))⟩
  · have HD := Lib.hid (dec01_any s most hm hs w)
    have HV := Lib.hid (decV_bad h)
    go_enter Tryd.func58, Tryd.ntmps58
    go_wp2_with ((go_at_call 82; ((with_reducible refine (HD.out).mono ?_); rintro _ _ ⟨rfl, g, rfl⟩)))
    go_ret
    exact ⟨by rw [HV.out]; rfl, by (refine Gr.of ?_; repeat (first | with_reducible exact Below.refl _ _ | with_reducible apply below_alloc | with_reducible refine below_set' ?_ _ | with_reducible refine below_trans ?_ (grown_below _ _) | with_reducible refine below_iter' ?_ _ _ | with_reducible apply Below.drew | with_reducible refine below_trans ?_ (by assumption)))⟩
theorem small26_any (s : ByteArray) (most : Nat) (hm : most ≤ 9223372036854775807) (hs : s.size ≤ 1000000000) (w : World) :
    Calls Tryd.prog 32 #[.string s, .int .i64 most] w fun e w' => e = .returned (.int .i64 (decV s.data.toList most)) ∧ Gr w w' := by
  have hv := decV_le s.data.toList most
  have hw : IntKind.i64.wrap (decV s.data.toList most : Int) = (decV s.data.toList most : Int) := by rw [IntKind.wrap_i64]; omega
  have hw2 : IntKind.u64.wrap (most : Int) = (most : Int) := by rw [u64_wrap]; omega
  go_enter Tryd.func32, Tryd.ntmps32
  go_wp2_with ((go_at_call 58; ((with_reducible refine (number26_any s most (by omega) hs _).mono ?_); rintro _ _ ⟨rfl, g, rfl⟩)))
  go_ret
  exact ⟨rfl, by (refine Gr.of ?_; repeat (first | with_reducible exact Below.refl _ _ | with_reducible apply below_alloc | with_reducible refine below_set' ?_ _ | with_reducible refine below_trans ?_ (grown_below _ _) | with_reducible refine below_iter' ?_ _ _ | with_reducible apply Below.drew | with_reducible refine below_trans ?_ (by assumption)))⟩
theorem digit_fin : ∀ i : Fin 10, ((⟨#[48, 49, 50, 51, 52, 53, 54, 55, 56, 57]⟩ : ByteArray).extract i.val (i.val + 1)) = ⟨#[UInt8.ofNat (48 + i.val)]⟩ := by decide +kernel
theorem digit_at (i : Nat) (h : i < 10) : ((⟨#[48, 49, 50, 51, 52, 53, 54, 55, 56, 57]⟩ : ByteArray).extract i (i + 1)) = ⟨#[UInt8.ofNat (48 + i)]⟩ := digit_fin ⟨i, h⟩
/-- The digits ahead of the last one. -/
def frontD (k : Nat) : List UInt8 := if k < 10 then [] else Lib.decDigits (k / 10)
theorem front_digits (k : Nat) : Lib.decDigits k = frontD k ++ [UInt8.ofNat (48 + k % 10)] := by
  unfold frontD
  by_cases h : k < 10
  · rw [if_pos h, Lib.decDigits_one h, Nat.mod_eq_of_lt h]; rfl
  · rw [if_neg h, Lib.decDigits, dif_neg h]
def TSt (u k : Nat) (l : List UInt8) : Prop := Lib.decDigits u = frontD k ++ l
theorem tst_next {u k : Nat} {l : List UInt8} (h : TSt u k l) (h9 : 9 < k) : TSt u (k / 10) (UInt8.ofNat (48 + k / 10 % 10) :: l) := by
  unfold TSt at h ⊢
  have e : frontD k = Lib.decDigits (k / 10) := by unfold frontD; rw [if_neg (by omega)]
  rw [h, e, front_digits (k / 10)]; simp
theorem tst_end {u k : Nat} {l : List UInt8} (h : TSt u k l) (h9 : k ≤ 9) : Lib.decDigits u = l := by
  unfold TSt at h
  have e : frontD k = [] := by unfold frontD; rw [if_pos (by omega)]
  rw [h, e]; rfl
theorem digit_app (i : Nat) (h : i < 10) (l : List UInt8) : ((⟨#[48, 49, 50, 51, 52, 53, 54, 55, 56, 57]⟩ : ByteArray).extract i (i + 1)) ++ (⟨l.toArray⟩ : ByteArray) = ⟨(UInt8.ofNat (48 + i) :: l).toArray⟩ := by
  rw [digit_at i h]
  apply ByteArray.ext
  simp
set_option maxHeartbeats 2000000 in
theorem text01_any (u : Nat) (hu : u ≤ 18446744073709551615) (w : World) :
    Calls Tryd.prog 59 #[.int .u64 u] w fun e w' => e = .returned (.string ⟨(Lib.decDigits u).toArray⟩) ∧ Gr w w' := by
  go_enter Tryd.func59, Tryd.ntmps59
  go_wp2
  go_loop [0, 4] (fun n s => ∃ (k : Nat) (l : List UInt8), n = .int .u64 k ∧ k ≤ u ∧ s = .string ⟨l.toArray⟩ ∧ TSt u k l) (fun n _ => (intOf n).toNat)
  case atStart => exact ⟨u, [UInt8.ofNat (48 + u % 10)], rfl, Nat.le_refl _, by rw [digit_at _ (by omega)], front_digits u⟩
  case round =>
    obtain ⟨k, l, rfl, hk, rfl, hd⟩ := hrel
    have hll : l.length ≤ 20 := by
      have h1 := dec_len u (by omega)
      rw [hd, List.length_append] at h1
      omega
    have HD := Lib.hid hd; clear hd
    by_cases h9 : 9 < k
    · go_wp2
      go_round
      case rel => exact ⟨k / 10, _, by go_num, by omega, by rw [digit_app _ (by omega)], tst_next HD.out h9⟩
      case measure => simp [intOf]; omega
    · go_wp2
      go_ret
      exact ⟨by rw [tst_end HD.out (by omega)]; rfl, by (refine Gr.of ?_; repeat (first | with_reducible exact Below.refl _ _ | with_reducible apply below_alloc | with_reducible refine below_set' ?_ _ | with_reducible refine below_trans ?_ (grown_below _ _) | with_reducible refine below_iter' ?_ _ _ | with_reducible apply Below.drew | with_reducible refine below_trans ?_ (by assumption)))⟩
theorem text26_any (n : Nat) (hn : n ≤ 9223372036854775807) (w : World) :
    Calls Tryd.prog 33 #[.int .i64 n] w fun e w' => e = .returned (.string ⟨(Lib.decDigits n).toArray⟩) ∧ Gr w w' := by
  have hw2 : IntKind.u64.wrap (n : Int) = (n : Int) := by rw [u64_wrap]; omega
  go_enter Tryd.func33, Tryd.ntmps33
  go_wp2_with ((go_at_call 59; ((with_reducible refine (text01_any n (by omega) _).mono ?_); rintro _ _ ⟨rfl, g, rfl⟩)))
  go_ret
  exact ⟨rfl, by (refine Gr.of ?_; repeat (first | with_reducible exact Below.refl _ _ | with_reducible apply below_alloc | with_reducible refine below_set' ?_ _ | with_reducible refine below_trans ?_ (grown_below _ _) | with_reducible refine below_iter' ?_ _ _ | with_reducible apply Below.drew | with_reducible refine below_trans ?_ (by assumption)))⟩
/-- What Words has cut ahead of place k, the last word from place f on. -/
def CSt (c : UInt8) (s : ByteArray) (f k : Nat) (d : List ByteArray) : Prop := cutL c (s.data.toList.take k) = d.map (·.data.toList) ++ [(s.data.toList.drop f).take (k - f)]
theorem cst_start (c : UInt8) (s : ByteArray) : CSt c s 0 0 [] := by simp [CSt, cutL]
theorem cst_sep {c : UInt8} {s : ByteArray} {f k : Nat} {d : List ByteArray} (h : CSt c s f k d) (hk : k < s.data.toList.length) (e : s.data.toList[k] = c) : CSt c s (k + 1) (k + 1) (d ++ [s.extract f k]) := by
  unfold CSt at h ⊢
  rw [List.take_succ_eq_append_getElem hk, e, cutL_snoc_sep, h]
  simp [Lib.extract_data]
theorem cst_ne {c : UInt8} {s : ByteArray} {f k : Nat} {d : List ByteArray} (h : CSt c s f k d) (hf : f ≤ k) (hk : k < s.data.toList.length) (e : s.data.toList[k] ≠ c) : CSt c s f (k + 1) d := by
  unfold CSt at h ⊢
  rw [List.take_succ_eq_append_getElem hk, cutL_snoc_ne e _ _ _ h]
  congr 2
  have h1 : k - f < (s.data.toList.drop f).length := by rw [List.length_drop]; omega
  rw [show k + 1 - f = (k - f) + 1 by omega, List.take_succ_eq_append_getElem h1]
  congr 2
  rw [List.getElem_drop]
  congr 1
  omega
theorem cst_end {c : UInt8} {s : ByteArray} {f k : Nat} {d : List ByteArray} (h : CSt c s f k d) (hk : k = s.size) : d ++ [s.extract f s.size] = wordsB c s := by
  unfold CSt at h
  subst hk
  have e1 : s.data.toList.take s.size = s.data.toList := List.take_of_length_le (by rw [← Lib.size_eq]; exact Nat.le_refl _)
  rw [e1] at h
  have h2 : (d ++ [s.extract f s.size]).map (·.data.toList) = (wordsB c s).map (·.data.toList) := by
    rw [wordsB_data, h]; simp [Lib.extract_data]
  have h3 := congrArg (List.map fun l => (⟨l.toArray⟩ : ByteArray)) h2
  rw [List.map_map, List.map_map] at h3
  have e : ∀ l : List ByteArray, l.map ((fun l : List UInt8 => (⟨l.toArray⟩ : ByteArray)) ∘ fun x => x.data.toList) = l := fun l => by
    induction l with
    | nil => rfl
    | cons x r ih => rw [List.map_cons, ih]; rfl
  rw [e, e] at h3
  exact h3
theorem cst_len {c : UInt8} {s : ByteArray} {f k : Nat} {d : List ByteArray} (h : CSt c s f k d) : d.length ≤ k := by
  unfold CSt at h
  have h1 := cutL_len_le c (s.data.toList.take k)
  rw [h] at h1
  have h2 := List.length_take_le k s.data.toList
  simp at h1
  omega
set_option maxRecDepth 100000 in
set_option maxHeartbeats 4000000 in
theorem words26_any (s : ByteArray) (c : UInt8) (hs : s.size ≤ 900000) (w : World) :
    Calls Tryd.prog 31 #[.string s, .int .u8 c.toNat] w fun e w' => ∃ v, e = .returned v ∧ OwnS w.heap.size w' v (wordsB c s) ∧ Below w.heap.size w w' := by
  go_enter Tryd.func31, Tryd.ntmps31
  go_wp2
  go_loopw [5, 6, 7] (fun v f i wr => ∃ (fn k : Nat) (d : List ByteArray), f = .int .i64 fn ∧ i = .int .i64 k ∧ fn ≤ k ∧ k ≤ s.size ∧ OwnS w.heap.size wr v d ∧ CSt c s fn k d ∧ Below w.heap.size w wr) (fun _ _ i _ => s.size - (intOf i).toNat)
  case atStart => exact ⟨0, 0, [], rfl, rfl, Nat.le_refl _, Nat.zero_le _, OwnS.nil _ _, cst_start c s, Below.refl _ _⟩
  case round =>
    obtain ⟨fn, k, d, rfl, rfl, hfk, hk, hown, hc, hbw⟩ := hrel
    have hlen := cst_len hc
    have HC := Lib.hid hc; clear hc
    have hsz := hbw.size
    by_cases hlt : k < s.size
    · by_cases hx : s[k] = c
      · have hb : ((s[k].toNat : Int) == (c.toNat : Int)) = true := by rw [hx]; simp
        have HX := Lib.hid hx; clear hx
        go_wp2_with (at_builtin; refine wp_append_strs rfl _ _ rfl w.heap.size ?vv d ?hs1 ?own1 _ [s.extract fn k] 1 rfl rfl ?hc1 ?hl1 ?hb1 ?_)
        case own1 => exact hown.alloc_ _
        case hs1 => rfl
        case hc1 =>
          intro j y hj
          match j, hj with
          | 0, hj => simp at hj; subst hj; simp [go_sem]
        case hl1 => simp; omega
        case hb1 => simp; omega
        intro v1 w1 a1
        have hb1 := a1.chain (a := w) (hbw.alloc hsz _) (Nat.le_refl _)
        have hown1 := a1.own
        clear a1 hown hbw
        go_wp2
        go_roundw
        case rel => exact ⟨k + 1, k + 1, _, by go_num, by go_num, by omega, by omega, hown1, cst_sep HC.out (by rw [← Lib.size_eq]; exact hlt) HX.out, hb1⟩
        case measure => simp [intOf]; omega
      · have hb : ((s[k].toNat : Int) == (c.toNat : Int)) = false := by
          simp only [beq_eq_false_iff_ne, ne_eq]; intro h; exact hx (UInt8.toNat_inj.1 (by omega))
        have HX := Lib.hid hx; clear hx
        go_wp2
        go_roundw
        case rel => exact ⟨fn, k + 1, d, rfl, by go_num, by omega, by omega, hown, cst_ne HC.out hfk (by rw [← Lib.size_eq]; exact hlt) HX.out, hbw⟩
        case measure => simp [intOf]; omega
    · go_wp2_with (at_builtin; refine wp_append_strs rfl _ _ rfl w.heap.size ?vv2 d ?hs2 ?own2 _ [s.extract fn s.size] 1 rfl rfl ?hc2 ?hl2 ?hb2 ?_)
      case own2 => exact hown.alloc_ _
      case hs2 => rfl
      case hc2 =>
        intro j y hj
        match j, hj with
        | 0, hj => simp at hj; subst hj; simp [go_sem]
      case hl2 => simp; omega
      case hb2 => simp; omega
      intro v1 w1 a1
      have hb1 := a1.chain (a := w) (hbw.alloc hsz _) (Nat.le_refl _)
      have hown1 := a1.own
      rw [cst_end HC.out (by omega)] at hown1
      clear a1 hown hbw
      go_wp2
      go_ret
      exact ⟨_, rfl, hown1, hb1⟩
end Go.Proofs.YtgjdgafoidppaaaDoor
