/- The reference's OpOf. Conditions: a text of at most 200000 bytes; the tables stand. A row of bytes as a string; the reference's Same. Conditions: what is read stands in memory. 'known' of layer 26: the chapter's rows. Conditions: strconv's table stands. Arguments that hold slices, opened: an operation, an act. Conditions: none. The walk of ScriptClients: it answers true. Conditions: the operation's bytes stand in memory; the tables stand. -/
import Derived.Test.YtgjdgafoidppaaaGreatDoorQ17
import Derived.Test.YtgjdgafoidppaaaGreatDoorQ04
import Derived.Laws.BytesArg
import Derived.Test.YtgjdgafoidppaaaGreatDoorQ14
import Derived.Test.YtgjdgafoidppaaaGreatDoorQ03
import Derived.Test.YtgjdgafoidppaaaGreatDoorQ09
import Derived.ChangeSlices
namespace Go.Proofs.YtgjdgafoidppaaaGreatDoor
open Go.RowKit
set_option linter.unusedVariables false
set_option linter.unusedSimpArgs false
set_option linter.unnecessarySimpa false
theorem hd_at (ws : List ByteArray) (k j : Nat) (hj : j < ws.length + k) : (ws ++ List.replicate k (⟨#[]⟩ : ByteArray))[j]? = some (hdW (ws.drop j)) := by
  by_cases h : j < ws.length
  · rw [List.getElem?_append_left h, List.getElem?_eq_getElem h, List.drop_eq_getElem_cons h]; rfl
  · rw [List.getElem?_append_right (by omega), List.drop_eq_nil_of_le (by omega), List.getElem?_replicate, if_pos (by omega)]; rfl
theorem hd_short {ws : List ByteArray} {m : Nat} (h : ∀ x ∈ ws, x.size ≤ m) (j : Nat) : (hdW (ws.drop j)).size ≤ m := by
  cases hd : ws.drop j with
  | nil => exact Nat.zero_le _
  | cons y r => exact h y (List.mem_of_mem_drop (i := j) (by rw [hd]; simp))
theorem row_cells {W : World} {b o : Nat} {l : List ByteArray} (h : Row Value.string W (some ⟨b, o, none⟩) l) (j : Nat) (x : ByteArray) (hj : l[j]? = some x) : W.cell? ⟨b, o + j, none⟩ = some (.string x) := by
  have hne : l ≠ [] := by rintro rfl; simp at hj
  obtain ⟨b', o', he, _, hc⟩ := h.at_ hne
  cases he
  exact hc j x hj
theorem idx_shift (x : ByteArray) : ∀ (l : List ByteArray) (i : Nat), (Lib.idxFromS l x i = -1 ∧ Lib.idxFromS l x (i + 1) = -1) ∨ (0 ≤ Lib.idxFromS l x i ∧ Lib.idxFromS l x (i + 1) = Lib.idxFromS l x i + 1)
  | [], i => .inl ⟨rfl, rfl⟩
  | z :: l, i => by
    unfold Lib.idxFromS
    split
    · exact .inr ⟨by omega, by omega⟩
    · exact idx_shift x l (i + 1)
/-- The place of a word among the operations'. -/
theorem kd_kOf (x : ByteArray) : Lib.idxOfS kdL x + 1 = kOf x := by
  unfold kOf
  have e : Lib.idxOfS opWl x = if (⟨#[]⟩ : ByteArray) = x then 0 else Lib.idxFromS kdL x 1 := rfl
  have h := idx_shift x kdL 0
  have e2 : Lib.idxOfS kdL x = Lib.idxFromS kdL x 0 := rfl
  by_cases hx : (⟨#[]⟩ : ByteArray) = x
  · subst hx
    decide
  · rw [e, if_neg hx]
    rw [Nat.zero_add] at h
    omega
def rX (x : ByteArray) : OpV := rV (kOf (hdW (wordsB 32 x))) (nD (wordsB 32 x) 1 4294967295) (nD (wordsB 32 x) 2 4294967295) (nD (wordsB 32 x) 2 256) (nD (wordsB 32 x) 2 1048576) (nD (wordsB 32 x) 3 1024) (dataR (hdW ((wordsB 32 x).drop 3)))
theorem rV_opValK (k : Int) (ws : List ByteArray) (h : 1 ≤ k) (h5 : k ≠ 5) (h9 : k ≤ 9) : rV k (nD ws 1 4294967295) (nD ws 2 4294967295) (nD ws 2 256) (nD ws 2 1048576) (nD ws 3 1024) (dataR (hdW (ws.drop 3))) = opValK k ws := by
  have h3 : k = 1 ∨ k = 2 ∨ k = 3 ∨ k = 4 ∨ k = 6 ∨ k = 7 ∨ k = 8 ∨ k = 9 := by omega
  rcases h3 with rfl | rfl | rfl | rfl | rfl | rfl | rfl | rfl <;> rfl
/-- The words of a write's text. -/
theorem words_5 (v t s a c : Int) (d : List UInt8) (x : ByteArray) (h : mayOpB 5 v t s a c d.length d = true) (hx : opTextL 5 v t s a c d = x.data.toList) :
    hdW ((wordsB 32 x).drop 3) = ⟨(dataL d).toArray⟩ ∧ 64 ≤ d.length ∧ d.length % 64 = 0 := by
  have E0 : mayOpB 5 v t s a c d.length d = (wVol v && wAt a && wData d.length && (t == 0) && (s == 0) && (c == 0)) := rfl
  rw [E0] at h
  simp only [Bool.and_eq_true, beq_iff_eq, wVol, wTo, wSize, wAt, wCount, wData, decide_eq_true_eq, bne_iff_ne] at h
  have hp : opPieces 5 v t s a c d = [⟨#[119, 114, 105, 116, 101]⟩, ⟨(Lib.decDigits v.toNat).toArray⟩, ⟨(Lib.itoa a).toArray⟩, ⟨(dataL d).toArray⟩] := rfl
  have hw : wordsB 32 x = [⟨#[119, 114, 105, 116, 101]⟩, ⟨(Lib.decDigits v.toNat).toArray⟩, ⟨(Lib.itoa a).toArray⟩, ⟨(dataL d).toArray⟩] := by
    have h1 : cutL 32 x.data.toList = ([⟨#[119, 114, 105, 116, 101]⟩, ⟨(Lib.decDigits v.toNat).toArray⟩, ⟨(Lib.itoa a).toArray⟩, ⟨(dataL d).toArray⟩] : List ByteArray).map (·.data.toList) := by
      rw [← hx, opTextL, hp]
      refine cutL_join 32 _ (by simp) (fun y hy => ?_)
      simp only [List.map_cons, List.map_nil, List.mem_cons, List.mem_nil_iff, or_false] at hy
      rcases hy with rfl | rfl | rfl | rfl
      · decide
      · exact dec_no32 _
      · exact itoa_no32 _ (by omega)
      · exact dataL_no _
    rw [wordsB, h1, List.map_map]
    simp [Function.comp_def]
  rw [hw]
  exact ⟨rfl, by omega, by omega⟩
theorem rX_good (x : ByteArray) (h : goodOp x = true) : rX x = opV x := by
  have h0 := h
  simp only [goodOp, Bool.and_eq_true, beq_iff_eq] at h
  obtain ⟨h1, h2, _, _⟩ := opRound _ x h.1 h.2
  obtain ⟨o, hO⟩ : ∃ o, opV x = o := ⟨_, rfl⟩
  obtain ⟨k, v, t, s, a, c, d⟩ := o
  rw [hO] at h h1 h2
  simp only [OpV.may, OpV.text] at h
  have hk := mayOpB_kind h.1 rfl
  simp only at h1 h2
  unfold rX
  rw [h1]
  by_cases h5 : k = 5
  · subst h5
    obtain ⟨w3, hl, hm⟩ := words_5 v t s a c d x h.1 h.2
    have e5 : opValK 5 (wordsB 32 x) = ⟨5, nD (wordsB 32 x) 1 4294967295, 0, 0, nD (wordsB 32 x) 2 1048576, 0, dD (wordsB 32 x) 3⟩ := rfl
    have f5 : rV 5 (nD (wordsB 32 x) 1 4294967295) (nD (wordsB 32 x) 2 4294967295) (nD (wordsB 32 x) 2 256) (nD (wordsB 32 x) 2 1048576) (nD (wordsB 32 x) 3 1024) (dataR (hdW ((wordsB 32 x).drop 3))) = ⟨5, nD (wordsB 32 x) 1 4294967295, 0, 0, nD (wordsB 32 x) 2 1048576, 0, dataR (hdW ((wordsB 32 x).drop 3))⟩ := rfl
    have hdd : dataR (hdW ((wordsB 32 x).drop 3)) = d := by
      rw [w3, dataR_ok d hl, List.take_of_length_le (by omega)]
    rw [f5, hdd, hO]
    rw [e5] at h2
    cases h2
    rfl
  · rw [rV_opValK k _ hk.1 h5 hk.2.1, h2, hO]
theorem rX_text (x : ByteArray) (h : (rX x).may = true) (hx : (rX x).text = x.data.toList) : goodOp x = true ∧ opV x = rX x := goodOp_text _ _ h hx
theorem goodOp_rX (x : ByteArray) : goodOp x = ((rX x).may && ((rX x).text == x.data.toList)) := by
  rcases Bool.eq_false_or_eq_true ((rX x).may && ((rX x).text == x.data.toList)) with h | h
  · have h1 := h
    simp only [Bool.and_eq_true, beq_iff_eq] at h1
    rw [h, (rX_text x h1.1 h1.2).1]
  · rw [h]
    cases hg : goodOp x with
    | false => rfl
    | true =>
      rw [rX_good x hg] at h
      have h0 := hg
      rw [goodOp] at h0
      rw [h0] at h
      cases h
theorem rX_bd (x : ByteArray) : Bd (rX x).v (rX x).t (rX x).s (rX x).a (rX x).c := by
  have h1 := nD_le (wordsB 32 x) 1 4294967295
  have h2 := nD_le (wordsB 32 x) 2 4294967295
  have h3 := nD_le (wordsB 32 x) 2 256
  have h4 := nD_le (wordsB 32 x) 2 1048576
  have h5 := nD_le (wordsB 32 x) 3 1024
  unfold rX rV
  repeat' split
  all_goals exact ⟨by simp only []; omega, by simp only []; omega, by simp only []; omega, by simp only []; omega, by simp only []; omega, by simp only []; omega, by simp only []; omega, by simp only []; omega, by simp only []; omega, by simp only []; omega⟩
theorem rX_d (x : ByteArray) (hw : ∀ y ∈ wordsB 32 x, y.size ≤ 200000) : (rX x).d.length ≤ 64000000 := by
  have h : (dataR (hdW ((wordsB 32 x).drop 3))).length ≤ 64000000 := by
    have h1 := hd_short hw 3
    have h2 := wordsB_le 44 (hdW ((wordsB 32 x).drop 3))
    rw [dataR, flatR_len]
    omega
  unfold rX rV
  repeat' split
  all_goals first | exact h | exact Nat.zero_le _
set_option maxHeartbeats 2000000 in
/-- The reference's text of an operation that may be. -/
theorem ropText_any (k v t s a c : Int) (A : Option Addr) (n q : Nat) (d : List UInt8) (w : World) [hk : Tb w] (hm : mayOpB k v t s a c n d = true) (hd : d.length = n) (hq : n ≤ q) (hr : Row bv w A d) :
    Calls Tryz.prog 17 #[.agg #[.int .i64 k, .int .u64 v, .int .u64 t, .int .i64 s, .int .i64 a, .int .i64 c, .slice A n q]] w fun e w' => e = .returned (.string ⟨(opTextL k v t s a c d).toArray⟩) ∧ Gr w w' := by
  subst hd
  have hkk := mayOpB_kind hm rfl
  have h3 : k = 1 ∨ k = 2 ∨ k = 3 ∨ k = 4 ∨ k = 5 ∨ k = 6 ∨ k = 7 ∨ k = 8 ∨ k = 9 := by omega
  rcases h3 with rfl | rfl | rfl | rfl | rfl | rfl | rfl | rfl | rfl
  · simp [mayOpB, wVol, wTo, wSize, wAt, wCount, wData] at hm
    obtain ⟨v, rfl⟩ := Int.eq_ofNat_of_zero_le (show 0 ≤ v by omega)
    obtain rfl : t = 0 := by omega
    obtain ⟨s, rfl⟩ := Int.eq_ofNat_of_zero_le (show 0 ≤ s by omega)
    obtain rfl : a = 0 := by omega
    obtain rfl : c = 0 := by omega
    obtain rfl : d = [] := by simp_all
    exact ropText_1 v s A q w (by omega) (by omega)
  · simp [mayOpB, wVol, wTo, wSize, wAt, wCount, wData] at hm
    obtain ⟨v, rfl⟩ := Int.eq_ofNat_of_zero_le (show 0 ≤ v by omega)
    obtain rfl : t = 0 := by omega
    obtain rfl : s = 0 := by omega
    obtain rfl : a = 0 := by omega
    obtain rfl : c = 0 := by omega
    obtain rfl : d = [] := by simp_all
    exact ropText_2 v A q w (by omega)
  · simp [mayOpB, wVol, wTo, wSize, wAt, wCount, wData] at hm
    obtain ⟨v, rfl⟩ := Int.eq_ofNat_of_zero_le (show 0 ≤ v by omega)
    obtain rfl : t = 0 := by omega
    obtain ⟨s, rfl⟩ := Int.eq_ofNat_of_zero_le (show 0 ≤ s by omega)
    obtain rfl : a = 0 := by omega
    obtain rfl : c = 0 := by omega
    obtain rfl : d = [] := by simp_all
    exact ropText_3 v s A q w (by omega) (by omega)
  · simp [mayOpB, wVol, wTo, wSize, wAt, wCount, wData] at hm
    obtain ⟨v, rfl⟩ := Int.eq_ofNat_of_zero_le (show 0 ≤ v by omega)
    obtain ⟨t, rfl⟩ := Int.eq_ofNat_of_zero_le (show 0 ≤ t by omega)
    obtain rfl : s = 0 := by omega
    obtain rfl : a = 0 := by omega
    obtain rfl : c = 0 := by omega
    obtain rfl : d = [] := by simp_all
    exact ropText_4 v t A q w (by omega) (by omega)
  · simp [mayOpB, wVol, wTo, wSize, wAt, wCount, wData] at hm
    obtain ⟨v, rfl⟩ := Int.eq_ofNat_of_zero_le (show 0 ≤ v by omega)
    obtain rfl : t = 0 := by omega
    obtain rfl : s = 0 := by omega
    obtain ⟨a, rfl⟩ := Int.eq_ofNat_of_zero_le (show 0 ≤ a by omega)
    obtain rfl : c = 0 := by omega
    exact ropText_5 v a A q d w (by omega) (by omega) (by omega) hq hr
  · simp [mayOpB, wVol, wTo, wSize, wAt, wCount, wData] at hm
    obtain ⟨v, rfl⟩ := Int.eq_ofNat_of_zero_le (show 0 ≤ v by omega)
    obtain rfl : t = 0 := by omega
    obtain rfl : s = 0 := by omega
    obtain ⟨a, rfl⟩ := Int.eq_ofNat_of_zero_le (show 0 ≤ a by omega)
    obtain ⟨c, rfl⟩ := Int.eq_ofNat_of_zero_le (show 0 ≤ c by omega)
    obtain rfl : d = [] := by simp_all
    exact ropText_6 v a c A q w (by omega) (by omega) (by omega)
  · simp [mayOpB, wVol, wTo, wSize, wAt, wCount, wData] at hm
    obtain ⟨v, rfl⟩ := Int.eq_ofNat_of_zero_le (show 0 ≤ v by omega)
    obtain rfl : t = 0 := by omega
    obtain rfl : s = 0 := by omega
    obtain ⟨a, rfl⟩ := Int.eq_ofNat_of_zero_le (show 0 ≤ a by omega)
    obtain ⟨c, rfl⟩ := Int.eq_ofNat_of_zero_le (show 0 ≤ c by omega)
    obtain rfl : d = [] := by simp_all
    exact ropText_7 v a c A q w (by omega) (by omega) (by omega)
  · simp [mayOpB, wVol, wTo, wSize, wAt, wCount, wData] at hm
    obtain rfl : v = 0 := by omega
    obtain rfl : t = 0 := by omega
    obtain rfl : s = 0 := by omega
    obtain rfl : a = 0 := by omega
    obtain rfl : c = 0 := by omega
    obtain rfl : d = [] := by simp_all
    exact ropText_8  A q w 
  · simp [mayOpB, wVol, wTo, wSize, wAt, wCount, wData] at hm
    obtain ⟨v, rfl⟩ := Int.eq_ofNat_of_zero_le (show 0 ≤ v by omega)
    obtain rfl : t = 0 := by omega
    obtain rfl : s = 0 := by omega
    obtain ⟨a, rfl⟩ := Int.eq_ofNat_of_zero_le (show 0 ≤ a by omega)
    obtain ⟨c, rfl⟩ := Int.eq_ofNat_of_zero_le (show 0 ≤ c by omega)
    obtain rfl : d = [] := by simp_all
    exact ropText_9 v a c A q w (by omega) (by omega) (by omega)
set_option maxRecDepth 100000 in
set_option maxHeartbeats 4000000 in
theorem ropOfX_any (x : ByteArray) (hx : x.size ≤ 200000) (w : World) [hk : Tb w] : Calls Tryz.prog 11 #[.string x] w fun e w' => ∃ dv, e = .returned (.tuple #[(opRes x).agg dv, .bool (goodOp x)]) ∧ OwnR bv 5 w.heap.size w' dv (opRes x).d ∧ Gr w w' := by
  have few : (wordsB 32 x).length ≤ 1000000 := by have := wordsB_le 32 x; omega
  have hw : ∀ y ∈ wordsB 32 x, y.size ≤ 200000 := fun y hy => Nat.le_trans (wordsB_each 32 x y hy) hx
  have RD : Rd (hdW ((wordsB 32 x).drop 1)) (hdW ((wordsB 32 x).drop 2)) (hdW ((wordsB 32 x).drop 3)) (nD (wordsB 32 x) 1 4294967295) (nD (wordsB 32 x) 2 4294967295) (nD (wordsB 32 x) 2 256) (nD (wordsB 32 x) 2 1048576) (nD (wordsB 32 x) 3 1024) (dataR (hdW ((wordsB 32 x).drop 3))) := by
    have s1 := hd_short hw 1
    have s2 := hd_short hw 2
    have s3 := hd_short hw 3
    exact ⟨⟨fun W => number26_any _ 4294967295 (by omega) (by omega) W⟩, ⟨fun W => number26_any _ 4294967295 (by omega) (by omega) W⟩, ⟨fun W => small26_any _ 256 (by omega) (by omega) W⟩, ⟨fun W => small26_any _ 1048576 (by omega) (by omega) W⟩, ⟨fun W => small26_any _ 1024 (by omega) (by omega) W⟩, ⟨fun W => rdata26_any _ s3 W⟩⟩
  have hkk := kd_kOf (hdW (wordsB 32 x))
  have hk9 := kOf_le (hdW (wordsB 32 x))
  obtain ⟨o, hO⟩ : ∃ o, rX x = o := ⟨_, rfl⟩
  obtain ⟨k, v, t, s, a, c, d⟩ := o
  have hgo : goodOp x = (mayOpB k v t s a c d.length d && (opTextL k v t s a c d == x.data.toList)) := by rw [goodOp_rX, hO]; rfl
  have hbd : Bd v t s a c := by have h := rX_bd x; rw [hO] at h; exact h
  have hdl : d.length ≤ 9223372036854775807 := by have h := rX_d x hw; rw [hO] at h; simp only at h; omega
  have HDL := Lib.hid hdl; clear hdl
  have v0 : 0 ≤ v := hbd.v0
  have t0 : 0 ≤ t := hbd.t0
  have HBD := Lib.hid hbd; clear hbd
  have HGO := Lib.hid hgo; clear hgo
  have hno : goodOp x = false → opRes x = zOp ∧ goodOp x = false := fun h => by simp [opRes, h]
  have hyes : goodOp x = true → opRes x = ⟨k, v, t, s, a, c, d⟩ ∧ goodOp x = true := fun h => ⟨by rw [opRes, if_pos h, ← rX_good x h, hO], h⟩
  have hO' : rV (kOf (hdW (wordsB 32 x))) (nD (wordsB 32 x) 1 4294967295) (nD (wordsB 32 x) 2 4294967295) (nD (wordsB 32 x) 2 256) (nD (wordsB 32 x) 2 1048576) (nD (wordsB 32 x) 3 1024) (dataR (hdW ((wordsB 32 x).drop 3))) = ⟨k, v, t, s, a, c, d⟩ := hO
  have HO := Lib.hid hO'; have HNO := Lib.hid hno; have HYES := Lib.hid hyes; have FEW := Lib.hid few; have HW := Lib.hid hw; have HRD := Lib.hid RD; have HKK := Lib.hid hkk; have HK9 := Lib.hid hk9; clear hO hO' hno hyes few hw RD hkk hk9
  have HWD := Lib.hid (fun V => (show Calls Tryz.prog 41 #[.string x, .int .u8 32] V (fun e w' => ∃ v, e = .returned v ∧ OwnS V.heap.size w' v (wordsB 32 x) ∧ Below V.heap.size V w') from words26_any x 32 (by omega) V))
  go_enter Tryz.func11, Tryz.ntmps11
  go_wp2_with ((go_at_call 41; ((with_reducible refine (HWD.out _).mono ?_))))
  rintro _ W1 ⟨w1, rfl, hown0, hbw0⟩
  have hown : OwnS (w.heap.size + 1) W1 w1 (wordsB 32 x) := by simpa using hown0
  have hbw1 : Below (w.heap.size + 1) (w.alloc (.cells #[.int .i64 0, .int .u64 0, .int .u64 0, .int .i64 0, .int .i64 0, .int .i64 0, .slice none 0 0] 26)) W1 := by simpa using hbw0
  have hsz : w.heap.size + 1 ≤ W1.heap.size := by simpa using hbw0.size
  clear hown0 hbw0
  go_wp2_with (at_builtin; refine wp_append_strs rfl _ _ rfl (w.heap.size + 1) w1 (wordsB 32 x) ?hs1 ?own1 _ (List.replicate 4 (⟨#[]⟩ : ByteArray)) 4 rfl rfl ?hc1 (by have := FEW.out; simp; omega) ?hb1 ?_)
  case hs1 => rfl
  case own1 => exact hown.alloc_ _
  case hc1 =>
    intro j y hj
    match j, hj with
    | 0, hj => simp at hj; subst hj; simp [go_sem]
    | 1, hj => simp at hj; subst hj; simp [go_sem]
    | 2, hj => simp at hj; subst hj; simp [go_sem]
    | 3, hj => simp at hj; subst hj; simp [go_sem]
  case hb1 => simp; omega
  intro w2 W2 a2
  have hb2 : Below w.heap.size w W2 := Below.trans (below_alloc (Below.refl _ _) (.cells #[.int .i64 0, .int .u64 0, .int .u64 0, .int .i64 0, .int .i64 0, .int .i64 0, .slice none 0 0] 26)) (((hbw1.alloc hsz _).trans a2.below).mono (by omega))
  have bR0 : BlockAt W1 w.heap.size #[.int .i64 0, .int .u64 0, .int .u64 0, .int .i64 0, .int .i64 0, .int .i64 0, .slice none 0 0] 26 := ⟨(hbw1.block w.heap.size (by omega)).trans (inferInstance : BlockAt (w.alloc (.cells #[.int .i64 0, .int .u64 0, .int .u64 0, .int .i64 0, .int .i64 0, .int .i64 0, .slice none 0 0] 26)) w.heap.size _ _).eq⟩
  have bR2 : BlockAt W2 w.heap.size #[.int .i64 0, .int .u64 0, .int .u64 0, .int .i64 0, .int .i64 0, .int .i64 0, .slice none 0 0] 26 := a2.keep _ _ _ inferInstance (by decide)
  obtain ⟨VA, vc, rfl, hvc, hrow⟩ := a2.own.form
  have hlen4 : 4 ≤ (wordsB 32 x ++ List.replicate 4 (⟨#[]⟩ : ByteArray)).length := by simp
  have hne4 : (wordsB 32 x ++ List.replicate 4 (⟨#[]⟩ : ByteArray)) ≠ [] := fun h => by rw [h] at hlen4; simp at hlen4
  obtain ⟨b, o, rfl, hb, hxx⟩ := hrow.at_ hne4
  clear hxx
  have q0 : W2.cell? ⟨b, o, none⟩ = some (.string (hdW (wordsB 32 x))) := row_cells hrow 0 _ (hd_at (wordsB 32 x) 4 0 (by omega))
  have q1 := row_cells hrow 1 _ (hd_at (wordsB 32 x) 4 1 (by omega))
  have q2 := row_cells hrow 2 _ (hd_at (wordsB 32 x) 4 2 (by omega))
  have q3 := row_cells hrow 3 _ (hd_at (wordsB 32 x) 4 3 (by omega))
  have Q0 := Lib.hid q0; have Q1 := Lib.hid q1; have Q2 := Lib.hid q2; have Q3 := Lib.hid q3
  have HB2 := Lib.hid hb2; have BR2 := Lib.hid bR2; have HL4 := Lib.hid hlen4
  haveI : Tb W2 := hk.keep hb2.size (fun j hj => hb2.block j (by have := hk.size; omega))
  clear a2 hown hbw1 hrow hne4 hb2 bR0 bR2 q0 q1 q2 q3 hlen4
  obtain ⟨n4, hn4⟩ : ∃ n, (wordsB 32 x ++ [(⟨#[]⟩ : ByteArray), ⟨#[]⟩, ⟨#[]⟩, ⟨#[]⟩]).length = n := ⟨_, rfl⟩
  rw [hn4]
  have hl4 : 4 ≤ n4 := by rw [← hn4]; simp
  clear hn4
  go_wp2_with ((go_at_call 40; ((with_reducible refine (ropOf_any b o n4 vc _ _ _ _ _ _ _ _ _ _ HRD.out W2 hl4 hb _ HKK.out HK9.out.1 HK9.out.2 Q0.out Q1.out Q2.out Q3.out).mono ?_))))
  rw [HO.out]
  rintro _ W3 ⟨dv, rfl, ho3, hb3⟩
  obtain ⟨Ad, cd, rfl, hcd, hrow⟩ := ho3.form
  simp only [OpV.agg]
  have hb1 : Below w.heap.size w W3 := HB2.out.trans (hb3.mono HB2.out.size)
  have bR3 : BlockAt W3 w.heap.size #[.int .i64 0, .int .u64 0, .int .u64 0, .int .i64 0, .int .i64 0, .int .i64 0, .slice none 0 0] 26 := BR2.out.gr (Gr.of hb3)
  have ho2 : OwnR bv 5 w.heap.size W3 (.slice Ad d.length cd) d := ho3.more HB2.out.size
  haveI : Tb W3 := hk.keep hb1.size (fun j hj => hb1.block j (by have := hk.size; omega))
  haveI : GrC w W3 := ⟨hb1⟩
  have hRs : w.heap.size < W3.heap.size := bR3.lt
  clear ho3 hb3
  have HO2 := Lib.hid ho2; clear ho2
  have HROW := Lib.hid hrow; clear hrow
  have HB1 := Lib.hid hb1; clear hb1
  haveI : BNe w.heap.size W3.heap.size := ⟨by omega⟩
  haveI : Old w.heap.size W3 := bR3.old
  have e3 : (w.heap.size = W3.heap.size) = False := by simp; omega
  have e4 : (W3.heap.size = w.heap.size) = False := by simp; omega
  have y0 : W3.cell? ⟨w.heap.size, 0, none⟩ = some (.int .i64 0) := (@block_cells _ _ 0 _ _ bR3).trans rfl
  have y1 : W3.cell? ⟨w.heap.size, 1, none⟩ = some (.int .u64 0) := (@block_cells _ _ 1 _ _ bR3).trans rfl
  have y2 : W3.cell? ⟨w.heap.size, 2, none⟩ = some (.int .u64 0) := (@block_cells _ _ 2 _ _ bR3).trans rfl
  have y3 : W3.cell? ⟨w.heap.size, 3, none⟩ = some (.int .i64 0) := (@block_cells _ _ 3 _ _ bR3).trans rfl
  have y4 : W3.cell? ⟨w.heap.size, 4, none⟩ = some (.int .i64 0) := (@block_cells _ _ 4 _ _ bR3).trans rfl
  have y5 : W3.cell? ⟨w.heap.size, 5, none⟩ = some (.int .i64 0) := (@block_cells _ _ 5 _ _ bR3).trans rfl
  have y6 : W3.cell? ⟨w.heap.size, 6, none⟩ = some (.slice none 0 0) := (@block_cells _ _ 6 _ _ bR3).trans rfl
  have z0 : W3.frozen? ⟨w.heap.size, 0, none⟩ = false := @block_frozen _ _ 0 _ _ bR3
  have z1 : W3.frozen? ⟨w.heap.size, 1, none⟩ = false := @block_frozen _ _ 1 _ _ bR3
  have z2 : W3.frozen? ⟨w.heap.size, 2, none⟩ = false := @block_frozen _ _ 2 _ _ bR3
  have z3 : W3.frozen? ⟨w.heap.size, 3, none⟩ = false := @block_frozen _ _ 3 _ _ bR3
  have z4 : W3.frozen? ⟨w.heap.size, 4, none⟩ = false := @block_frozen _ _ 4 _ _ bR3
  have z5 : W3.frozen? ⟨w.heap.size, 5, none⟩ = false := @block_frozen _ _ 5 _ _ bR3
  have z6 : W3.frozen? ⟨w.heap.size, 6, none⟩ = false := @block_frozen _ _ 6 _ _ bR3
  have HM := Lib.hid (fun W (hW : GrC W3 W) => may13_any k v t s a c Ad d.length cd d W rfl HDL.out v0 t0)
  rcases Bool.eq_false_or_eq_true (mayOpB k v t s a c d.length d) with hM | hM
  · have HT := Lib.hid (fun W (_ : Tb W) (hW : GrC W3 W) => ropText_any k v t s a c Ad d.length cd d W hM rfl hcd (HROW.out.gr (Gr.of hW.b)))
    rw [hM] at HM
    rcases Bool.eq_false_or_eq_true (opTextL k v t s a c d == x.data.toList) with hS | hS
    · have hg : goodOp x = true := by rw [HGO.out, hM, hS]; rfl
      have HG := Lib.hid (HYES.out hg); clear hg
      have hne : (opTextL k v t s a c d == x.toList) = true := by rw [Lib.toList_data]; exact hS
      clear hS hM
      go_wp2_with (first | (go_at_call 16; ((with_reducible refine (HM.out _ inferInstance).mono ?_); rintro _ _ ⟨rfl, g1, rfl⟩)) | (go_at_call 17; ((with_reducible refine (HT.out _ inferInstance inferInstance).mono ?_); rintro _ _ ⟨rfl, g2, rfl⟩)))
      exact bodyPost_ret (v := .tuple #[.agg #[.int .i64 k, .int .u64 v, .int .u64 t, .int .i64 s, .int .i64 a, .int .i64 c, .slice Ad d.length cd], .bool true]) (by simp [results, Tryz.results11, go_sem, e3, e4, y0, y1, y2, y3, y4, y5, y6, z0, z1, z2, z3, z4, z5, z6]) rfl ⟨.slice Ad d.length cd, by rw [HG.out.1, HG.out.2]; rfl, by rw [HG.out.1]; exact (by repeat (first | with_reducible exact HO2.out | with_reducible refine OwnR.alloc_ ?_ _ | with_reducible refine OwnR.grown_ ?_ _ | with_reducible refine OwnR.set_ ?_ _ _ _ (by decide))), Gr.of (by repeat (first | with_reducible exact HB1.out | with_reducible apply below_alloc | with_reducible refine below_set_le ?_ (by omega) _ | with_reducible refine below_trans ?_ (grown_below _ _)))⟩
    · have hg : goodOp x = false := by rw [HGO.out, hM, hS]; rfl
      have HG := Lib.hid (HNO.out hg); clear hg
      have hne : (opTextL k v t s a c d == x.toList) = false := by rw [Lib.toList_data]; exact hS
      clear hS hM
      go_wp2_with (first | (go_at_call 16; ((with_reducible refine (HM.out _ inferInstance).mono ?_); rintro _ _ ⟨rfl, g1, rfl⟩)) | (go_at_call 17; ((with_reducible refine (HT.out _ inferInstance inferInstance).mono ?_); rintro _ _ ⟨rfl, g2, rfl⟩)))
      exact bodyPost_ret (v := .tuple #[.agg #[.int .i64 0, .int .u64 0, .int .u64 0, .int .i64 0, .int .i64 0, .int .i64 0, .slice none 0 0], .bool false]) (by simp [results, Tryz.results11, go_sem, e3, e4, y0, y1, y2, y3, y4, y5, y6, z0, z1, z2, z3, z4, z5, z6]) rfl ⟨.slice none 0 0, by rw [HG.out.1, HG.out.2]; rfl, by rw [HG.out.1]; exact OwnR.nil _ _, Gr.of (by repeat (first | with_reducible exact HB1.out | with_reducible apply below_alloc | with_reducible refine below_set_le ?_ (by omega) _ | with_reducible refine below_trans ?_ (grown_below _ _)))⟩
  · rw [hM] at HM
    have hg : goodOp x = false := by rw [HGO.out, hM]; rfl
    have HG := Lib.hid (HNO.out hg); clear hg hM
    go_wp2_with ((go_at_call 16; ((with_reducible refine (HM.out _ inferInstance).mono ?_); rintro _ _ ⟨rfl, g1, rfl⟩)))
    exact bodyPost_ret (v := .tuple #[.agg #[.int .i64 0, .int .u64 0, .int .u64 0, .int .i64 0, .int .i64 0, .int .i64 0, .slice none 0 0], .bool false]) (by simp [results, Tryz.results11, go_sem, e3, e4, y0, y1, y2, y3, y4, y5, y6, z0, z1, z2, z3, z4, z5, z6]) rfl ⟨.slice none 0 0, by rw [HG.out.1, HG.out.2]; rfl, by rw [HG.out.1]; exact OwnR.nil _ _, Gr.of (by repeat (first | with_reducible exact HB1.out | with_reducible apply below_alloc | with_reducible refine below_set_le ?_ (by omega) _ | with_reducible refine below_trans ?_ (grown_below _ _)))⟩
end Go.Proofs.YtgjdgafoidppaaaGreatDoor
namespace Go.Proofs.YtgjdgafoidppaaaGreatDoor
open Go.RowKit
set_option linter.unusedVariables false
set_option linter.unusedSimpArgs false
set_option linter.unnecessarySimpa false
theorem strOf_bytes (l : List UInt8) : strOfNums (l.map fun b => ((b.toNat : Nat) : Int)) = ⟨l.toArray⟩ := by
  unfold strOfNums
  congr 2
  rw [List.map_map]
  conv => rhs; rw [← List.map_id l]
  refine List.map_congr_left (fun b _ => ?_)
  show UInt8.ofNat b.toNat = b
  simp
theorem conv_row (A : Option Addr) (n q : Nat) (l : List UInt8) (W : World) (hl : l.length = n) (hr : Row bv W A l) : (convert 24 9 (.slice A n q)).run Tryz.prog W = .ok (.string ⟨l.toArray⟩) W := by
  by_cases h0 : l = []
  · subst h0
    obtain rfl : n = 0 := by simpa using hl.symm
    cases A with
    | none => exact run_convert_bytes_nil W 24 5 Tryz.underlying24 Tryz.underlying5 0 q 9 Tryz.underlying9
    | some a =>
      rw [run_convert_bytes_string W 24 9 5 (some a) 0 q Tryz.underlying24 Tryz.underlying5 Tryz.underlying9]
      rw [run_bytesToString W a 0 q [] (by simpa using run_loadCells_list (P := Tryz.prog) W a [] (fun j v hj => by simp at hj))]
      rfl
  · obtain ⟨b, o, rfl, hb, hc⟩ := hr.at_ h0
    rw [run_convert_bytes_arg W 24 5 Tryz.underlying24 Tryz.underlying5 b o n q (l.map fun b => ((b.toNat : Nat) : Int)) (by simpa using hl) (fun i hi => ?_) 9 Tryz.underlying9, strOf_bytes]
    have hil : i < l.length := by omega
    rw [hc i l[i] (List.getElem?_eq_getElem hil)]
    simp [bv, List.getD, List.getElem?_map, List.getElem?_eq_getElem hil]
set_option maxHeartbeats 2000000 in
theorem same13r_any (xk xv xt xs xa xc yk yv yt ys ya yc : Int) (xD yD : Option Addr) (xn xq yn yq : Nat) (lx ly : List UInt8) (w : World) (hx : lx.length = xn) (hy : ly.length = yn) (h1 : Row bv w xD lx) (h2 : Row bv w yD ly) :
    Calls Tryz.prog 12 #[(Value.agg #[.int .i64 xk, .int .u64 xv, .int .u64 xt, .int .i64 xs, .int .i64 xa, .int .i64 xc, .slice xD xn xq]), (Value.agg #[.int .i64 yk, .int .u64 yv, .int .u64 yt, .int .i64 ys, .int .i64 ya, .int .i64 yc, .slice yD yn yq])] w fun e w' => e = .returned (.bool (sameB xk xv xt xs xa xc yk yv yt ys ya yc lx ly)) ∧ Gr w w' := by
  have CV1 : ∀ (W : World) [GrC w W], (convert 24 9 (.slice xD xn xq)).run Tryz.prog W = .ok (.string ⟨lx.toArray⟩) W := fun W hW => conv_row _ _ _ _ _ hx (h1.gr (Gr.of hW.b))
  have CV2 : ∀ (W : World) [GrC w W], (convert 24 9 (.slice yD yn yq)).run Tryz.prog W = .ok (.string ⟨ly.toArray⟩) W := fun W hW => conv_row _ _ _ _ _ hy (h2.gr (Gr.of hW.b))
  clear hx hy h1 h2
  rcases Bool.eq_false_or_eq_true (xk == yk) with k1 | k1
  rotate_left
  · go_enter Tryz.func12, Tryz.ntmps12
    go_wp2
    go_ret
    exact ⟨ret_bool (by simp [sameB, k1]), gri⟩
  rcases Bool.eq_false_or_eq_true (xv == yv) with k2 | k2
  rotate_left
  · go_enter Tryz.func12, Tryz.ntmps12
    go_wp2
    go_ret
    exact ⟨ret_bool (by simp [sameB, k2]), gri⟩
  rcases Bool.eq_false_or_eq_true (xt == yt) with k3 | k3
  rotate_left
  · go_enter Tryz.func12, Tryz.ntmps12
    go_wp2
    go_ret
    exact ⟨ret_bool (by simp [sameB, k3]), gri⟩
  rcases Bool.eq_false_or_eq_true (xs == ys) with k4 | k4
  rotate_left
  · go_enter Tryz.func12, Tryz.ntmps12
    go_wp2
    go_ret
    exact ⟨ret_bool (by simp [sameB, k4]), gri⟩
  rcases Bool.eq_false_or_eq_true (xa == ya) with k5 | k5
  rotate_left
  · go_enter Tryz.func12, Tryz.ntmps12
    go_wp2
    go_ret
    exact ⟨ret_bool (by simp [sameB, k5]), gri⟩
  rcases Bool.eq_false_or_eq_true (xc == yc) with k6 | k6
  rotate_left
  · go_enter Tryz.func12, Tryz.ntmps12
    go_wp2
    go_ret
    exact ⟨ret_bool (by simp [sameB, k6]), gri⟩
  rcases Bool.eq_false_or_eq_true (lx == ly) with k7 | k7
  · go_enter Tryz.func12, Tryz.ntmps12
    go_wp2
    go_ret
    exact ⟨ret_bool (by simp [sameB, k1, k2, k3, k4, k5, k6, k7]), gri⟩
  · go_enter Tryz.func12, Tryz.ntmps12
    go_wp2
    go_ret
    exact ⟨ret_bool (by simp [sameB, k1, k2, k3, k4, k5, k6, k7]), gri⟩
end Go.Proofs.YtgjdgafoidppaaaGreatDoor
namespace Go.Proofs.YtgjdgafoidppaaaGreatDoor
open Go.RowKit
set_option linter.unusedVariables false
set_option linter.unusedSimpArgs false
set_option linter.unnecessarySimpa false
theorem num26_any (n : Int) (w : World) : Calls Tryz.prog 13 #[.int .i64 n] w fun e w' => e = .returned (.int .i64 n) ∧ w = w' := by
  go_enter Tryz.func13, Tryz.ntmps13
  go_wp2
  go_ret
  exact ⟨rfl, rfl⟩
theorem dec_small (u : Nat) (h : u < 10) : Lib.decDigits u = [UInt8.ofNat (48 + u)] := by rw [Lib.decDigits, dif_pos h]
theorem itoa_small (u : Nat) (h : u < 10) : Lib.itoa (u : Int) = [UInt8.ofNat (48 + u)] := by rw [Lib.itoa_nonneg, dec_small u h]
theorem known_text1 : actTextL 4 1 0 0 0 0 0 0 0 false [] [0, 2] = [111, 102, 102, 32, 49, 32, 48, 44, 50] := by
  have e0 : Lib.itoa 0 = [48] := itoa_small 0 (by omega)
  have e1 : Lib.itoa 1 = [49] := itoa_small 1 (by omega)
  have e2 : Lib.itoa 2 = [50] := itoa_small 2 (by omega)
  simp [actTextL, actPieces, rowL, pickT, e0, e1, e2, Lib.join, List.intercalate]
def blk7 : List UInt8 := 7 :: List.replicate 127 0
theorem known_data : dataL blk7 = [48, 55, 44, 45] := by decide +kernel
theorem known_text2 : actTextL 1 0 0 5 3 0 0 5 0 false blk7 [] = [97, 115, 107, 32, 48, 32, 119, 114, 105, 116, 101, 32, 51, 32, 53, 32, 48, 55, 44, 45] := by
  have e0 : Lib.itoa 0 = [48] := itoa_small 0 (by omega)
  have e5 : Lib.itoa 5 = [53] := itoa_small 5 (by omega)
  have e3 : Lib.decDigits 3 = [51] := dec_small 3 (by omega)
  simp [actTextL, actPieces, opTextL, opPieces, known_data, e0, e3, e5, Lib.join, List.intercalate]
theorem known_may1 : mayActB 4 1 0 0 0 0 0 0 0 false 0 2 [] [0, 2] = true := by decide
theorem known_may2 : mayActB 1 0 0 5 3 0 0 5 0 false 128 0 blk7 [] = true := by decide +kernel
theorem bd0 : Bd 0 0 0 0 0 := ⟨by omega, by omega, by omega, by omega, by omega, by omega, by omega, by omega, by omega, by omega⟩
theorem bd1 : Bd 3 0 0 5 0 := ⟨by omega, by omega, by omega, by omega, by omega, by omega, by omega, by omega, by omega, by omega⟩
theorem known_call1 (b : Nat) (W : World) [hk : Tb W] (hb : b < W.heap.size) (c0 : W.cell? ⟨b, 0, none⟩ = some (.int .i64 0)) (c1 : W.cell? ⟨b, 1, none⟩ = some (.int .i64 2)) :
    Calls Tryz.prog 15 #[(Value.agg #[.int .i64 4, .int .i64 1, .int .i64 0, .int .i64 0, .int .u64 0, .int .u64 0, .int .i64 0, .int .i64 0, .int .i64 0, .slice none 0 0, .bool false, .slice (some ⟨b, 0, none⟩) 2 2])] W fun e w' => e = .returned (.tuple #[.string ⟨#[111, 102, 102, 32, 49, 32, 48, 44, 50]⟩, .int .i64 0]) ∧ Gr W w' := by
  have h := ActText_any 4 1 0 0 0 0 0 0 0 none (some ⟨b, 0, none⟩) 0 0 2 2 false [] [0, 2] W (by omega) (by omega) (by omega) (by omega) bd0 rfl (by omega) Row.nil rfl (by omega) ⟨by intro n hn; simp at hn; omega, by intro n hn; simp at hn; omega⟩ ⟨fun _ => ⟨b, 0, rfl, hb, fun j x hx => by
    match j, hx with
    | 0, hx => simp at hx; subst hx; exact c0
    | 1, hx => simp at hx; subst hx; exact c1⟩⟩ (by omega) (by omega)
  rw [known_may1, known_text1] at h
  exact h
theorem known_call2 (b : Nat) (W : World) [hk : Tb W] (hr : Row bv W (some ⟨b, 0, none⟩) blk7) :
    Calls Tryz.prog 15 #[(Value.agg #[.int .i64 1, .int .i64 0, .int .i64 0, .int .i64 5, .int .u64 3, .int .u64 0, .int .i64 0, .int .i64 5, .int .i64 0, .slice (some ⟨b, 0, none⟩) 128 128, .bool false, .slice none 0 0])] W fun e w' => e = .returned (.tuple #[.string ⟨#[97, 115, 107, 32, 48, 32, 119, 114, 105, 116, 101, 32, 51, 32, 53, 32, 48, 55, 44, 45]⟩, .int .i64 0]) ∧ Gr W w' := by
  have h := ActText_any 1 0 0 5 3 0 0 5 0 (some ⟨b, 0, none⟩) none 128 128 0 0 false blk7 [] W (by omega) (by omega) (by omega) (by omega) bd1 rfl (by omega) hr rfl (by omega) ⟨by intro n hn; simp at hn, by intro n hn; simp at hn⟩ Row.nil (by omega) (by omega)
  rw [known_may2, known_text2] at h
  exact h
def zeros128 : Array Value := Array.replicate 128 (.int .u8 0)
theorem make128 (W : World) : (Instr.makeSlice 24 (.int .i64 128) (.int .i64 128)).run Tryz.prog W = .ok (.slice (some ⟨W.heap.size, 0, none⟩) 128 128) (W.alloc (.cells zeros128 5)) := by kernel_rfl
theorem zeros128_at (j : Nat) (h : j < 128) : zeros128[j]? = some (.int .u8 0) := by
  unfold zeros128; rw [Array.getElem?_replicate, if_pos h]
theorem blk7_at (j : Nat) (x : UInt8) (h : blk7[j]? = some x) : j < 128 ∧ (j = 0 ∧ x = 7 ∨ j ≠ 0 ∧ x = 0) := by
  have hl : j < 128 := by
    have := (List.getElem?_eq_some_iff.1 h).1
    simpa [blk7] using this
  refine ⟨hl, ?_⟩
  cases j with
  | zero => left; simp [blk7] at h; exact ⟨rfl, h.symm⟩
  | succ j =>
    right
    have h2 : j < 127 := by omega
    have h3 : (List.replicate 127 (0 : UInt8))[j]? = some x := h
    rw [List.getElem?_replicate, if_pos h2] at h3
    exact ⟨by omega, (Option.some.inj h3).symm⟩
set_option maxRecDepth 100000 in
set_option maxHeartbeats 2000000 in
theorem known26_any (w : World) [hk : Tb w] : Calls Tryz.prog 9 #[] w fun e w' => e = .returned (.bool true) ∧ Gr w w' := by
  have C1 := Lib.hid (fun b W (_ : Tb W) hb c0 c1 => known_call1 b W hb c0 c1)
  have C2 := Lib.hid (fun b W (_ : Tb W) hr => known_call2 b W hr)
  go_enter Tryz.func9, Tryz.ntmps9
  go_wp2_with (go_at_call 15; ((with_reducible refine (C1.out w.heap.size _ inferInstance ?h1 ?h2 ?h3).mono ?_)))
  case h1 => exact (inferInstance : Old _ _).lt
  case h2 => simp [go_sem]
  case h3 => simp [go_sem]
  rintro _ _ ⟨rfl, g, rfl⟩
  clear C1
  have hmk := fun W => make128 W
  have z0 : ∀ W : World, (W.alloc (.cells zeros128 5)).cell? ⟨W.heap.size, 0, none⟩ = some (.int .u8 0) := fun W => by rw [World.cell?_alloc_new]; exact zeros128_at 0 (by omega)
  go_wp2_with (go_at_call 15; ((with_reducible refine (C2.out _ _ inferInstance ?h4).mono ?_)))
  case h4 =>
    refine ⟨fun _ => ⟨_, 0, rfl, (inferInstance : Old _ _).lt, fun j x hx => ?_⟩⟩
    obtain ⟨hj, h5⟩ := blk7_at j x hx
    have hs : zeros128.size = 128 := by unfold zeros128; simp
    rw [Nat.zero_add, World.cell?_alloc_new, Array.getElem?_setIfInBounds]
    rcases h5 with ⟨rfl, rfl⟩ | ⟨h6, rfl⟩
    · simp [hs]; rfl
    · rw [if_neg (fun e => h6 e.symm)]
      exact zeros128_at j hj
  rintro _ _ ⟨rfl, g2, rfl⟩
  go_wp2_with (go_at_call 13; ((with_reducible refine (num26_any _ _).mono ?_); rintro _ _ ⟨rfl, rfl⟩))
  go_ret
  exact ⟨rfl, gri⟩
end Go.Proofs.YtgjdgafoidppaaaGreatDoor
namespace Go.Proofs.YtgjdgafoidppaaaGreatDoor
open Go.RowKit Go.ChangeShapes Go.WideShapes
set_option linter.unusedVariables false
set_option linter.unusedSimpArgs false
set_option linter.unnecessarySimpa false
/-- An operation that came in. -/
structure Came (W : World) (k v t s a c : Int) (D : Option Addr) (n q : Nat) (l : List UInt8) : Prop where
  b : Bd v t s a c
  len : l.length = n
  cap : n ≤ q
  big : n ≤ 9223372036854775807
  row : Row bv W D l
theorem has_i64 {n : Int} (h : IntKind.i64.has n) : -9223372036854775808 ≤ n ∧ n ≤ 9223372036854775807 := by
  simp [IntKind.has, IntKind.min, IntKind.max, IntKind.bits, IntKind.signed] at h; omega
theorem has_u64 {n : Int} (h : IntKind.u64.has n) : 0 ≤ n ∧ n ≤ 18446744073709551615 := by
  simp [IntKind.has, IntKind.min, IntKind.max, IntKind.bits, IntKind.signed] at h; omega
section
variable {H : Type} {enc : TypeId × Value → H}
set_option maxRecDepth 100000 in
/-- A slice of numbers. -/
theorem open_nums {α : Type} {W : World} {fuel : Nat} {t e : TypeId} {k : IntKind} (en : α → Value) (f : Int → α) (ht : Tryz.prog.underlying t = some (.slice e)) (he : Tryz.prog.underlying e = some (.int k)) (hc1 : Tryz.prog.cellsOf e = 1) (hf : ∀ z, (Lit.int k z).wf = true → en (f z) = .int k z) {c : Value} {x : DataW H × List MemPlace}
    (h : DataW.trod enc Tryz.prog W 0 (fun _ => true) true fuel t [c] = some x) : ∃ (D : Option Addr) (q : Nat) (l : List α) (zs : List Int), c = .slice D l.length q ∧ l.length ≤ q ∧ q ≤ maxLen ∧ Row en W D l ∧ l = zs.map f ∧ ∀ z ∈ zs, (Lit.int k z).wf = true := by
  rcases open_ints ht he hc1 h with ⟨h0, _⟩ | ⟨a, len, cap, zs, h0, _, hl, hm, hz, _, hcell, hw⟩
  · obtain rfl : c = .slice none 0 0 := by simpa using h0
    exact ⟨none, 0, [], [], rfl, Nat.le_refl _, Nat.zero_le _, Row.nil, rfl, fun z hz => by simp at hz⟩
  · obtain rfl : c = .slice (some a) len cap := by simpa using h0
    rw [if_pos rfl] at hz
    have hlen : ((zs.take len).map f).length = len := by rw [List.length_map, List.length_take]; omega
    refine ⟨some a, cap, (zs.take len).map f, zs.take len, by rw [hlen], by rw [hlen]; exact hl, hm, ⟨fun hne => ?_⟩, rfl, fun z hz => hw z (List.mem_of_mem_take hz)⟩
    have hpos : 0 < len := by
      rcases Nat.eq_zero_or_pos len with h | h
      · subst h; simp at hne
      · exact h
    obtain ⟨b, o, sp⟩ := a
    have h1 := hcell 0 (by omega)
    have hsp : sp = none := by
      cases sp with
      | none => rfl
      | some y => simp [Addr.add, World.cell?] at h1; split at h1 <;> simp at h1
    subst hsp
    have hadd : ∀ i, (⟨b, o, none⟩ : Addr).add i = ⟨b, o + i, none⟩ := fun i => by unfold Addr.add; split <;> simp_all
    refine ⟨b, o, rfl, ?_, fun j y hj => ?_⟩
    · rcases Nat.lt_or_ge b W.heap.size with h | h
      · exact h
      · rw [hadd] at h1
        simp [World.cell?, Array.getElem?_eq_none h] at h1
    · rw [List.getElem?_map] at hj
      have hjl : j < len := by
        rcases Nat.lt_or_ge j len with h | h
        · exact h
        · rw [List.getElem?_eq_none (by rw [List.length_take]; omega)] at hj; simp at hj
      rw [List.getElem?_take, if_pos hjl, List.getElem?_eq_getElem (by omega)] at hj
      simp only [Option.map_some, Option.some.injEq] at hj
      subst hj
      have h2 := hcell j (by omega)
      rw [hadd] at h2
      rw [h2, List.getD_eq_getElem?_getD, List.getElem?_eq_getElem (by omega)]
      simp only [Option.getD_some]
      rw [hf _ (hw _ (List.getElem_mem _))]
theorem u8_of {z : Int} (h : (Lit.int .u8 z).wf = true) : bv (UInt8.ofNat z.toNat) = .int .u8 z := by
  simp [Lit.wf, IntKind.min, IntKind.max, IntKind.bits, IntKind.signed] at h
  unfold bv
  have e : (UInt8.ofNat z.toNat).toNat = z.toNat := by rw [UInt8.toNat_ofNat', Nat.mod_eq_of_lt (by omega)]
  rw [e, Int.toNat_of_nonneg (by omega)]
set_option maxRecDepth 100000 in
theorem open_op_cells {W : World} {base : Nat} {cs : List Value} {fuel : Nat} {x : DataW H × List MemPlace} (hl : cs.length = 7) (hc : ∀ (i : Nat) c u, cs[i]? = some c → ([22, 23, 23, 3, 3, 3, 24] : List TypeId)[i]? = some u → Cell.okWide Tryz.prog W .any base u c)
    (h : DataW.trod enc Tryz.prog W 0 (fun _ => true) true fuel 26 cs = some x) :
    ∃ k v t s a c D n q l, cs = [.int .i64 k, .int .u64 v, .int .u64 t, .int .i64 s, .int .i64 a, .int .i64 c, .slice D n q] ∧ Came W k v t s a c D n q l := by
  match cs, hl with
  | [c0, c1, c2, c3, c4, c5, c6], _ =>
    obtain ⟨k, rfl, _⟩ := cell_int Tryz.underlying22 (hc 0 c0 _ rfl rfl)
    obtain ⟨v, rfl, hv⟩ := cell_int Tryz.underlying23 (hc 1 c1 _ rfl rfl)
    obtain ⟨t, rfl, ht⟩ := cell_int Tryz.underlying23 (hc 2 c2 _ rfl rfl)
    obtain ⟨s, rfl, hs⟩ := cell_int Tryz.underlying3 (hc 3 c3 _ rfl rfl)
    obtain ⟨a, rfl, ha⟩ := cell_int Tryz.underlying3 (hc 4 c4 _ rfl rfl)
    obtain ⟨c, rfl, hcc⟩ := cell_int Tryz.underlying3 (hc 5 c5 _ rfl rfl)
    obtain ⟨xs, n0, _, _, _, hlen, hf⟩ := DataW.trod_struct Tryz.underlying26 h
    obtain ⟨y6, hy⟩ : ∃ y, xs[6]? = some y := ⟨xs[6]'(by rw [hlen]; decide), List.getElem?_eq_getElem _⟩
    have h6 := hf 6 _ rfl
    rw [hy] at h6
    obtain ⟨D, q, l, zs, rfl, hq, hm, hr, _, _⟩ := open_nums bv (fun z => UInt8.ofNat z.toNat) Tryz.underlying24 Tryz.underlying5 (by kernel_rfl) (fun z hz => u8_of hz) (c := c6) h6
    have := has_u64 hv; have := has_u64 ht; have := has_i64 hs; have := has_i64 ha; have := has_i64 hcc
    unfold maxLen at hm
    exact ⟨k, v, t, s, a, c, D, l.length, q, l, rfl, ⟨⟨by omega, by omega, by omega, by omega, by omega, by omega, by omega, by omega, by omega, by omega⟩, rfl, hq, by omega, hr⟩⟩
set_option maxRecDepth 100000 in
theorem open_op {W : World} {base : Nat} {v : Value} {d : DataW H} {p : List MemPlace} (hv : Value.okWide Tryz.prog W .any base 26 v) (h : DataW.Trod enc Tryz.prog W 0 (fun _ => true) true 26 v d p) :
    ∃ k u t s a c D n q l, v = .agg #[.int .i64 k, .int .u64 u, .int .u64 t, .int .i64 s, .int .i64 a, .int .i64 c, .slice D n q] ∧ Came W k u t s a c D n q l := by
  obtain ⟨cs, rfl, hl, hc⟩ := open_cells [22, 23, 23, 3, 3, 3, 24] Tryz.underlying26 (by kernel_rfl) (by kernel_rfl) hv
  obtain ⟨fuel, hd⟩ := h
  obtain ⟨k, u, t, s, a, c, D, n, q, l, rfl, hC⟩ := open_op_cells (cs := cs) hl hc (by simpa [Value.cells] using hd)
  exact ⟨k, u, t, s, a, c, D, n, q, l, rfl, hC⟩
set_option maxRecDepth 100000 in
theorem open_int' {W : World} {base : Nat} {v : Value} (hv : Value.okWide Tryz.prog W .any base 3 v) : ∃ n : Int, v = .int .i64 n ∧ -9223372036854775808 ≤ n ∧ n ≤ 9223372036854775807 := by
  simp only [Value.okWide, Tryz.underlying3] at hv
  obtain ⟨n, rfl, hn⟩ := cell_int Tryz.underlying3 hv
  exact ⟨n, rfl, (has_i64 hn).1, (has_i64 hn).2⟩
end
end Go.Proofs.YtgjdgafoidppaaaGreatDoor
namespace Go.Proofs.YtgjdgafoidppaaaGreatDoor
open Go.RowKit
set_option linter.unusedVariables false
set_option linter.unusedSimpArgs false
set_option linter.unnecessarySimpa false
theorem opOf_row (x : ByteArray) (hx : x.size ≤ 200000) (k v t s a c : Int) (d : List UInt8) (hO : opRes x = ⟨k, v, t, s, a, c, d⟩) (E : Int) (hE : opE x = E) (w : World) [hk : Tb w] [hm : Ml w] :
    Calls Tryz.prog 10 #[.string x] w fun e w' => ∃ A q, e = .returned (.tuple #[.agg #[.int .i64 k, .int .u64 v, .int .u64 t, .int .i64 s, .int .i64 a, .int .i64 c, .slice A d.length q], .int .i64 E]) ∧ d.length ≤ q ∧ Row bv w' A d ∧ Gr w w' := by
  refine (opOf_any x hx w).mono ?_
  rintro e w' ⟨dv, rfl, ho, hg⟩
  rw [hO] at ho ⊢
  obtain ⟨A, q, rfl, hq, hr⟩ := ho.form
  exact ⟨A, q, by rw [hE]; rfl, hq, hr, hg⟩
theorem ropOf_row (x : ByteArray) (hx : x.size ≤ 200000) (k v t s a c : Int) (d : List UInt8) (hO : opRes x = ⟨k, v, t, s, a, c, d⟩) (G : Bool) (hG : goodOp x = G) (w : World) [hk : Tb w] :
    Calls Tryz.prog 11 #[.string x] w fun e w' => ∃ A q, e = .returned (.tuple #[.agg #[.int .i64 k, .int .u64 v, .int .u64 t, .int .i64 s, .int .i64 a, .int .i64 c, .slice A d.length q], .bool G]) ∧ d.length ≤ q ∧ Row bv w' A d ∧ Gr w w' := by
  refine (ropOfX_any x hx w).mono ?_
  rintro e w' ⟨dv, rfl, ho, hg⟩
  rw [hO] at ho ⊢
  obtain ⟨A, q, rfl, hq, hr⟩ := ho.form
  exact ⟨A, q, by rw [hG]; rfl, hq, hr, hg⟩
theorem same13r_refl (xk xv xt xs xa xc : Int) (xD yD : Option Addr) (xn xq yn yq : Nat) (l : List UInt8) (w : World) (hx : l.length = xn) (hy : l.length = yn) (h1 : Row bv w xD l) (h2 : Row bv w yD l) :
    Calls Tryz.prog 12 #[(Value.agg #[.int .i64 xk, .int .u64 xv, .int .u64 xt, .int .i64 xs, .int .i64 xa, .int .i64 xc, .slice xD xn xq]), (Value.agg #[.int .i64 xk, .int .u64 xv, .int .u64 xt, .int .i64 xs, .int .i64 xa, .int .i64 xc, .slice yD yn yq])] w fun e w' => e = .returned (.bool true) ∧ Gr w w' := by
  have h := same13r_any xk xv xt xs xa xc xk xv xt xs xa xc xD yD xn xq yn yq l l w hx hy h1 h2
  rw [sameB_refl] at h
  exact h
set_option maxHeartbeats 2000000 in
theorem OpText_yes (k v t s a c : Int) (D : Option Addr) (n q : Nat) (l : List UInt8) (w : World) [hk : Tb w] (B : Bd v t s a c) (hl : l.length = n) (hq : n ≤ q) (hr : Row bv w D l) (hM : mayOpB k v t s a c n l = true) :
    Calls Tryz.prog 14 #[.agg #[.int .i64 k, .int .u64 v, .int .u64 t, .int .i64 s, .int .i64 a, .int .i64 c, .slice D n q]] w fun e w' => e = .returned (.tuple #[.string ⟨(opTextL k v t s a c l).toArray⟩, .int .i64 0]) ∧ Gr w w' := by
  have hk9 := mayOpB_kind hM hl
  have HM := Lib.hid (fun W (g1 : Row bv W D l) => mayOp_any k v t s a c D n q l W hl (by omega) g1)
  rw [hM] at HM
  have HT := Lib.hid (fun W (_ : Tb W) (g1 : Row bv W D l) => opText_any k v t s a c D n q l W hk9.1 hk9.2.1 B hl hq (by omega) g1)
  have HR := Lib.hid hr
  clear hr hM hk9 hl
  go_enter Tryz.func14, Tryz.ntmps14
  go_wp2_with (first | (go_at_call 38; ((with_reducible refine (HM.out _ (HR.out.gr (gri))).mono ?_); rintro _ _ ⟨rfl, g, rfl⟩)) | (go_at_call 39; ((with_reducible refine (HT.out _ inferInstance (HR.out.gr (gri))).mono ?_); rintro _ _ ⟨rfl, g, rfl⟩)))
  go_ret2
  exact ⟨rfl, gri⟩
set_option maxHeartbeats 2000000 in
theorem OpText_no (k v t s a c : Int) (D : Option Addr) (n q : Nat) (l : List UInt8) (w : World) (hl : l.length = n) (hn : n ≤ 9223372036854775807) (hr : Row bv w D l) (hM : mayOpB k v t s a c n l = false) :
    Calls Tryz.prog 14 #[.agg #[.int .i64 k, .int .u64 v, .int .u64 t, .int .i64 s, .int .i64 a, .int .i64 c, .slice D n q]] w fun e w' => e = .returned (.tuple #[.string ⟨#[]⟩, .int .i64 2]) ∧ Gr w w' := by
  have HM := Lib.hid (fun W (g1 : Row bv W D l) => mayOp_any k v t s a c D n q l W hl hn g1)
  rw [hM] at HM
  have HR := Lib.hid hr
  clear hr hM hl
  go_enter Tryz.func14, Tryz.ntmps14
  go_wp2_with (first | (go_at_call 38; ((with_reducible refine (HM.out _ (HR.out.gr (gri))).mono ?_); rintro _ _ ⟨rfl, g, rfl⟩)))
  go_ret2
  exact ⟨rfl, gri⟩
theorem dataL_small (l : List UInt8) (h : l.length ≤ 2048) : (dataL l).length ≤ 40000 := by
  unfold dataL rowL
  split
  · simp
  · have := secs_join l (l.length / 64); omega
theorem opTextL_small (xk xv xt xs xa xc : Int) (n : Nat) (lx : List UInt8) (B : Bd xv xt xs xa xc) (h : lx.length ≤ 2048) : (⟨(opTextL xk xv xt xs xa xc lx).toArray⟩ : ByteArray).size ≤ 200000 := by
  have hd := dec_len xv.toNat (by have := B.v1; omega)
  have ht := dec_len xt.toNat (by have := B.t1; omega)
  have hs := itoa_len _ B.s0 B.s1
  have ha := itoa_len _ B.a0 B.a1
  have hc := itoa_len _ B.c0 B.c1
  have hx := dataL_small lx h
  have hl : (opPieces xk xv xt xs xa xc lx).length ≤ 4 := by
    unfold opPieces
    repeat' split
    all_goals simp
  have hm : ∀ y ∈ (opPieces xk xv xt xs xa xc lx).map (·.data.toList), y.length ≤ 40000 := by
    unfold opPieces
    repeat' split
    all_goals
      intro y hy
      simp only [List.map_cons, List.map_nil, List.mem_cons, List.mem_nil_iff, or_false] at hy
    all_goals
      rcases hy with h | h | h | h
    all_goals (first | (subst h; first | omega | simp) | omega | simp)
  have := join_len [32] rfl 40000 _ hm
  rw [List.length_map] at this
  have h2 : (opPieces xk xv xt xs xa xc lx).length * 40001 ≤ 4 * 40001 := Nat.mul_le_mul_right _ hl
  have h3 : (⟨(opTextL xk xv xt xs xa xc lx).toArray⟩ : ByteArray).size = (opTextL xk xv xt xs xa xc lx).length := by simp [ByteArray.size]
  rw [h3]
  unfold opTextL
  omega
theorem pk_nil : Pk [] := ⟨by simp, by simp⟩
/-- The act that asks. -/
theorem ask_yes (nd : Nat) (hnd : nd = 0 ∨ nd = 1) (k v t s a c : Int) (D : Option Addr) (n q : Nat) (l : List UInt8) (w : World) [hk : Tb w] (B : Bd v t s a c) (hl : l.length = n) (hq : n ≤ q) (hn : n ≤ 9223372036854775807) (hr : Row bv w D l) (hM : mayOpB k v t s a c n l = true) :
    Calls Tryz.prog 15 #[.agg #[.int .i64 1, .int .i64 nd, .int .i64 0, .int .i64 k, .int .u64 v, .int .u64 t, .int .i64 s, .int .i64 a, .int .i64 c, .slice D n q, .bool false, .slice none 0 0]] w fun e w' => e = .returned (.tuple #[.string (⟨#[97, 115, 107, 32, UInt8.ofNat (48 + nd), 32]⟩ ++ ⟨(opTextL k v t s a c l).toArray⟩), .int .i64 0]) ∧ Gr w w' := by
  have hm : mayActB 1 nd 0 k v t s a c false n 0 l [] = true := by
    have e : mayActB 1 (nd : Int) 0 k v t s a c false n 0 l [] = (nodeB nd && mayOpB k v t s a c n l && true && true && true) := rfl
    rw [e, hM]
    rcases hnd with rfl | rfl <;> rfl
  have h := ActText_any 1 nd 0 k v t s a c D none n q 0 0 false l [] w (by omega) (by omega) (by omega) (by omega) B hl hq hr rfl (Nat.le_refl _) pk_nil Row.nil hn (by omega)
  simp only [hm, if_true] at h
  have e : (⟨(actTextL 1 nd 0 k v t s a c false l []).toArray⟩ : ByteArray) = ⟨#[97, 115, 107, 32, UInt8.ofNat (48 + nd), 32]⟩ ++ ⟨(opTextL k v t s a c l).toArray⟩ := by
    have hp : actPieces 1 nd 0 k v t s a c false l [] = [⟨#[97, 115, 107]⟩, ⟨(Lib.itoa nd).toArray⟩, ⟨(opTextL k v t s a c l).toArray⟩] := rfl
    apply ByteArray.ext
    rw [actTextL, hp, itoa_small nd (by omega)]
    simp [join_two, join_one]
  rw [e] at h
  exact h
theorem ask_no (nd : Int) (h0 : -9223372036854775808 ≤ nd) (h1 : nd ≤ 9223372036854775807) (k v t s a c : Int) (D : Option Addr) (n q : Nat) (l : List UInt8) (w : World) [hk : Tb w] (B : Bd v t s a c) (hl : l.length = n) (hq : n ≤ q) (hn : n ≤ 9223372036854775807) (hr : Row bv w D l) (hM : (nodeB nd && mayOpB k v t s a c n l) = false) :
    Calls Tryz.prog 15 #[.agg #[.int .i64 1, .int .i64 nd, .int .i64 0, .int .i64 k, .int .u64 v, .int .u64 t, .int .i64 s, .int .i64 a, .int .i64 c, .slice D n q, .bool false, .slice none 0 0]] w fun e w' => e = .returned (.tuple #[.string ⟨#[]⟩, .int .i64 2]) ∧ Gr w w' := by
  have hm : mayActB 1 nd 0 k v t s a c false n 0 l [] = false := by
    have e : mayActB 1 nd 0 k v t s a c false n 0 l [] = (nodeB nd && mayOpB k v t s a c n l && true && true && true) := rfl
    rw [e, hM]
    rfl
  have h := ActText_any 1 nd 0 k v t s a c D none n q 0 0 false l [] w h0 h1 (by omega) (by omega) B hl hq hr rfl (Nat.le_refl _) pk_nil Row.nil hn (by omega)
  simp only [hm, Bool.false_eq_true, if_false] at h
  exact h
set_option maxRecDepth 100000 in
set_option maxHeartbeats 4000000 in
theorem clients_much (k v t s a c : Int) (D : Option Addr) (n q : Nat) (l : List UInt8) (x : ByteArray) (nd : Int) (w : World) [hk : Tb w] (h : 9000 < n ∨ 20000 < x.size) : Calls Tryz.prog 3 #[.agg #[.int .i64 k, .int .u64 v, .int .u64 t, .int .i64 s, .int .i64 a, .int .i64 c, .slice D n q], .string x, .int .i64 nd] w fun e w' => e = .returned (.bool true) ∧ Gr w w' := by
  have HU := Lib.hid (fun W => much13_any k v t s a c D n q W)
  have HK := Lib.hid (fun W (_ : Tb W) => known26_any W)
  by_cases h1 : 9000 < n
  · have e : decide (9000 < n) = true := by simpa using h1
    rw [e] at HU
    clear h h1 e
    go_enter Tryz.func3, Tryz.ntmps3
    go_wp2_with (first | (go_at_call 8; ((with_reducible refine (HU.out _).mono ?_); rintro _ _ ⟨rfl, gu, rfl⟩)) | (go_at_call 9; ((with_reducible refine (HK.out _ inferInstance).mono ?_); rintro _ _ ⟨rfl, gk, rfl⟩)))
    go_ret
    exact ⟨rfl, gri⟩
  · have e : decide (9000 < n) = false := by simpa using h1
    rw [e] at HU
    have h2 : (20000 : Int) < (x.size : Int) := by omega
    clear h h1 e
    go_enter Tryz.func3, Tryz.ntmps3
    go_wp2_with (first | (go_at_call 8; ((with_reducible refine (HU.out _).mono ?_); rintro _ _ ⟨rfl, gu, rfl⟩)) | (go_at_call 9; ((with_reducible refine (HK.out _ inferInstance).mono ?_); rintro _ _ ⟨rfl, gk, rfl⟩)))
    go_ret
    exact ⟨rfl, gri⟩
set_option maxRecDepth 100000 in
set_option maxHeartbeats 8000000 in
theorem clients_not (k v t s a c : Int) (D : Option Addr) (n q : Nat) (l : List UInt8) (x : ByteArray) (nd : Int) (hn0 : -9223372036854775808 ≤ nd) (hn1 : nd ≤ 9223372036854775807) (w : World) [hk : Tb w] [hm : Ml w] (C : Came w k v t s a c D n q l) (h1 : ¬ 9000 < n) (h3 : x.size ≤ 20000) (hM : mayOpB k v t s a c n l = false) : Calls Tryz.prog 3 #[.agg #[.int .i64 k, .int .u64 v, .int .u64 t, .int .i64 s, .int .i64 a, .int .i64 c, .slice D n q], .string x, .int .i64 nd] w fun e w' => e = .returned (.bool true) ∧ Gr w w' := by
  have HU := Lib.hid (fun W => much13_any k v t s a c D n q W)
  have HK := Lib.hid (fun W (_ : Tb W) => known26_any W)
  have e : decide (9000 < n) = false := by simpa using h1
  rw [e] at HU
  clear e
  have h2 : ¬ (20000 : Int) < (x.size : Int) := by omega
  obtain ⟨r, hr⟩ : ∃ r, opRes x = r := ⟨_, rfl⟩
  obtain ⟨k1, v1, t1, s1, a1, c1, d1⟩ := r
  have HX1 := Lib.hid (fun W (_ : Tb W) (_ : Ml W) => opOf_row x (by omega) k1 v1 t1 s1 a1 c1 d1 hr _ rfl W)
  have HX2 := Lib.hid (fun W (_ : Tb W) => ropOf_row x (by omega) k1 v1 t1 s1 a1 c1 d1 hr _ rfl W)
  have HS := Lib.hid (fun W A q1 B q2 (g1 : Row bv W A d1) (g2 : Row bv W B d1) => same13r_refl k1 v1 t1 s1 a1 c1 A B d1.length q1 d1.length q2 d1 W rfl rfl g1 g2)
  have HM := Lib.hid (fun W => may13_any k v t s a c D n q l W C.len C.big C.b.v0 C.b.t0)
  rw [hM] at HM
  have HT := Lib.hid (fun W (_ : Tb W) (g1 : Row bv W D l) => OpText_no k v t s a c D n q l W C.len C.big g1 hM)
  have HA := Lib.hid (fun W (_ : Tb W) (g1 : Row bv W D l) => ask_no nd hn0 hn1 k v t s a c D n q l W C.b C.len C.cap C.big g1 (by rw [hM]; simp))
  have HR := Lib.hid C.row
  clear hM C hr
  have hGE : (goodOp x = true ∧ opE x = 0) ∨ (goodOp x = false ∧ opE x = 4) := by
    cases h : goodOp x <;> simp [opE, h]
  generalize goodOp x = G at *
  generalize opE x = E at *
  rcases hGE with ⟨rfl, rfl⟩ | ⟨rfl, rfl⟩
  all_goals
    go_enter Tryz.func3, Tryz.ntmps3
    go_wp2_with (first | (go_at_call 8; ((with_reducible refine (HU.out _).mono ?_); rintro _ _ ⟨rfl, gu, rfl⟩)) | (go_at_call 10; ((with_reducible refine (HX1.out _ inferInstance inferInstance).mono ?_); rintro _ _ ⟨A1, q1, rfl, hq1, hr1, g1, rfl⟩)))
    have HR1 := Lib.hid hr1; clear hr1
    go_wp2_with ((go_at_call 11; ((with_reducible refine (HX2.out _ inferInstance).mono ?_); rintro _ _ ⟨A2, q2, rfl, hq2, hr2, g2, rfl⟩)))
    have HR2 := Lib.hid hr2; clear hr2
    go_wp2_with (first | (go_at_call 12; ((with_reducible refine (HS.out _ A1 q1 A2 q2 (HR1.out.gr gri) (HR2.out.gr gri)).mono ?_); rintro _ _ ⟨rfl, g3, rfl⟩)) | (go_at_call 13; ((with_reducible refine (num26_any _ _).mono ?_); rintro _ _ ⟨rfl, rfl⟩)) | (go_at_call 16; ((with_reducible refine (HM.out _).mono ?_); rintro _ _ ⟨rfl, g6, rfl⟩)) | (go_at_call 14; ((with_reducible refine (HT.out _ inferInstance (HR.out.gr gri)).mono ?_); rintro _ _ ⟨rfl, g4, rfl⟩)) | (go_at_call 15; ((with_reducible refine (HA.out _ inferInstance (HR.out.gr gri)).mono ?_); rintro _ _ ⟨rfl, g5, rfl⟩)) | (go_at_call 9; ((with_reducible refine (HK.out _ inferInstance).mono ?_); rintro _ _ ⟨rfl, gk, rfl⟩)))
    go_ret
    exact ⟨rfl, gri⟩
set_option maxRecDepth 100000 in
set_option maxHeartbeats 8000000 in
theorem clients_else (k v t s a c : Int) (D : Option Addr) (n q : Nat) (l : List UInt8) (x : ByteArray) (nd : Int) (hn0 : -9223372036854775808 ≤ nd) (hn1 : nd ≤ 9223372036854775807) (hne0 : (nd == 0) = false) (hne1 : (nd == 1) = false) (hne2 : (nd != 0) = true) (hne3 : (nd != 1) = true) (w : World) [hk : Tb w] [hm : Ml w] (C : Came w k v t s a c D n q l) (h1 : ¬ 9000 < n) (h3 : x.size ≤ 20000) (hM : mayOpB k v t s a c n l = true) : Calls Tryz.prog 3 #[.agg #[.int .i64 k, .int .u64 v, .int .u64 t, .int .i64 s, .int .i64 a, .int .i64 c, .slice D n q], .string x, .int .i64 nd] w fun e w' => e = .returned (.bool true) ∧ Gr w w' := by
  have HU := Lib.hid (fun W => much13_any k v t s a c D n q W)
  have HK := Lib.hid (fun W (_ : Tb W) => known26_any W)
  have e : decide (9000 < n) = false := by simpa using h1
  rw [e] at HU
  clear e
  have h2 : ¬ (20000 : Int) < (x.size : Int) := by omega
  obtain ⟨r, hr⟩ : ∃ r, opRes x = r := ⟨_, rfl⟩
  obtain ⟨k1, v1, t1, s1, a1, c1, d1⟩ := r
  have HX1 := Lib.hid (fun W (_ : Tb W) (_ : Ml W) => opOf_row x (by omega) k1 v1 t1 s1 a1 c1 d1 hr _ rfl W)
  have HX2 := Lib.hid (fun W (_ : Tb W) => ropOf_row x (by omega) k1 v1 t1 s1 a1 c1 d1 hr _ rfl W)
  have HS := Lib.hid (fun W A q1 B q2 (g1 : Row bv W A d1) (g2 : Row bv W B d1) => same13r_refl k1 v1 t1 s1 a1 c1 A B d1.length q1 d1.length q2 d1 W rfl rfl g1 g2)
  have HM := Lib.hid (fun W => may13_any k v t s a c D n q l W C.len C.big C.b.v0 C.b.t0)
  rw [hM] at HM
  have HT := Lib.hid (fun W (_ : Tb W) (g1 : Row bv W D l) => OpText_yes k v t s a c D n q l W C.b C.len C.cap g1 hM)
  have HRT := Lib.hid (fun W (_ : Tb W) (g1 : Row bv W D l) => ropText_any k v t s a c D n q l W hM C.len C.cap g1)
  have HA := Lib.hid (fun W (_ : Tb W) (g1 : Row bv W D l) => ask_no nd hn0 hn1 k v t s a c D n q l W C.b C.len C.cap C.big g1 (by simp [nodeB, hne0, hne1]))
  generalize (⟨(opTextL k v t s a c l).toArray⟩ : ByteArray) = S at *
  have HR := Lib.hid C.row
  clear hM C hr
  have hGE : (goodOp x = true ∧ opE x = 0) ∨ (goodOp x = false ∧ opE x = 4) := by
    cases h : goodOp x <;> simp [opE, h]
  generalize goodOp x = G at *
  generalize opE x = E at *
  rcases hGE with ⟨rfl, rfl⟩ | ⟨rfl, rfl⟩
  all_goals
    go_enter Tryz.func3, Tryz.ntmps3
    go_wp2_with (first | (go_at_call 8; ((with_reducible refine (HU.out _).mono ?_); rintro _ _ ⟨rfl, gu, rfl⟩)) | (go_at_call 10; ((with_reducible refine (HX1.out _ inferInstance inferInstance).mono ?_); rintro _ _ ⟨A1, q1, rfl, hq1, hr1, g1, rfl⟩)))
    have HR1 := Lib.hid hr1; clear hr1
    go_wp2_with ((go_at_call 11; ((with_reducible refine (HX2.out _ inferInstance).mono ?_); rintro _ _ ⟨A2, q2, rfl, hq2, hr2, g2, rfl⟩)))
    have HR2 := Lib.hid hr2; clear hr2
    go_wp2_with (first | (go_at_call 12; ((with_reducible refine (HS.out _ A1 q1 A2 q2 (HR1.out.gr gri) (HR2.out.gr gri)).mono ?_); rintro _ _ ⟨rfl, g3, rfl⟩)) | (go_at_call 13; ((with_reducible refine (num26_any _ _).mono ?_); rintro _ _ ⟨rfl, rfl⟩)) | (go_at_call 16; ((with_reducible refine (HM.out _).mono ?_); rintro _ _ ⟨rfl, g6, rfl⟩)) | (go_at_call 14; ((with_reducible refine (HT.out _ inferInstance (HR.out.gr gri)).mono ?_); rintro _ _ ⟨rfl, g4, rfl⟩)) | (go_at_call 15; ((with_reducible refine (HA.out _ inferInstance (HR.out.gr gri)).mono ?_); rintro _ _ ⟨rfl, g5, rfl⟩)) | (go_at_call 9; ((with_reducible refine (HK.out _ inferInstance).mono ?_); rintro _ _ ⟨rfl, gk, rfl⟩)) | (go_at_call 17; ((with_reducible refine (HRT.out _ inferInstance (HR.out.gr gri)).mono ?_); rintro _ _ ⟨rfl, g7, rfl⟩)))
    go_ret
    exact ⟨rfl, gri⟩
set_option maxRecDepth 100000 in
set_option maxHeartbeats 8000000 in
theorem clients_0 (k v t s a c : Int) (D : Option Addr) (n q : Nat) (l : List UInt8) (x : ByteArray) (w : World) [hk : Tb w] [hm : Ml w] (C : Came w k v t s a c D n q l) (h1 : ¬ 9000 < n) (h3 : x.size ≤ 20000) (hM : mayOpB k v t s a c n l = true) : Calls Tryz.prog 3 #[.agg #[.int .i64 k, .int .u64 v, .int .u64 t, .int .i64 s, .int .i64 a, .int .i64 c, .slice D n q], .string x, .int .i64 0] w fun e w' => e = .returned (.bool true) ∧ Gr w w' := by
  have HU := Lib.hid (fun W => much13_any k v t s a c D n q W)
  have HK := Lib.hid (fun W (_ : Tb W) => known26_any W)
  have e : decide (9000 < n) = false := by simpa using h1
  rw [e] at HU
  clear e
  have h2 : ¬ (20000 : Int) < (x.size : Int) := by omega
  obtain ⟨r, hr⟩ : ∃ r, opRes x = r := ⟨_, rfl⟩
  obtain ⟨k1, v1, t1, s1, a1, c1, d1⟩ := r
  have HX1 := Lib.hid (fun W (_ : Tb W) (_ : Ml W) => opOf_row x (by omega) k1 v1 t1 s1 a1 c1 d1 hr _ rfl W)
  have HX2 := Lib.hid (fun W (_ : Tb W) => ropOf_row x (by omega) k1 v1 t1 s1 a1 c1 d1 hr _ rfl W)
  have HS := Lib.hid (fun W A q1 B q2 (g1 : Row bv W A d1) (g2 : Row bv W B d1) => same13r_refl k1 v1 t1 s1 a1 c1 A B d1.length q1 d1.length q2 d1 W rfl rfl g1 g2)
  have HM := Lib.hid (fun W => may13_any k v t s a c D n q l W C.len C.big C.b.v0 C.b.t0)
  rw [hM] at HM
  have HT := Lib.hid (fun W (_ : Tb W) (g1 : Row bv W D l) => OpText_yes k v t s a c D n q l W C.b C.len C.cap g1 hM)
  have HRT := Lib.hid (fun W (_ : Tb W) (g1 : Row bv W D l) => ropText_any k v t s a c D n q l W hM C.len C.cap g1)
  have HA := Lib.hid (fun W (_ : Tb W) (g1 : Row bv W D l) => (show Calls Tryz.prog 15 #[.agg #[.int .i64 1, .int .i64 0, .int .i64 0, .int .i64 k, .int .u64 v, .int .u64 t, .int .i64 s, .int .i64 a, .int .i64 c, .slice D n q, .bool false, .slice none 0 0]] W (fun e w' => e = .returned (.tuple #[.string (⟨#[97, 115, 107, 32, 48, 32]⟩ ++ ⟨(opTextL k v t s a c l).toArray⟩), .int .i64 0]) ∧ Gr W w') from ask_yes 0 (by omega) k v t s a c D n q l W C.b C.len C.cap C.big g1 hM))
  have hk9 := mayOpB_kind hM C.len
  have hgt := goodOp_text ⟨k, v, t, s, a, c, l⟩ ⟨(opTextL k v t s a c l).toArray⟩ (by rw [← C.len] at hM; exact hM) (by simp [OpV.text])
  have hsz : (⟨(opTextL k v t s a c l).toArray⟩ : ByteArray).size ≤ 200000 := opTextL_small k v t s a c n l C.b (by have := C.len; omega)
  have HX3 := Lib.hid (fun W (_ : Tb W) (_ : Ml W) => opOf_row ⟨(opTextL k v t s a c l).toArray⟩ hsz k v t s a c l (by rw [opRes, if_pos hgt.1, hgt.2]) 0 (by rw [opE, if_pos hgt.1]) W)
  have HS2 := Lib.hid (fun W A q1 (g1 : Row bv W A l) (g2 : Row bv W D l) => same13r_refl k v t s a c A D l.length q1 n q l W rfl C.len g1 g2)
  clear hgt hk9
  generalize (⟨(opTextL k v t s a c l).toArray⟩ : ByteArray) = S at *
  have HR := Lib.hid C.row
  clear hM C hr
  have hGE : (goodOp x = true ∧ opE x = 0) ∨ (goodOp x = false ∧ opE x = 4) := by
    cases h : goodOp x <;> simp [opE, h]
  generalize goodOp x = G at *
  generalize opE x = E at *
  rcases hGE with ⟨rfl, rfl⟩ | ⟨rfl, rfl⟩
  all_goals
    go_enter Tryz.func3, Tryz.ntmps3
    go_wp2_with (first | (go_at_call 8; ((with_reducible refine (HU.out _).mono ?_); rintro _ _ ⟨rfl, gu, rfl⟩)) | (go_at_call 10; ((with_reducible refine (HX1.out _ inferInstance inferInstance).mono ?_); rintro _ _ ⟨A1, q1, rfl, hq1, hr1, g1, rfl⟩)))
    have HR1 := Lib.hid hr1; clear hr1
    go_wp2_with ((go_at_call 11; ((with_reducible refine (HX2.out _ inferInstance).mono ?_); rintro _ _ ⟨A2, q2, rfl, hq2, hr2, g2, rfl⟩)))
    have HR2 := Lib.hid hr2; clear hr2
    go_wp2_with (first | (go_at_call 12; ((with_reducible refine (HS.out _ A1 q1 A2 q2 (HR1.out.gr gri) (HR2.out.gr gri)).mono ?_); rintro _ _ ⟨rfl, g3, rfl⟩)) | (go_at_call 13; ((with_reducible refine (num26_any _ _).mono ?_); rintro _ _ ⟨rfl, rfl⟩)) | (go_at_call 16; ((with_reducible refine (HM.out _).mono ?_); rintro _ _ ⟨rfl, g6, rfl⟩)) | (go_at_call 14; ((with_reducible refine (HT.out _ inferInstance (HR.out.gr gri)).mono ?_); rintro _ _ ⟨rfl, g4, rfl⟩)) | (go_at_call 15; ((with_reducible refine (HA.out _ inferInstance (HR.out.gr gri)).mono ?_); rintro _ _ ⟨rfl, g5, rfl⟩)) | (go_at_call 17; ((with_reducible refine (HRT.out _ inferInstance (HR.out.gr gri)).mono ?_); rintro _ _ ⟨rfl, g7, rfl⟩)) | (go_at_call 10; ((with_reducible refine (HX3.out _ inferInstance inferInstance).mono ?_); rintro _ _ ⟨A3, q3, rfl, hq3, hr3, g8, rfl⟩)))
    have HR3 := Lib.hid hr3; clear hr3
    go_wp2_with (first | (go_at_call 13; ((with_reducible refine (num26_any _ _).mono ?_); rintro _ _ ⟨rfl, rfl⟩)) | (go_at_call 12; ((with_reducible refine (HS2.out _ A3 q3 (HR3.out.gr gri) (HR.out.gr gri)).mono ?_); rintro _ _ ⟨rfl, g9, rfl⟩)) | (go_at_call 9; ((with_reducible refine (HK.out _ inferInstance).mono ?_); rintro _ _ ⟨rfl, gk, rfl⟩)))
    go_ret
    exact ⟨rfl, gri⟩
set_option maxRecDepth 100000 in
set_option maxHeartbeats 8000000 in
theorem clients_1 (k v t s a c : Int) (D : Option Addr) (n q : Nat) (l : List UInt8) (x : ByteArray) (w : World) [hk : Tb w] [hm : Ml w] (C : Came w k v t s a c D n q l) (h1 : ¬ 9000 < n) (h3 : x.size ≤ 20000) (hM : mayOpB k v t s a c n l = true) : Calls Tryz.prog 3 #[.agg #[.int .i64 k, .int .u64 v, .int .u64 t, .int .i64 s, .int .i64 a, .int .i64 c, .slice D n q], .string x, .int .i64 1] w fun e w' => e = .returned (.bool true) ∧ Gr w w' := by
  have HU := Lib.hid (fun W => much13_any k v t s a c D n q W)
  have HK := Lib.hid (fun W (_ : Tb W) => known26_any W)
  have e : decide (9000 < n) = false := by simpa using h1
  rw [e] at HU
  clear e
  have h2 : ¬ (20000 : Int) < (x.size : Int) := by omega
  obtain ⟨r, hr⟩ : ∃ r, opRes x = r := ⟨_, rfl⟩
  obtain ⟨k1, v1, t1, s1, a1, c1, d1⟩ := r
  have HX1 := Lib.hid (fun W (_ : Tb W) (_ : Ml W) => opOf_row x (by omega) k1 v1 t1 s1 a1 c1 d1 hr _ rfl W)
  have HX2 := Lib.hid (fun W (_ : Tb W) => ropOf_row x (by omega) k1 v1 t1 s1 a1 c1 d1 hr _ rfl W)
  have HS := Lib.hid (fun W A q1 B q2 (g1 : Row bv W A d1) (g2 : Row bv W B d1) => same13r_refl k1 v1 t1 s1 a1 c1 A B d1.length q1 d1.length q2 d1 W rfl rfl g1 g2)
  have HM := Lib.hid (fun W => may13_any k v t s a c D n q l W C.len C.big C.b.v0 C.b.t0)
  rw [hM] at HM
  have HT := Lib.hid (fun W (_ : Tb W) (g1 : Row bv W D l) => OpText_yes k v t s a c D n q l W C.b C.len C.cap g1 hM)
  have HRT := Lib.hid (fun W (_ : Tb W) (g1 : Row bv W D l) => ropText_any k v t s a c D n q l W hM C.len C.cap g1)
  have HA := Lib.hid (fun W (_ : Tb W) (g1 : Row bv W D l) => (show Calls Tryz.prog 15 #[.agg #[.int .i64 1, .int .i64 1, .int .i64 0, .int .i64 k, .int .u64 v, .int .u64 t, .int .i64 s, .int .i64 a, .int .i64 c, .slice D n q, .bool false, .slice none 0 0]] W (fun e w' => e = .returned (.tuple #[.string (⟨#[97, 115, 107, 32, 49, 32]⟩ ++ ⟨(opTextL k v t s a c l).toArray⟩), .int .i64 0]) ∧ Gr W w') from ask_yes 1 (by omega) k v t s a c D n q l W C.b C.len C.cap C.big g1 hM))
  have hk9 := mayOpB_kind hM C.len
  have hgt := goodOp_text ⟨k, v, t, s, a, c, l⟩ ⟨(opTextL k v t s a c l).toArray⟩ (by rw [← C.len] at hM; exact hM) (by simp [OpV.text])
  have hsz : (⟨(opTextL k v t s a c l).toArray⟩ : ByteArray).size ≤ 200000 := opTextL_small k v t s a c n l C.b (by have := C.len; omega)
  have HX3 := Lib.hid (fun W (_ : Tb W) (_ : Ml W) => opOf_row ⟨(opTextL k v t s a c l).toArray⟩ hsz k v t s a c l (by rw [opRes, if_pos hgt.1, hgt.2]) 0 (by rw [opE, if_pos hgt.1]) W)
  have HS2 := Lib.hid (fun W A q1 (g1 : Row bv W A l) (g2 : Row bv W D l) => same13r_refl k v t s a c A D l.length q1 n q l W rfl C.len g1 g2)
  clear hgt hk9
  generalize (⟨(opTextL k v t s a c l).toArray⟩ : ByteArray) = S at *
  have hne2 : ((⟨#[97, 115, 107, 32, 49, 32]⟩ ++ S : ByteArray).toList == (⟨#[97, 115, 107, 32, 48, 32]⟩ ++ S : ByteArray).toList) = false := by
    rw [beq_eq_false_iff_ne]
    intro h
    rw [Lib.toList_data, Lib.toList_data] at h
    simp at h
  have HR := Lib.hid C.row
  clear hM C hr
  have hGE : (goodOp x = true ∧ opE x = 0) ∨ (goodOp x = false ∧ opE x = 4) := by
    cases h : goodOp x <;> simp [opE, h]
  generalize goodOp x = G at *
  generalize opE x = E at *
  rcases hGE with ⟨rfl, rfl⟩ | ⟨rfl, rfl⟩
  all_goals
    go_enter Tryz.func3, Tryz.ntmps3
    go_wp2_with (first | (go_at_call 8; ((with_reducible refine (HU.out _).mono ?_); rintro _ _ ⟨rfl, gu, rfl⟩)) | (go_at_call 10; ((with_reducible refine (HX1.out _ inferInstance inferInstance).mono ?_); rintro _ _ ⟨A1, q1, rfl, hq1, hr1, g1, rfl⟩)))
    have HR1 := Lib.hid hr1; clear hr1
    go_wp2_with ((go_at_call 11; ((with_reducible refine (HX2.out _ inferInstance).mono ?_); rintro _ _ ⟨A2, q2, rfl, hq2, hr2, g2, rfl⟩)))
    have HR2 := Lib.hid hr2; clear hr2
    go_wp2_with (first | (go_at_call 12; ((with_reducible refine (HS.out _ A1 q1 A2 q2 (HR1.out.gr gri) (HR2.out.gr gri)).mono ?_); rintro _ _ ⟨rfl, g3, rfl⟩)) | (go_at_call 13; ((with_reducible refine (num26_any _ _).mono ?_); rintro _ _ ⟨rfl, rfl⟩)) | (go_at_call 16; ((with_reducible refine (HM.out _).mono ?_); rintro _ _ ⟨rfl, g6, rfl⟩)) | (go_at_call 14; ((with_reducible refine (HT.out _ inferInstance (HR.out.gr gri)).mono ?_); rintro _ _ ⟨rfl, g4, rfl⟩)) | (go_at_call 15; ((with_reducible refine (HA.out _ inferInstance (HR.out.gr gri)).mono ?_); rintro _ _ ⟨rfl, g5, rfl⟩)) | (go_at_call 17; ((with_reducible refine (HRT.out _ inferInstance (HR.out.gr gri)).mono ?_); rintro _ _ ⟨rfl, g7, rfl⟩)) | (go_at_call 10; ((with_reducible refine (HX3.out _ inferInstance inferInstance).mono ?_); rintro _ _ ⟨A3, q3, rfl, hq3, hr3, g8, rfl⟩)))
    have HR3 := Lib.hid hr3; clear hr3
    go_wp2_with (first | (go_at_call 13; ((with_reducible refine (num26_any _ _).mono ?_); rintro _ _ ⟨rfl, rfl⟩)) | (go_at_call 12; ((with_reducible refine (HS2.out _ A3 q3 (HR3.out.gr gri) (HR.out.gr gri)).mono ?_); rintro _ _ ⟨rfl, g9, rfl⟩)) | (go_at_call 9; ((with_reducible refine (HK.out _ inferInstance).mono ?_); rintro _ _ ⟨rfl, gk, rfl⟩)))
    go_ret
    exact ⟨rfl, gri⟩
theorem clients_walk (k v t s a c : Int) (D : Option Addr) (n q : Nat) (l : List UInt8) (x : ByteArray) (nd : Int) (hn0 : -9223372036854775808 ≤ nd) (hn1 : nd ≤ 9223372036854775807) (w : World) [hk : Tb w] [hm : Ml w] (C : Came w k v t s a c D n q l) : Calls Tryz.prog 3 #[.agg #[.int .i64 k, .int .u64 v, .int .u64 t, .int .i64 s, .int .i64 a, .int .i64 c, .slice D n q], .string x, .int .i64 nd] w fun e w' => e = .returned (.bool true) ∧ Gr w w' := by
  by_cases h : 9000 < n ∨ 20000 < x.size
  · exact clients_much k v t s a c D n q l x nd w h
  · rcases Bool.eq_false_or_eq_true (mayOpB k v t s a c n l) with hM | hM
    · by_cases e0 : nd = 0
      · subst e0; exact clients_0 k v t s a c D n q l x w C (by omega) (by omega) hM
      · by_cases e1 : nd = 1
        · subst e1; exact clients_1 k v t s a c D n q l x w C (by omega) (by omega) hM
        · exact clients_else k v t s a c D n q l x nd hn0 hn1 (by simpa using e0) (by simpa using e1) (by simpa using e0) (by simpa using e1) w C (by omega) (by omega) hM
    · exact clients_not k v t s a c D n q l x nd hn0 hn1 w C (by omega) (by omega) hM
end Go.Proofs.YtgjdgafoidppaaaGreatDoor
