/- The reference's OpOf. Conditions: a text of at most 200000 bytes; the tables stand. The reference's ActText, of an act that may be told. Conditions: what is read stands in memory. The reference's ActText, of any act that may be told. Conditions: what is read stands in memory. An act that may be told, told as x, is read back (no program in sight). Conditions: none. -/
import Derived.Test.YtgjdgafoidppaaaGreatDoorP15
import Derived.Test.YtgjdgafoidppaaaGreatDoorP14
import Derived.Test.YtgjdgafoidppaaaGreatDoorP09
import Derived.Test.YtgjdgafoidppaaaGreatDoorP11
import Derived.Test.YtgjdgafoidppaaaGreatDoorP12
namespace Go.Proofs.YtgjdgafoidppaaaGreatDoor
open Go.RowKit
set_option linter.unusedVariables false
set_option linter.unusedSimpArgs false
set_option linter.unnecessarySimpa false
theorem hd_at (ws : List ByteArray) (k j : Nat) (hj : j < ws.length + k) : (ws ++ List.replicate k (⟨#[]⟩ : ByteArray))[j]? = some (hdW (ws.drop j)) := by
 by_cases h : j < ws.length
 ·rw [List.getElem?_append_left h, List.getElem?_eq_getElem h, List.drop_eq_getElem_cons h]; rfl
 ·rw [List.getElem?_append_right (by omega), List.drop_eq_nil_of_le (by omega), List.getElem?_replicate, if_pos (by omega)]; rfl
theorem hd_short {ws : List ByteArray} {m : Nat} (h : ∀ x ∈ ws, x.size ≤ m) (j : Nat) : (hdW (ws.drop j)).size ≤ m := by
 cases hd : ws.drop j with
 | nil => exact Nat.zero_le _
 | cons y r => exact h y (List.mem_of_mem_drop (i := j) (by rw [hd]; simp))
theorem row_cells {W : World} {b o : Nat} {l : List ByteArray} (h : Row Value.string W (some ⟨b, o, none⟩) l) (j : Nat) (x : ByteArray) (hj : l[j]? = some x) : W.cell? ⟨b, o + j, none⟩ = some (.string x) := by
 have hne : l ≠ [] := by rintro rfl; simp at hj
 obtain ⟨b', o', he, _, hc⟩ := h.at_ hne
 cases he
 exact hc j x hj
theorem idx_shift (x : ByteArray) : ∀ (l : List ByteArray) (i : Nat), (Lib.idxFromS l x i = -1 ∧ Lib.idxFromS l x (i + 1) = -1) ∨ (0 ≤ Lib.idxFromS l x i ∧ Lib.idxFromS l x (i + 1) = Lib.idxFromS l x i + 1)
 | [], i => .inl ⟨rfl, rfl⟩
 | z :: l, i => by
  unfold Lib.idxFromS
  split
  ·exact .inr ⟨by omega, by omega⟩
  ·exact idx_shift x l (i + 1)
theorem kd_kOf (x : ByteArray) : Lib.idxOfS kdL x + 1 = kOf x := by
 unfold kOf
 have e : Lib.idxOfS opWl x = if (⟨#[]⟩ : ByteArray) = x then 0 else Lib.idxFromS kdL x 1 := rfl
 have h := idx_shift x kdL 0
 have e2 : Lib.idxOfS kdL x = Lib.idxFromS kdL x 0 := rfl
 by_cases hx : (⟨#[]⟩ : ByteArray) = x
 ·subst hx
  decide
 ·rw [e, if_neg hx]
  rw [Nat.zero_add] at h
  omega
def rX (x : ByteArray) : OpV := rV (kOf (hdW (wordsB 32 x))) (nD (wordsB 32 x) 1 4294967295) (nD (wordsB 32 x) 2 4294967295) (nD (wordsB 32 x) 2 256) (nD (wordsB 32 x) 2 1048576) (nD (wordsB 32 x) 3 1024) (dataR (hdW ((wordsB 32 x).drop 3)))
theorem rV_opValK (k : Int) (ws : List ByteArray) (h : 1 ≤ k) (h5 : k ≠ 5) (h9 : k ≤ 9) : rV k (nD ws 1 4294967295) (nD ws 2 4294967295) (nD ws 2 256) (nD ws 2 1048576) (nD ws 3 1024) (dataR (hdW (ws.drop 3))) = opValK k ws := by
 have h3 : k = 1 ∨ k = 2 ∨ k = 3 ∨ k = 4 ∨ k = 6 ∨ k = 7 ∨ k = 8 ∨ k = 9 := by omega
 rcases h3 with rfl | rfl | rfl | rfl | rfl | rfl | rfl | rfl <;> rfl
theorem words_5 (v t s a c : Int) (d : List UInt8) (x : ByteArray) (h : mayOpB 5 v t s a c d.length d = true) (hx : opTextL 5 v t s a c d = x.data.toList) :
  hdW ((wordsB 32 x).drop 3) = ⟨(dataL d).toArray⟩ ∧ 64 ≤ d.length ∧ d.length % 64 = 0 := by
 have E0 : mayOpB 5 v t s a c d.length d = (wVol v && wAt a && wData d.length && (t == 0) && (s == 0) && (c == 0)) := rfl
 rw [E0] at h
 simp only [Bool.and_eq_true, beq_iff_eq, wVol, wTo, wSize, wAt, wCount, wData, decide_eq_true_eq, bne_iff_ne] at h
 have hp : opPieces 5 v t s a c d = [⟨#[119, 114, 105, 116, 101]⟩, ⟨(Lib.decDigits v.toNat).toArray⟩, ⟨(Lib.itoa a).toArray⟩, ⟨(dataL d).toArray⟩] := rfl
 have hw : wordsB 32 x = [⟨#[119, 114, 105, 116, 101]⟩, ⟨(Lib.decDigits v.toNat).toArray⟩, ⟨(Lib.itoa a).toArray⟩, ⟨(dataL d).toArray⟩] := by
  have h1 : cutL 32 x.data.toList = ([⟨#[119, 114, 105, 116, 101]⟩, ⟨(Lib.decDigits v.toNat).toArray⟩, ⟨(Lib.itoa a).toArray⟩, ⟨(dataL d).toArray⟩] : List ByteArray).map (·.data.toList) := by
   rw [← hx, opTextL, hp]
   refine cutL_join 32 _ (by simp) (fun y hy => ?_)
   simp only [List.map_cons, List.map_nil, List.mem_cons, List.mem_nil_iff, or_false] at hy
   rcases hy with rfl | rfl | rfl | rfl
   ·decide
   ·exact dec_no32 _
   ·exact itoa_no32 _ (by omega)
   ·exact dataL_no _
  rw [wordsB, h1, List.map_map]
  simp [Function.comp_def]
 rw [hw]
 exact ⟨rfl, by omega, by omega⟩
theorem rX_good (x : ByteArray) (h : goodOp x = true) : rX x = opV x := by
 have h0 := h
 simp only [goodOp, Bool.and_eq_true, beq_iff_eq] at h
 obtain ⟨h1, h2, _, _⟩ := opRound _ x h.1 h.2
 obtain ⟨o, hO⟩ : ∃ o, opV x = o := ⟨_, rfl⟩
 obtain ⟨k, v, t, s, a, c, d⟩ := o
 rw [hO] at h h1 h2
 simp only [OpV.may, OpV.text] at h
 have hk := mayOpB_kind h.1 rfl
 simp only at h1 h2
 unfold rX
 rw [h1]
 by_cases h5 : k = 5
 ·subst h5
  obtain ⟨w3, hl, hm⟩ := words_5 v t s a c d x h.1 h.2
  have e5 : opValK 5 (wordsB 32 x) = ⟨5, nD (wordsB 32 x) 1 4294967295, 0, 0, nD (wordsB 32 x) 2 1048576, 0, dD (wordsB 32 x) 3⟩ := rfl
  have f5 : rV 5 (nD (wordsB 32 x) 1 4294967295) (nD (wordsB 32 x) 2 4294967295) (nD (wordsB 32 x) 2 256) (nD (wordsB 32 x) 2 1048576) (nD (wordsB 32 x) 3 1024) (dataR (hdW ((wordsB 32 x).drop 3))) = ⟨5, nD (wordsB 32 x) 1 4294967295, 0, 0, nD (wordsB 32 x) 2 1048576, 0, dataR (hdW ((wordsB 32 x).drop 3))⟩ := rfl
  have hdd : dataR (hdW ((wordsB 32 x).drop 3)) = d := by
   rw [w3, dataR_ok d hl, List.take_of_length_le (by omega)]
  rw [f5, hdd, hO]
  rw [e5] at h2
  cases h2
  rfl
 ·rw [rV_opValK k _ hk.1 h5 hk.2.1, h2, hO]
set_option maxHeartbeats 2000000 in
theorem ropText_any (k v t s a c : Int) (A : Option Addr) (n q : Nat) (d : List UInt8) (w : World) [hk : Tb w] (hm : mayOpB k v t s a c n d = true) (hd : d.length = n) (hq : n ≤ q) (hr : Row bv w A d) :
  Calls Tryz.prog 17 #[.agg #[.int .i64 k, .int .u64 v, .int .u64 t, .int .i64 s, .int .i64 a, .int .i64 c, .slice A n q]] w fun e w' => e = .returned (.string ⟨(opTextL k v t s a c d).toArray⟩) ∧ Gr w w' := by
 subst hd
 have hkk := mayOpB_kind hm rfl
 have h3 : k = 1 ∨ k = 2 ∨ k = 3 ∨ k = 4 ∨ k = 5 ∨ k = 6 ∨ k = 7 ∨ k = 8 ∨ k = 9 := by omega
 rcases h3 with rfl | rfl | rfl | rfl | rfl | rfl | rfl | rfl | rfl
 ·simp [mayOpB, wVol, wTo, wSize, wAt, wCount, wData] at hm
  obtain ⟨v, rfl⟩ := Int.eq_ofNat_of_zero_le (show 0 ≤ v by omega)
  obtain rfl : t = 0 := by omega
  obtain ⟨s, rfl⟩ := Int.eq_ofNat_of_zero_le (show 0 ≤ s by omega)
  obtain rfl : a = 0 := by omega
  obtain rfl : c = 0 := by omega
  obtain rfl : d = [] := by simp_all
  exact ropText_1 v s A q w (by omega) (by omega)
 ·simp [mayOpB, wVol, wTo, wSize, wAt, wCount, wData] at hm
  obtain ⟨v, rfl⟩ := Int.eq_ofNat_of_zero_le (show 0 ≤ v by omega)
  obtain rfl : t = 0 := by omega
  obtain rfl : s = 0 := by omega
  obtain rfl : a = 0 := by omega
  obtain rfl : c = 0 := by omega
  obtain rfl : d = [] := by simp_all
  exact ropText_2 v A q w (by omega)
 ·simp [mayOpB, wVol, wTo, wSize, wAt, wCount, wData] at hm
  obtain ⟨v, rfl⟩ := Int.eq_ofNat_of_zero_le (show 0 ≤ v by omega)
  obtain rfl : t = 0 := by omega
  obtain ⟨s, rfl⟩ := Int.eq_ofNat_of_zero_le (show 0 ≤ s by omega)
  obtain rfl : a = 0 := by omega
  obtain rfl : c = 0 := by omega
  obtain rfl : d = [] := by simp_all
  exact ropText_3 v s A q w (by omega) (by omega)
 ·simp [mayOpB, wVol, wTo, wSize, wAt, wCount, wData] at hm
  obtain ⟨v, rfl⟩ := Int.eq_ofNat_of_zero_le (show 0 ≤ v by omega)
  obtain ⟨t, rfl⟩ := Int.eq_ofNat_of_zero_le (show 0 ≤ t by omega)
  obtain rfl : s = 0 := by omega
  obtain rfl : a = 0 := by omega
  obtain rfl : c = 0 := by omega
  obtain rfl : d = [] := by simp_all
  exact ropText_4 v t A q w (by omega) (by omega)
 ·simp [mayOpB, wVol, wTo, wSize, wAt, wCount, wData] at hm
  obtain ⟨v, rfl⟩ := Int.eq_ofNat_of_zero_le (show 0 ≤ v by omega)
  obtain rfl : t = 0 := by omega
  obtain rfl : s = 0 := by omega
  obtain ⟨a, rfl⟩ := Int.eq_ofNat_of_zero_le (show 0 ≤ a by omega)
  obtain rfl : c = 0 := by omega
  exact ropText_5 v a A q d w (by omega) (by omega) (by omega) hq hr
 ·simp [mayOpB, wVol, wTo, wSize, wAt, wCount, wData] at hm
  obtain ⟨v, rfl⟩ := Int.eq_ofNat_of_zero_le (show 0 ≤ v by omega)
  obtain rfl : t = 0 := by omega
  obtain rfl : s = 0 := by omega
  obtain ⟨a, rfl⟩ := Int.eq_ofNat_of_zero_le (show 0 ≤ a by omega)
  obtain ⟨c, rfl⟩ := Int.eq_ofNat_of_zero_le (show 0 ≤ c by omega)
  obtain rfl : d = [] := by simp_all
  exact ropText_6 v a c A q w (by omega) (by omega) (by omega)
 ·simp [mayOpB, wVol, wTo, wSize, wAt, wCount, wData] at hm
  obtain ⟨v, rfl⟩ := Int.eq_ofNat_of_zero_le (show 0 ≤ v by omega)
  obtain rfl : t = 0 := by omega
  obtain rfl : s = 0 := by omega
  obtain ⟨a, rfl⟩ := Int.eq_ofNat_of_zero_le (show 0 ≤ a by omega)
  obtain ⟨c, rfl⟩ := Int.eq_ofNat_of_zero_le (show 0 ≤ c by omega)
  obtain rfl : d = [] := by simp_all
  exact ropText_7 v a c A q w (by omega) (by omega) (by omega)
 ·simp [mayOpB, wVol, wTo, wSize, wAt, wCount, wData] at hm
  obtain rfl : v = 0 := by omega
  obtain rfl : t = 0 := by omega
  obtain rfl : s = 0 := by omega
  obtain rfl : a = 0 := by omega
  obtain rfl : c = 0 := by omega
  obtain rfl : d = [] := by simp_all
  exact ropText_8  A q w 
 ·simp [mayOpB, wVol, wTo, wSize, wAt, wCount, wData] at hm
  obtain ⟨v, rfl⟩ := Int.eq_ofNat_of_zero_le (show 0 ≤ v by omega)
  obtain rfl : t = 0 := by omega
  obtain rfl : s = 0 := by omega
  obtain ⟨a, rfl⟩ := Int.eq_ofNat_of_zero_le (show 0 ≤ a by omega)
  obtain ⟨c, rfl⟩ := Int.eq_ofNat_of_zero_le (show 0 ≤ c by omega)
  obtain rfl : d = [] := by simp_all
  exact ropText_9 v a c A q w (by omega) (by omega) (by omega)
theorem acts_any (w : World) : Calls Tryz.prog 58 #[] w fun e w' => e = .returned (.slice (some ⟨w.heap.size, 0, none⟩) 10 10) ∧ w' = w.alloc (.cells #[.string ⟨#[97, 115, 107]⟩, .string ⟨#[99, 97, 114, 114, 121]⟩, .string ⟨#[116, 105, 99, 107]⟩, .string ⟨#[111, 102, 102]⟩, .string ⟨#[111, 110]⟩, .string ⟨#[102, 117, 115, 101]⟩, .string ⟨#[108, 101, 97, 100]⟩, .string ⟨#[100, 101, 103, 114, 97, 100, 101]⟩, .string ⟨#[103, 114, 111, 119]⟩, .string ⟨#[97, 108, 108]⟩] 9) := by
 go_enter Tryz.func58, Tryz.ntmps58
 go_wp2
 go_ret
 exact ⟨rfl, rfl⟩
set_option maxRecDepth 100000 in
set_option maxHeartbeats 8000000 in
theorem ractText_1 (nd : Nat) (ok ov ot os oa oc : Int) (on : Nat) (ol : List UInt8) (OD P : Option Addr) (oq pq : Nat) (w : World) [hk : Tb w] (hnd : nd ≤ 1) (B : Bd ov ot os oa oc) (hm : mayOpB ok ov ot os oa oc on ol = true) (hol : ol.length = on) (hoq : on ≤ oq) (hor : Row bv w OD ol) :
  Calls Tryz.prog 24 #[.agg #[.int .i64 1, .int .i64 nd, .int .i64 0, .int .i64 ok, .int .u64 ov, .int .u64 ot, .int .i64 os, .int .i64 oa, .int .i64 oc, .slice OD on oq, .bool false, .slice P 0 pq]] w fun e w' => e = .returned (.string ⟨(actTextL 1 nd 0 ok ov ot os oa oc false ol []).toArray⟩) ∧ Gr w w' := by
 have HTd := Lib.hid (fun W => text26_any nd (by omega) W)
 have ld := dec_len nd (by omega)
 have lo := opTextL_len ok ov ot os oa oc ol B (by have := mayOpB_kind hm hol; omega)
 have HOR := Lib.hid hor; clear hor
 have HTo := Lib.hid (fun W (_ : Tb W) (g : Gr w W) => ropText_any ok ov ot os oa oc OD on oq ol W hm hol hoq (HOR.out.gr g))
 have hk9 := mayOpB_kind hm hol
 clear hm
 go_enter Tryz.func24, Tryz.ntmps24
 go_upto_region 1 with fail
 go_cut [3] (fun u wx => u = .string ⟨#[97, 115, 107]⟩ ∧ Gr w wx ∧ Tb wx ∧ BlockAt wx w.heap.size #[.int .i64 1, .int .i64 nd, .int .i64 0, .int .i64 ok, .int .u64 ov, .int .u64 ot, .int .i64 os, .int .i64 oa, .int .i64 oc, .slice OD on oq, .bool false, .slice P 0 pq] 42)
 case first =>
  go_region_with ((go_at_call 58; refine (acts_any _).mono ?_; rintro e w' ⟨rfl, rfl⟩))
  all_goals
   go_wp2_with fail
   go_meet
   case rel => exact ⟨rfl, gri, inferInstance, inferInstance⟩
 case rest =>
  obtain ⟨rfl, hg, htb, hblk⟩ := hcut
  have x0 : wc.cell? ⟨w.heap.size, 0, none⟩ = some (.int .i64 1) := (block_cells _ _ _ _ _).trans rfl
  have x1 : wc.cell? ⟨w.heap.size, 1, none⟩ = some (.int .i64 nd) := (block_cells _ _ _ _ _).trans rfl
  have x2 : wc.cell? ⟨w.heap.size, 2, none⟩ = some (.int .i64 0) := (block_cells _ _ _ _ _).trans rfl
  have x3 : wc.cell? ⟨w.heap.size, 3, none⟩ = some (.int .i64 ok) := (block_cells _ _ _ _ _).trans rfl
  have x4 : wc.cell? ⟨w.heap.size, 4, none⟩ = some (.int .u64 ov) := (block_cells _ _ _ _ _).trans rfl
  have x5 : wc.cell? ⟨w.heap.size, 5, none⟩ = some (.int .u64 ot) := (block_cells _ _ _ _ _).trans rfl
  have x6 : wc.cell? ⟨w.heap.size, 6, none⟩ = some (.int .i64 os) := (block_cells _ _ _ _ _).trans rfl
  have x7 : wc.cell? ⟨w.heap.size, 7, none⟩ = some (.int .i64 oa) := (block_cells _ _ _ _ _).trans rfl
  have x8 : wc.cell? ⟨w.heap.size, 8, none⟩ = some (.int .i64 oc) := (block_cells _ _ _ _ _).trans rfl
  have x9 : wc.cell? ⟨w.heap.size, 9, none⟩ = some (.slice OD on oq) := (block_cells _ _ _ _ _).trans rfl
  have x10 : wc.cell? ⟨w.heap.size, 10, none⟩ = some (.bool false) := (block_cells _ _ _ _ _).trans rfl
  have x11 : wc.cell? ⟨w.heap.size, 11, none⟩ = some (.slice P 0 pq) := (block_cells _ _ _ _ _).trans rfl
  have HG := Lib.hid hg; clear hg
  haveI : Old w.heap.size wc := hblk.old
  haveI : GrC wc wc := inferInstance
  have HTe := Lib.hid (fun W (_ : Tb W) (hW : GrC wc W) => HTo.out W inferInstance (HG.out.trans (Gr.of hW.b)))
  generalize hS : (⟨(opTextL ok ov ot os oa oc ol).toArray⟩ : ByteArray) = SS at *
  have hss : SS.size ≤ 2000000 := by rw [← hS]; simpa [ByteArray.size] using lo
  have HSS := Lib.hid hS; clear hS lo
  go_wp2_with (first | (go_at_call 47; ((with_reducible refine (HTd.out _).mono ?_); rintro _ _ ⟨rfl, g, rfl⟩)) | (go_at_call 17; ((with_reducible refine (HTe.out _ inferInstance inferInstance).mono ?_); rintro _ _ ⟨rfl, g9, rfl⟩)))
  go_ret
  have e : actPieces 1 nd 0 ok ov ot os oa oc false ol [] = [⟨#[97, 115, 107]⟩, ⟨(Lib.itoa (nd : Int)).toArray⟩, ⟨(opTextL ok ov ot os oa oc ol).toArray⟩] := rfl
  have E : (⟨#[97, 115, 107]⟩ ++ (⟨#[32]⟩ : ByteArray) ++ ⟨(Lib.decDigits nd).toArray⟩ ++ (⟨#[32]⟩ : ByteArray) ++ SS : ByteArray) = ⟨(actTextL 1 nd 0 ok ov ot os oa oc false ol []).toArray⟩ := by
   rw [← HSS.out]
   apply ByteArray.ext
   rw [actTextL, e]
   simp [join_two, join_one, Lib.itoa_nonneg]
  exact ⟨congrArg (fun z => Ending.returned (Value.string z)) E, HG.out.trans gri⟩
set_option maxRecDepth 100000 in
set_option maxHeartbeats 8000000 in
theorem ractText_2 (m : Nat) (OD P : Option Addr) (oq pq : Nat) (w : World) [hk : Tb w] (hmm : m ≤ 1000000) :
  Calls Tryz.prog 24 #[.agg #[.int .i64 2, .int .i64 0, .int .i64 m, .int .i64 0, .int .u64 0, .int .u64 0, .int .i64 0, .int .i64 0, .int .i64 0, .slice OD 0 oq, .bool false, .slice P 0 pq]] w fun e w' => e = .returned (.string ⟨(actTextL 2 0 m 0 0 0 0 0 0 false [] []).toArray⟩) ∧ Gr w w' := by
 have HTn := Lib.hid (fun W => text26_any m (by omega) W)
 have ln := dec_len m (by omega)
 go_enter Tryz.func24, Tryz.ntmps24
 go_upto_region 1 with fail
 go_cut [3] (fun u wx => u = .string ⟨#[99, 97, 114, 114, 121]⟩ ∧ Gr w wx ∧ Tb wx ∧ BlockAt wx w.heap.size #[.int .i64 2, .int .i64 0, .int .i64 m, .int .i64 0, .int .u64 0, .int .u64 0, .int .i64 0, .int .i64 0, .int .i64 0, .slice OD 0 oq, .bool false, .slice P 0 pq] 42)
 case first =>
  go_region_with ((go_at_call 58; refine (acts_any _).mono ?_; rintro e w' ⟨rfl, rfl⟩))
  all_goals
   go_wp2_with fail
   go_meet
   case rel => exact ⟨rfl, gri, inferInstance, inferInstance⟩
 case rest =>
  obtain ⟨rfl, hg, htb, hblk⟩ := hcut
  have x0 : wc.cell? ⟨w.heap.size, 0, none⟩ = some (.int .i64 2) := (block_cells _ _ _ _ _).trans rfl
  have x1 : wc.cell? ⟨w.heap.size, 1, none⟩ = some (.int .i64 0) := (block_cells _ _ _ _ _).trans rfl
  have x2 : wc.cell? ⟨w.heap.size, 2, none⟩ = some (.int .i64 m) := (block_cells _ _ _ _ _).trans rfl
  have x3 : wc.cell? ⟨w.heap.size, 3, none⟩ = some (.int .i64 0) := (block_cells _ _ _ _ _).trans rfl
  have x4 : wc.cell? ⟨w.heap.size, 4, none⟩ = some (.int .u64 0) := (block_cells _ _ _ _ _).trans rfl
  have x5 : wc.cell? ⟨w.heap.size, 5, none⟩ = some (.int .u64 0) := (block_cells _ _ _ _ _).trans rfl
  have x6 : wc.cell? ⟨w.heap.size, 6, none⟩ = some (.int .i64 0) := (block_cells _ _ _ _ _).trans rfl
  have x7 : wc.cell? ⟨w.heap.size, 7, none⟩ = some (.int .i64 0) := (block_cells _ _ _ _ _).trans rfl
  have x8 : wc.cell? ⟨w.heap.size, 8, none⟩ = some (.int .i64 0) := (block_cells _ _ _ _ _).trans rfl
  have x9 : wc.cell? ⟨w.heap.size, 9, none⟩ = some (.slice OD 0 oq) := (block_cells _ _ _ _ _).trans rfl
  have x10 : wc.cell? ⟨w.heap.size, 10, none⟩ = some (.bool false) := (block_cells _ _ _ _ _).trans rfl
  have x11 : wc.cell? ⟨w.heap.size, 11, none⟩ = some (.slice P 0 pq) := (block_cells _ _ _ _ _).trans rfl
  have HG := Lib.hid hg; clear hg
  haveI : Old w.heap.size wc := hblk.old
  haveI : GrC wc wc := inferInstance
  go_wp2_with ((go_at_call 47; ((with_reducible refine (HTn.out _).mono ?_); rintro _ _ ⟨rfl, g, rfl⟩)))
  go_ret
  have e : actPieces 2 0 m 0 0 0 0 0 0 false [] [] = [⟨#[99, 97, 114, 114, 121]⟩, ⟨(Lib.itoa (m : Int)).toArray⟩] := rfl
  have E : (⟨#[99, 97, 114, 114, 121]⟩ ++ (⟨#[32]⟩ : ByteArray) ++ ⟨(Lib.decDigits m).toArray⟩ : ByteArray) = ⟨(actTextL 2 0 m 0 0 0 0 0 0 false [] []).toArray⟩ := by
   skip
   apply ByteArray.ext
   rw [actTextL, e]
   simp [join_two, join_one, Lib.itoa_nonneg]
  exact ⟨congrArg (fun z => Ending.returned (Value.string z)) E, HG.out.trans gri⟩
set_option maxRecDepth 100000 in
set_option maxHeartbeats 8000000 in
theorem ractText_3 (nd : Nat) (OD P : Option Addr) (oq pq : Nat) (w : World) [hk : Tb w] (hnd : nd ≤ 1) :
  Calls Tryz.prog 24 #[.agg #[.int .i64 3, .int .i64 nd, .int .i64 0, .int .i64 0, .int .u64 0, .int .u64 0, .int .i64 0, .int .i64 0, .int .i64 0, .slice OD 0 oq, .bool false, .slice P 0 pq]] w fun e w' => e = .returned (.string ⟨(actTextL 3 nd 0 0 0 0 0 0 0 false [] []).toArray⟩) ∧ Gr w w' := by
 have HTd := Lib.hid (fun W => text26_any nd (by omega) W)
 have ld := dec_len nd (by omega)
 go_enter Tryz.func24, Tryz.ntmps24
 go_upto_region 1 with fail
 go_cut [3] (fun u wx => u = .string ⟨#[116, 105, 99, 107]⟩ ∧ Gr w wx ∧ Tb wx ∧ BlockAt wx w.heap.size #[.int .i64 3, .int .i64 nd, .int .i64 0, .int .i64 0, .int .u64 0, .int .u64 0, .int .i64 0, .int .i64 0, .int .i64 0, .slice OD 0 oq, .bool false, .slice P 0 pq] 42)
 case first =>
  go_region_with ((go_at_call 58; refine (acts_any _).mono ?_; rintro e w' ⟨rfl, rfl⟩))
  all_goals
   go_wp2_with fail
   go_meet
   case rel => exact ⟨rfl, gri, inferInstance, inferInstance⟩
 case rest =>
  obtain ⟨rfl, hg, htb, hblk⟩ := hcut
  have x0 : wc.cell? ⟨w.heap.size, 0, none⟩ = some (.int .i64 3) := (block_cells _ _ _ _ _).trans rfl
  have x1 : wc.cell? ⟨w.heap.size, 1, none⟩ = some (.int .i64 nd) := (block_cells _ _ _ _ _).trans rfl
  have x2 : wc.cell? ⟨w.heap.size, 2, none⟩ = some (.int .i64 0) := (block_cells _ _ _ _ _).trans rfl
  have x3 : wc.cell? ⟨w.heap.size, 3, none⟩ = some (.int .i64 0) := (block_cells _ _ _ _ _).trans rfl
  have x4 : wc.cell? ⟨w.heap.size, 4, none⟩ = some (.int .u64 0) := (block_cells _ _ _ _ _).trans rfl
  have x5 : wc.cell? ⟨w.heap.size, 5, none⟩ = some (.int .u64 0) := (block_cells _ _ _ _ _).trans rfl
  have x6 : wc.cell? ⟨w.heap.size, 6, none⟩ = some (.int .i64 0) := (block_cells _ _ _ _ _).trans rfl
  have x7 : wc.cell? ⟨w.heap.size, 7, none⟩ = some (.int .i64 0) := (block_cells _ _ _ _ _).trans rfl
  have x8 : wc.cell? ⟨w.heap.size, 8, none⟩ = some (.int .i64 0) := (block_cells _ _ _ _ _).trans rfl
  have x9 : wc.cell? ⟨w.heap.size, 9, none⟩ = some (.slice OD 0 oq) := (block_cells _ _ _ _ _).trans rfl
  have x10 : wc.cell? ⟨w.heap.size, 10, none⟩ = some (.bool false) := (block_cells _ _ _ _ _).trans rfl
  have x11 : wc.cell? ⟨w.heap.size, 11, none⟩ = some (.slice P 0 pq) := (block_cells _ _ _ _ _).trans rfl
  have HG := Lib.hid hg; clear hg
  haveI : Old w.heap.size wc := hblk.old
  haveI : GrC wc wc := inferInstance
  go_wp2_with ((go_at_call 47; ((with_reducible refine (HTd.out _).mono ?_); rintro _ _ ⟨rfl, g, rfl⟩)))
  go_ret
  have e : actPieces 3 nd 0 0 0 0 0 0 0 false [] [] = [⟨#[116, 105, 99, 107]⟩, ⟨(Lib.itoa (nd : Int)).toArray⟩] := rfl
  have E : (⟨#[116, 105, 99, 107]⟩ ++ (⟨#[32]⟩ : ByteArray) ++ ⟨(Lib.decDigits nd).toArray⟩ : ByteArray) = ⟨(actTextL 3 nd 0 0 0 0 0 0 0 false [] []).toArray⟩ := by
   skip
   apply ByteArray.ext
   rw [actTextL, e]
   simp [join_two, join_one, Lib.itoa_nonneg]
  exact ⟨congrArg (fun z => Ending.returned (Value.string z)) E, HG.out.trans gri⟩
set_option maxRecDepth 100000 in
set_option maxHeartbeats 8000000 in
theorem ractText_4 (nd : Nat) (pn : Nat) (px : List Int) (OD P : Option Addr) (oq pq : Nat) (w : World) [hk : Tb w] (hnd : nd ≤ 1) (hpl : px.length = pn) (hpn : pn ≤ 100) (hpk : ∀ n ∈ px, 0 ≤ n ∧ n ≤ 1000000) (hpr : Row (Value.int .i64) w P px) :
  Calls Tryz.prog 24 #[.agg #[.int .i64 4, .int .i64 nd, .int .i64 0, .int .i64 0, .int .u64 0, .int .u64 0, .int .i64 0, .int .i64 0, .int .i64 0, .slice OD 0 oq, .bool false, .slice P pn pq]] w fun e w' => e = .returned (.string ⟨(actTextL 4 nd 0 0 0 0 0 0 0 false [] px).toArray⟩) ∧ Gr w w' := by
 have HTd := Lib.hid (fun W => text26_any nd (by omega) W)
 have ld := dec_len nd (by omega)
 have hPk : Pk px := ⟨fun n hn => by have := hpk n hn; omega, fun n hn => by have := hpk n hn; omega⟩
 have lp := hPk.row (by omega)
 have lj := hPk.join (by omega)
 have HPK := Lib.hid hpk; have HPR := Lib.hid hpr; have HPL := Lib.hid hpl; have HLJ := Lib.hid lj; clear hpk hpr hpl lj hPk
 go_enter Tryz.func24, Tryz.ntmps24
 go_upto_region 1 with fail
 go_cut [3] (fun u wx => u = .string ⟨#[111, 102, 102]⟩ ∧ Gr w wx ∧ Tb wx ∧ BlockAt wx w.heap.size #[.int .i64 4, .int .i64 nd, .int .i64 0, .int .i64 0, .int .u64 0, .int .u64 0, .int .i64 0, .int .i64 0, .int .i64 0, .slice OD 0 oq, .bool false, .slice P pn pq] 42)
 case first =>
  go_region_with ((go_at_call 58; refine (acts_any _).mono ?_; rintro e w' ⟨rfl, rfl⟩))
  all_goals
   go_wp2_with fail
   go_meet
   case rel => exact ⟨rfl, gri, inferInstance, inferInstance⟩
 case rest =>
  obtain ⟨rfl, hg, htb, hblk⟩ := hcut
  have x0 : wc.cell? ⟨w.heap.size, 0, none⟩ = some (.int .i64 4) := (block_cells _ _ _ _ _).trans rfl
  have x1 : wc.cell? ⟨w.heap.size, 1, none⟩ = some (.int .i64 nd) := (block_cells _ _ _ _ _).trans rfl
  have x2 : wc.cell? ⟨w.heap.size, 2, none⟩ = some (.int .i64 0) := (block_cells _ _ _ _ _).trans rfl
  have x3 : wc.cell? ⟨w.heap.size, 3, none⟩ = some (.int .i64 0) := (block_cells _ _ _ _ _).trans rfl
  have x4 : wc.cell? ⟨w.heap.size, 4, none⟩ = some (.int .u64 0) := (block_cells _ _ _ _ _).trans rfl
  have x5 : wc.cell? ⟨w.heap.size, 5, none⟩ = some (.int .u64 0) := (block_cells _ _ _ _ _).trans rfl
  have x6 : wc.cell? ⟨w.heap.size, 6, none⟩ = some (.int .i64 0) := (block_cells _ _ _ _ _).trans rfl
  have x7 : wc.cell? ⟨w.heap.size, 7, none⟩ = some (.int .i64 0) := (block_cells _ _ _ _ _).trans rfl
  have x8 : wc.cell? ⟨w.heap.size, 8, none⟩ = some (.int .i64 0) := (block_cells _ _ _ _ _).trans rfl
  have x9 : wc.cell? ⟨w.heap.size, 9, none⟩ = some (.slice OD 0 oq) := (block_cells _ _ _ _ _).trans rfl
  have x10 : wc.cell? ⟨w.heap.size, 10, none⟩ = some (.bool false) := (block_cells _ _ _ _ _).trans rfl
  have x11 : wc.cell? ⟨w.heap.size, 11, none⟩ = some (.slice P pn pq) := (block_cells _ _ _ _ _).trans rfl
  have HG := Lib.hid hg; clear hg
  haveI : Old w.heap.size wc := hblk.old
  haveI : GrC wc wc := inferInstance
  go_wp2_with ((go_at_call 47; ((with_reducible refine (HTd.out _).mono ?_); rintro _ _ ⟨rfl, g, rfl⟩)))
  go_loopw [4, 5] (fun v iv wr => ∃ j : Nat, iv = .int .i64 j ∧ j ≤ pn ∧ OwnS (w.heap.size + 1) wr v (pickT (px.take j)) ∧ Gr w wr ∧ wr.cell? ⟨w.heap.size, 11, none⟩ = some (.slice P pn pq) ∧ Tb wr) (fun _ iv _ => pn - (intOf iv).toNat)
  case atStart => exact ⟨0, rfl, Nat.zero_le _, OwnS.nil _ _, HG.out.trans gri, by go_simp, inferInstance⟩
  case round =>
   obtain ⟨j, rfl, hj, hown, hg, c11, htb9⟩ := hrel
   have HG2 := Lib.hid hg; clear hg
   haveI : Old w.heap.size wr := old_of_cell c11
   haveI : GrC w wr := ⟨HG2.out.below⟩
   have hsz9 : w.heap.size + 1 ≤ wr.heap.size := (inferInstance : Old w.heap.size wr).lt
   by_cases hlt : j < pn
   ·have hjx : j < px.length := by have := HPL.out; omega
    obtain ⟨bx, ox, rfl, hbx, hcx⟩ := (HPR.out.gr HG2.out).at_ (by rintro rfl; simp at hjx)
    have hgj := List.getElem?_eq_getElem hjx
    have ex := hcx j px[j] hgj
    have hu := HPK.out px[j] (List.getElem_mem hjx)
    haveI : Old bx wr := ⟨hbx⟩
    have hjl : (j : Int) < (pn : Int) := by omega
    clear hcx hbx
    generalize px[j] = u at *
    obtain ⟨n, rfl⟩ := Int.eq_ofNat_of_zero_le hu.1
    have hsn := pickT_snoc px j (n : Int) hgj
    rw [Lib.itoa_nonneg] at hsn
    have HSN := Lib.hid hsn; clear hsn hgj
    have HTp := Lib.hid (fun W => text26_any n (by omega) W)
    have hpl9 : (pickT (px.take j)).length ≤ 1000 := by simp [pickT]; omega
    have HP9 := Lib.hid hpl9; have HOW := Lib.hid hown; clear hpl9 hown hu
    go_wp2_with (first | (go_at_call 47; ((with_reducible refine (HTp.out _).mono ?_); rintro _ _ ⟨rfl, g3, rfl⟩)) | (at_builtin; refine wp_append_str rfl _ _ rfl (w.heap.size + 1) ?vvp (pickT (px.take j)) ?hsp ?ownp _ ⟨(Lib.decDigits n).toArray⟩ rfl ?hcp HP9.out ?hbp ?_))
    case hsp => rfl
    case ownp => exact ((HOW.out.grown_ _).alloc_ _)
    case hcp => simp [go_sem]
    case hbp => exact Nat.le_trans hsz9 (gri (a := wr)).below.size
    intro v5 w5 a5
    have h5 := a5.own
    rw [← HSN.out] at h5
    have c5 : w5.cell? ⟨w.heap.size, 11, none⟩ = some (.slice (some ⟨bx, ox, none⟩) pn pq) := a5.cell (Nat.lt_succ_self _) (by go_simp)
    have hb5 : Below w.heap.size w w5 := a5.chain (a := w) (gri (a := w)).below (Nat.le_succ _)
    haveI : Tb w5 := hk.of_below hb5
    have H5 := Lib.hid h5; have HB5 := Lib.hid hb5
    clear a5 h5 hb5
    go_wp2
    go_roundw
    case rel => exact ⟨j + 1, by go_num, by omega, H5.out, Gr.of HB5.out, c5, inferInstance⟩
    case measure => simp [intOf]; omega
   ·obtain rfl : j = pn := by omega
    have htk : px.take j = px := List.take_of_length_le (by have := HPL.out; omega)
    rw [htk] at hown
    obtain ⟨Al, cl, rfl, hcl, hrl⟩ := hown.form
    have HRL := Lib.hid hrl; clear hrl hown htk
    have hpl9 : (pickT px).length ≤ 1000000 := by have := HPL.out; simp [pickT]; omega
    have HRW := Lib.hid (fun W (hW : GrC wr W) => rrow_any Al (pickT px).length cl (pickT px) W rfl hcl hpl9 (by have := HLJ.out; omega) (HRL.out.gr (Gr.of hW.b)))
    clear hcl hpl9
    generalize hS : (⟨(rowL (pickT px)).toArray⟩ : ByteArray) = SS at *
    have hss : SS.size ≤ 2000000 := by
     rw [← hS]
     have h9 : (⟨(rowL (pickT px)).toArray⟩ : ByteArray).size = (rowL (pickT px)).length := by simp [ByteArray.size]
     omega
    have HSS := Lib.hid hS; clear hS
    generalize (pickT px).length = nl at *
    go_wp2_with ((go_at_call 63; ((with_reducible refine (HRW.out _ inferInstance).mono ?_); rintro _ _ ⟨rfl, g7, rfl⟩)))
    go_ret
    have e : actPieces 4 nd 0 0 0 0 0 0 0 false [] px = [⟨#[111, 102, 102]⟩, ⟨(Lib.itoa (nd : Int)).toArray⟩, ⟨(rowL (pickT px)).toArray⟩] := rfl
    have E : (⟨#[111, 102, 102]⟩ ++ (⟨#[32]⟩ : ByteArray) ++ ⟨(Lib.decDigits nd).toArray⟩ ++ (⟨#[32]⟩ : ByteArray) ++ SS : ByteArray) = ⟨(actTextL 4 nd 0 0 0 0 0 0 0 false [] px).toArray⟩ := by
     rw [← HSS.out]
     apply ByteArray.ext
     rw [actTextL, e]
     simp [join_two, join_one, Lib.itoa_nonneg]
    exact ⟨congrArg (fun z => Ending.returned (Value.string z)) E, gri⟩
set_option maxRecDepth 100000 in
set_option maxHeartbeats 8000000 in
theorem ractText_5 (nd : Nat) (pn : Nat) (px : List Int) (OD P : Option Addr) (oq pq : Nat) (w : World) [hk : Tb w] (hnd : nd ≤ 1) (hpl : px.length = pn) (hpn : pn ≤ 100) (hpk : ∀ n ∈ px, 0 ≤ n ∧ n ≤ 1000000) (hpr : Row (Value.int .i64) w P px) :
  Calls Tryz.prog 24 #[.agg #[.int .i64 5, .int .i64 nd, .int .i64 0, .int .i64 0, .int .u64 0, .int .u64 0, .int .i64 0, .int .i64 0, .int .i64 0, .slice OD 0 oq, .bool false, .slice P pn pq]] w fun e w' => e = .returned (.string ⟨(actTextL 5 nd 0 0 0 0 0 0 0 false [] px).toArray⟩) ∧ Gr w w' := by
 have HTd := Lib.hid (fun W => text26_any nd (by omega) W)
 have ld := dec_len nd (by omega)
 have hPk : Pk px := ⟨fun n hn => by have := hpk n hn; omega, fun n hn => by have := hpk n hn; omega⟩
 have lp := hPk.row (by omega)
 have lj := hPk.join (by omega)
 have HPK := Lib.hid hpk; have HPR := Lib.hid hpr; have HPL := Lib.hid hpl; have HLJ := Lib.hid lj; clear hpk hpr hpl lj hPk
 go_enter Tryz.func24, Tryz.ntmps24
 go_upto_region 1 with fail
 go_cut [3] (fun u wx => u = .string ⟨#[111, 110]⟩ ∧ Gr w wx ∧ Tb wx ∧ BlockAt wx w.heap.size #[.int .i64 5, .int .i64 nd, .int .i64 0, .int .i64 0, .int .u64 0, .int .u64 0, .int .i64 0, .int .i64 0, .int .i64 0, .slice OD 0 oq, .bool false, .slice P pn pq] 42)
 case first =>
  go_region_with ((go_at_call 58; refine (acts_any _).mono ?_; rintro e w' ⟨rfl, rfl⟩))
  all_goals
   go_wp2_with fail
   go_meet
   case rel => exact ⟨rfl, gri, inferInstance, inferInstance⟩
 case rest =>
  obtain ⟨rfl, hg, htb, hblk⟩ := hcut
  have x0 : wc.cell? ⟨w.heap.size, 0, none⟩ = some (.int .i64 5) := (block_cells _ _ _ _ _).trans rfl
  have x1 : wc.cell? ⟨w.heap.size, 1, none⟩ = some (.int .i64 nd) := (block_cells _ _ _ _ _).trans rfl
  have x2 : wc.cell? ⟨w.heap.size, 2, none⟩ = some (.int .i64 0) := (block_cells _ _ _ _ _).trans rfl
  have x3 : wc.cell? ⟨w.heap.size, 3, none⟩ = some (.int .i64 0) := (block_cells _ _ _ _ _).trans rfl
  have x4 : wc.cell? ⟨w.heap.size, 4, none⟩ = some (.int .u64 0) := (block_cells _ _ _ _ _).trans rfl
  have x5 : wc.cell? ⟨w.heap.size, 5, none⟩ = some (.int .u64 0) := (block_cells _ _ _ _ _).trans rfl
  have x6 : wc.cell? ⟨w.heap.size, 6, none⟩ = some (.int .i64 0) := (block_cells _ _ _ _ _).trans rfl
  have x7 : wc.cell? ⟨w.heap.size, 7, none⟩ = some (.int .i64 0) := (block_cells _ _ _ _ _).trans rfl
  have x8 : wc.cell? ⟨w.heap.size, 8, none⟩ = some (.int .i64 0) := (block_cells _ _ _ _ _).trans rfl
  have x9 : wc.cell? ⟨w.heap.size, 9, none⟩ = some (.slice OD 0 oq) := (block_cells _ _ _ _ _).trans rfl
  have x10 : wc.cell? ⟨w.heap.size, 10, none⟩ = some (.bool false) := (block_cells _ _ _ _ _).trans rfl
  have x11 : wc.cell? ⟨w.heap.size, 11, none⟩ = some (.slice P pn pq) := (block_cells _ _ _ _ _).trans rfl
  have HG := Lib.hid hg; clear hg
  haveI : Old w.heap.size wc := hblk.old
  haveI : GrC wc wc := inferInstance
  go_wp2_with ((go_at_call 47; ((with_reducible refine (HTd.out _).mono ?_); rintro _ _ ⟨rfl, g, rfl⟩)))
  go_loopw [4, 5] (fun v iv wr => ∃ j : Nat, iv = .int .i64 j ∧ j ≤ pn ∧ OwnS (w.heap.size + 1) wr v (pickT (px.take j)) ∧ Gr w wr ∧ wr.cell? ⟨w.heap.size, 11, none⟩ = some (.slice P pn pq) ∧ Tb wr) (fun _ iv _ => pn - (intOf iv).toNat)
  case atStart => exact ⟨0, rfl, Nat.zero_le _, OwnS.nil _ _, HG.out.trans gri, by go_simp, inferInstance⟩
  case round =>
   obtain ⟨j, rfl, hj, hown, hg, c11, htb9⟩ := hrel
   have HG2 := Lib.hid hg; clear hg
   haveI : Old w.heap.size wr := old_of_cell c11
   haveI : GrC w wr := ⟨HG2.out.below⟩
   have hsz9 : w.heap.size + 1 ≤ wr.heap.size := (inferInstance : Old w.heap.size wr).lt
   by_cases hlt : j < pn
   ·have hjx : j < px.length := by have := HPL.out; omega
    obtain ⟨bx, ox, rfl, hbx, hcx⟩ := (HPR.out.gr HG2.out).at_ (by rintro rfl; simp at hjx)
    have hgj := List.getElem?_eq_getElem hjx
    have ex := hcx j px[j] hgj
    have hu := HPK.out px[j] (List.getElem_mem hjx)
    haveI : Old bx wr := ⟨hbx⟩
    have hjl : (j : Int) < (pn : Int) := by omega
    clear hcx hbx
    generalize px[j] = u at *
    obtain ⟨n, rfl⟩ := Int.eq_ofNat_of_zero_le hu.1
    have hsn := pickT_snoc px j (n : Int) hgj
    rw [Lib.itoa_nonneg] at hsn
    have HSN := Lib.hid hsn; clear hsn hgj
    have HTp := Lib.hid (fun W => text26_any n (by omega) W)
    have hpl9 : (pickT (px.take j)).length ≤ 1000 := by simp [pickT]; omega
    have HP9 := Lib.hid hpl9; have HOW := Lib.hid hown; clear hpl9 hown hu
    go_wp2_with (first | (go_at_call 47; ((with_reducible refine (HTp.out _).mono ?_); rintro _ _ ⟨rfl, g3, rfl⟩)) | (at_builtin; refine wp_append_str rfl _ _ rfl (w.heap.size + 1) ?vvp (pickT (px.take j)) ?hsp ?ownp _ ⟨(Lib.decDigits n).toArray⟩ rfl ?hcp HP9.out ?hbp ?_))
    case hsp => rfl
    case ownp => exact ((HOW.out.grown_ _).alloc_ _)
    case hcp => simp [go_sem]
    case hbp => exact Nat.le_trans hsz9 (gri (a := wr)).below.size
    intro v5 w5 a5
    have h5 := a5.own
    rw [← HSN.out] at h5
    have c5 : w5.cell? ⟨w.heap.size, 11, none⟩ = some (.slice (some ⟨bx, ox, none⟩) pn pq) := a5.cell (Nat.lt_succ_self _) (by go_simp)
    have hb5 : Below w.heap.size w w5 := a5.chain (a := w) (gri (a := w)).below (Nat.le_succ _)
    haveI : Tb w5 := hk.of_below hb5
    have H5 := Lib.hid h5; have HB5 := Lib.hid hb5
    clear a5 h5 hb5
    go_wp2
    go_roundw
    case rel => exact ⟨j + 1, by go_num, by omega, H5.out, Gr.of HB5.out, c5, inferInstance⟩
    case measure => simp [intOf]; omega
   ·obtain rfl : j = pn := by omega
    have htk : px.take j = px := List.take_of_length_le (by have := HPL.out; omega)
    rw [htk] at hown
    obtain ⟨Al, cl, rfl, hcl, hrl⟩ := hown.form
    have HRL := Lib.hid hrl; clear hrl hown htk
    have hpl9 : (pickT px).length ≤ 1000000 := by have := HPL.out; simp [pickT]; omega
    have HRW := Lib.hid (fun W (hW : GrC wr W) => rrow_any Al (pickT px).length cl (pickT px) W rfl hcl hpl9 (by have := HLJ.out; omega) (HRL.out.gr (Gr.of hW.b)))
    clear hcl hpl9
    generalize hS : (⟨(rowL (pickT px)).toArray⟩ : ByteArray) = SS at *
    have hss : SS.size ≤ 2000000 := by
     rw [← hS]
     have h9 : (⟨(rowL (pickT px)).toArray⟩ : ByteArray).size = (rowL (pickT px)).length := by simp [ByteArray.size]
     omega
    have HSS := Lib.hid hS; clear hS
    generalize (pickT px).length = nl at *
    go_wp2_with ((go_at_call 63; ((with_reducible refine (HRW.out _ inferInstance).mono ?_); rintro _ _ ⟨rfl, g7, rfl⟩)))
    go_ret
    have e : actPieces 5 nd 0 0 0 0 0 0 0 false [] px = [⟨#[111, 110]⟩, ⟨(Lib.itoa (nd : Int)).toArray⟩, ⟨(rowL (pickT px)).toArray⟩] := rfl
    have E : (⟨#[111, 110]⟩ ++ (⟨#[32]⟩ : ByteArray) ++ ⟨(Lib.decDigits nd).toArray⟩ ++ (⟨#[32]⟩ : ByteArray) ++ SS : ByteArray) = ⟨(actTextL 5 nd 0 0 0 0 0 0 0 false [] px).toArray⟩ := by
     rw [← HSS.out]
     apply ByteArray.ext
     rw [actTextL, e]
     simp [join_two, join_one, Lib.itoa_nonneg]
    exact ⟨congrArg (fun z => Ending.returned (Value.string z)) E, gri⟩
set_option maxRecDepth 100000 in
set_option maxHeartbeats 8000000 in
theorem ractText_6 (nd m : Nat) (OD P : Option Addr) (oq pq : Nat) (w : World) [hk : Tb w] (hnd : nd ≤ 1) (hmm : m ≤ 1000000) :
  Calls Tryz.prog 24 #[.agg #[.int .i64 6, .int .i64 nd, .int .i64 m, .int .i64 0, .int .u64 0, .int .u64 0, .int .i64 0, .int .i64 0, .int .i64 0, .slice OD 0 oq, .bool false, .slice P 0 pq]] w fun e w' => e = .returned (.string ⟨(actTextL 6 nd m 0 0 0 0 0 0 false [] []).toArray⟩) ∧ Gr w w' := by
 have HTd := Lib.hid (fun W => text26_any nd (by omega) W)
 have ld := dec_len nd (by omega)
 have HTn := Lib.hid (fun W => text26_any m (by omega) W)
 have ln := dec_len m (by omega)
 go_enter Tryz.func24, Tryz.ntmps24
 go_upto_region 1 with fail
 go_cut [3] (fun u wx => u = .string ⟨#[102, 117, 115, 101]⟩ ∧ Gr w wx ∧ Tb wx ∧ BlockAt wx w.heap.size #[.int .i64 6, .int .i64 nd, .int .i64 m, .int .i64 0, .int .u64 0, .int .u64 0, .int .i64 0, .int .i64 0, .int .i64 0, .slice OD 0 oq, .bool false, .slice P 0 pq] 42)
 case first =>
  go_region_with ((go_at_call 58; refine (acts_any _).mono ?_; rintro e w' ⟨rfl, rfl⟩))
  all_goals
   go_wp2_with fail
   go_meet
   case rel => exact ⟨rfl, gri, inferInstance, inferInstance⟩
 case rest =>
  obtain ⟨rfl, hg, htb, hblk⟩ := hcut
  have x0 : wc.cell? ⟨w.heap.size, 0, none⟩ = some (.int .i64 6) := (block_cells _ _ _ _ _).trans rfl
  have x1 : wc.cell? ⟨w.heap.size, 1, none⟩ = some (.int .i64 nd) := (block_cells _ _ _ _ _).trans rfl
  have x2 : wc.cell? ⟨w.heap.size, 2, none⟩ = some (.int .i64 m) := (block_cells _ _ _ _ _).trans rfl
  have x3 : wc.cell? ⟨w.heap.size, 3, none⟩ = some (.int .i64 0) := (block_cells _ _ _ _ _).trans rfl
  have x4 : wc.cell? ⟨w.heap.size, 4, none⟩ = some (.int .u64 0) := (block_cells _ _ _ _ _).trans rfl
  have x5 : wc.cell? ⟨w.heap.size, 5, none⟩ = some (.int .u64 0) := (block_cells _ _ _ _ _).trans rfl
  have x6 : wc.cell? ⟨w.heap.size, 6, none⟩ = some (.int .i64 0) := (block_cells _ _ _ _ _).trans rfl
  have x7 : wc.cell? ⟨w.heap.size, 7, none⟩ = some (.int .i64 0) := (block_cells _ _ _ _ _).trans rfl
  have x8 : wc.cell? ⟨w.heap.size, 8, none⟩ = some (.int .i64 0) := (block_cells _ _ _ _ _).trans rfl
  have x9 : wc.cell? ⟨w.heap.size, 9, none⟩ = some (.slice OD 0 oq) := (block_cells _ _ _ _ _).trans rfl
  have x10 : wc.cell? ⟨w.heap.size, 10, none⟩ = some (.bool false) := (block_cells _ _ _ _ _).trans rfl
  have x11 : wc.cell? ⟨w.heap.size, 11, none⟩ = some (.slice P 0 pq) := (block_cells _ _ _ _ _).trans rfl
  have HG := Lib.hid hg; clear hg
  haveI : Old w.heap.size wc := hblk.old
  haveI : GrC wc wc := inferInstance
  go_wp2_with (((first | (go_at_call 47; with_reducible refine (HTd.out _).mono ?_) | (go_at_call 47; with_reducible refine (HTn.out _).mono ?_)); rintro _ _ ⟨rfl, g, rfl⟩))
  go_ret
  have e : actPieces 6 nd m 0 0 0 0 0 0 false [] [] = [⟨#[102, 117, 115, 101]⟩, ⟨(Lib.itoa (nd : Int)).toArray⟩, ⟨(Lib.itoa (m : Int)).toArray⟩] := rfl
  have E : (⟨#[102, 117, 115, 101]⟩ ++ (⟨#[32]⟩ : ByteArray) ++ ⟨(Lib.decDigits nd).toArray⟩ ++ (⟨#[32]⟩ : ByteArray) ++ ⟨(Lib.decDigits m).toArray⟩ : ByteArray) = ⟨(actTextL 6 nd m 0 0 0 0 0 0 false [] []).toArray⟩ := by
   skip
   apply ByteArray.ext
   rw [actTextL, e]
   simp [join_two, join_one, Lib.itoa_nonneg]
  exact ⟨congrArg (fun z => Ending.returned (Value.string z)) E, HG.out.trans gri⟩
set_option maxRecDepth 100000 in
set_option maxHeartbeats 8000000 in
theorem ractText_7 (nd : Nat) (OD P : Option Addr) (oq pq : Nat) (w : World) [hk : Tb w] (hnd : nd ≤ 1) :
  Calls Tryz.prog 24 #[.agg #[.int .i64 7, .int .i64 nd, .int .i64 0, .int .i64 0, .int .u64 0, .int .u64 0, .int .i64 0, .int .i64 0, .int .i64 0, .slice OD 0 oq, .bool false, .slice P 0 pq]] w fun e w' => e = .returned (.string ⟨(actTextL 7 nd 0 0 0 0 0 0 0 false [] []).toArray⟩) ∧ Gr w w' := by
 have HTd := Lib.hid (fun W => text26_any nd (by omega) W)
 have ld := dec_len nd (by omega)
 go_enter Tryz.func24, Tryz.ntmps24
 go_upto_region 1 with fail
 go_cut [3] (fun u wx => u = .string ⟨#[108, 101, 97, 100]⟩ ∧ Gr w wx ∧ Tb wx ∧ BlockAt wx w.heap.size #[.int .i64 7, .int .i64 nd, .int .i64 0, .int .i64 0, .int .u64 0, .int .u64 0, .int .i64 0, .int .i64 0, .int .i64 0, .slice OD 0 oq, .bool false, .slice P 0 pq] 42)
 case first =>
  go_region_with ((go_at_call 58; refine (acts_any _).mono ?_; rintro e w' ⟨rfl, rfl⟩))
  all_goals
   go_wp2_with fail
   go_meet
   case rel => exact ⟨rfl, gri, inferInstance, inferInstance⟩
 case rest =>
  obtain ⟨rfl, hg, htb, hblk⟩ := hcut
  have x0 : wc.cell? ⟨w.heap.size, 0, none⟩ = some (.int .i64 7) := (block_cells _ _ _ _ _).trans rfl
  have x1 : wc.cell? ⟨w.heap.size, 1, none⟩ = some (.int .i64 nd) := (block_cells _ _ _ _ _).trans rfl
  have x2 : wc.cell? ⟨w.heap.size, 2, none⟩ = some (.int .i64 0) := (block_cells _ _ _ _ _).trans rfl
  have x3 : wc.cell? ⟨w.heap.size, 3, none⟩ = some (.int .i64 0) := (block_cells _ _ _ _ _).trans rfl
  have x4 : wc.cell? ⟨w.heap.size, 4, none⟩ = some (.int .u64 0) := (block_cells _ _ _ _ _).trans rfl
  have x5 : wc.cell? ⟨w.heap.size, 5, none⟩ = some (.int .u64 0) := (block_cells _ _ _ _ _).trans rfl
  have x6 : wc.cell? ⟨w.heap.size, 6, none⟩ = some (.int .i64 0) := (block_cells _ _ _ _ _).trans rfl
  have x7 : wc.cell? ⟨w.heap.size, 7, none⟩ = some (.int .i64 0) := (block_cells _ _ _ _ _).trans rfl
  have x8 : wc.cell? ⟨w.heap.size, 8, none⟩ = some (.int .i64 0) := (block_cells _ _ _ _ _).trans rfl
  have x9 : wc.cell? ⟨w.heap.size, 9, none⟩ = some (.slice OD 0 oq) := (block_cells _ _ _ _ _).trans rfl
  have x10 : wc.cell? ⟨w.heap.size, 10, none⟩ = some (.bool false) := (block_cells _ _ _ _ _).trans rfl
  have x11 : wc.cell? ⟨w.heap.size, 11, none⟩ = some (.slice P 0 pq) := (block_cells _ _ _ _ _).trans rfl
  have HG := Lib.hid hg; clear hg
  haveI : Old w.heap.size wc := hblk.old
  haveI : GrC wc wc := inferInstance
  go_wp2_with ((go_at_call 47; ((with_reducible refine (HTd.out _).mono ?_); rintro _ _ ⟨rfl, g, rfl⟩)))
  go_ret
  have e : actPieces 7 nd 0 0 0 0 0 0 0 false [] [] = [⟨#[108, 101, 97, 100]⟩, ⟨(Lib.itoa (nd : Int)).toArray⟩] := rfl
  have E : (⟨#[108, 101, 97, 100]⟩ ++ (⟨#[32]⟩ : ByteArray) ++ ⟨(Lib.decDigits nd).toArray⟩ : ByteArray) = ⟨(actTextL 7 nd 0 0 0 0 0 0 0 false [] []).toArray⟩ := by
   skip
   apply ByteArray.ext
   rw [actTextL, e]
   simp [join_two, join_one, Lib.itoa_nonneg]
  exact ⟨congrArg (fun z => Ending.returned (Value.string z)) E, HG.out.trans gri⟩
set_option maxRecDepth 100000 in
set_option maxHeartbeats 8000000 in
theorem ractText_17 (nd : Nat) (OD P : Option Addr) (oq pq : Nat) (w : World) [hk : Tb w] (hnd : nd ≤ 1) :
  Calls Tryz.prog 24 #[.agg #[.int .i64 7, .int .i64 nd, .int .i64 0, .int .i64 0, .int .u64 0, .int .u64 0, .int .i64 0, .int .i64 0, .int .i64 0, .slice OD 0 oq, .bool true, .slice P 0 pq]] w fun e w' => e = .returned (.string ⟨(actTextL 7 nd 0 0 0 0 0 0 0 true [] []).toArray⟩) ∧ Gr w w' := by
 have HTd := Lib.hid (fun W => text26_any nd (by omega) W)
 have ld := dec_len nd (by omega)
 go_enter Tryz.func24, Tryz.ntmps24
 go_upto_region 1 with fail
 go_cut [3] (fun u wx => u = .string ⟨#[108, 101, 97, 100]⟩ ∧ Gr w wx ∧ Tb wx ∧ BlockAt wx w.heap.size #[.int .i64 7, .int .i64 nd, .int .i64 0, .int .i64 0, .int .u64 0, .int .u64 0, .int .i64 0, .int .i64 0, .int .i64 0, .slice OD 0 oq, .bool true, .slice P 0 pq] 42)
 case first =>
  go_region_with ((go_at_call 58; refine (acts_any _).mono ?_; rintro e w' ⟨rfl, rfl⟩))
  all_goals
   go_wp2_with fail
   go_meet
   case rel => exact ⟨rfl, gri, inferInstance, inferInstance⟩
 case rest =>
  obtain ⟨rfl, hg, htb, hblk⟩ := hcut
  have x0 : wc.cell? ⟨w.heap.size, 0, none⟩ = some (.int .i64 7) := (block_cells _ _ _ _ _).trans rfl
  have x1 : wc.cell? ⟨w.heap.size, 1, none⟩ = some (.int .i64 nd) := (block_cells _ _ _ _ _).trans rfl
  have x2 : wc.cell? ⟨w.heap.size, 2, none⟩ = some (.int .i64 0) := (block_cells _ _ _ _ _).trans rfl
  have x3 : wc.cell? ⟨w.heap.size, 3, none⟩ = some (.int .i64 0) := (block_cells _ _ _ _ _).trans rfl
  have x4 : wc.cell? ⟨w.heap.size, 4, none⟩ = some (.int .u64 0) := (block_cells _ _ _ _ _).trans rfl
  have x5 : wc.cell? ⟨w.heap.size, 5, none⟩ = some (.int .u64 0) := (block_cells _ _ _ _ _).trans rfl
  have x6 : wc.cell? ⟨w.heap.size, 6, none⟩ = some (.int .i64 0) := (block_cells _ _ _ _ _).trans rfl
  have x7 : wc.cell? ⟨w.heap.size, 7, none⟩ = some (.int .i64 0) := (block_cells _ _ _ _ _).trans rfl
  have x8 : wc.cell? ⟨w.heap.size, 8, none⟩ = some (.int .i64 0) := (block_cells _ _ _ _ _).trans rfl
  have x9 : wc.cell? ⟨w.heap.size, 9, none⟩ = some (.slice OD 0 oq) := (block_cells _ _ _ _ _).trans rfl
  have x10 : wc.cell? ⟨w.heap.size, 10, none⟩ = some (.bool true) := (block_cells _ _ _ _ _).trans rfl
  have x11 : wc.cell? ⟨w.heap.size, 11, none⟩ = some (.slice P 0 pq) := (block_cells _ _ _ _ _).trans rfl
  have HG := Lib.hid hg; clear hg
  haveI : Old w.heap.size wc := hblk.old
  haveI : GrC wc wc := inferInstance
  go_wp2_with ((go_at_call 47; ((with_reducible refine (HTd.out _).mono ?_); rintro _ _ ⟨rfl, g, rfl⟩)))
  go_ret
  have e : actPieces 7 nd 0 0 0 0 0 0 0 true [] [] = [⟨#[102, 111, 114, 99, 101]⟩, ⟨(Lib.itoa (nd : Int)).toArray⟩] := rfl
  have E : (⟨#[102, 111, 114, 99, 101]⟩ ++ (⟨#[32]⟩ : ByteArray) ++ ⟨(Lib.decDigits nd).toArray⟩ : ByteArray) = ⟨(actTextL 7 nd 0 0 0 0 0 0 0 true [] []).toArray⟩ := by
   skip
   apply ByteArray.ext
   rw [actTextL, e]
   simp [join_two, join_one, Lib.itoa_nonneg]
  exact ⟨congrArg (fun z => Ending.returned (Value.string z)) E, HG.out.trans gri⟩
set_option maxRecDepth 100000 in
set_option maxHeartbeats 8000000 in
theorem ractText_8 (nd : Nat) (OD P : Option Addr) (oq pq : Nat) (w : World) [hk : Tb w] (hnd : nd ≤ 1) :
  Calls Tryz.prog 24 #[.agg #[.int .i64 8, .int .i64 nd, .int .i64 0, .int .i64 0, .int .u64 0, .int .u64 0, .int .i64 0, .int .i64 0, .int .i64 0, .slice OD 0 oq, .bool false, .slice P 0 pq]] w fun e w' => e = .returned (.string ⟨(actTextL 8 nd 0 0 0 0 0 0 0 false [] []).toArray⟩) ∧ Gr w w' := by
 have HTd := Lib.hid (fun W => text26_any nd (by omega) W)
 have ld := dec_len nd (by omega)
 go_enter Tryz.func24, Tryz.ntmps24
 go_upto_region 1 with fail
 go_cut [3] (fun u wx => u = .string ⟨#[100, 101, 103, 114, 97, 100, 101]⟩ ∧ Gr w wx ∧ Tb wx ∧ BlockAt wx w.heap.size #[.int .i64 8, .int .i64 nd, .int .i64 0, .int .i64 0, .int .u64 0, .int .u64 0, .int .i64 0, .int .i64 0, .int .i64 0, .slice OD 0 oq, .bool false, .slice P 0 pq] 42)
 case first =>
  go_region_with ((go_at_call 58; refine (acts_any _).mono ?_; rintro e w' ⟨rfl, rfl⟩))
  all_goals
   go_wp2_with fail
   go_meet
   case rel => exact ⟨rfl, gri, inferInstance, inferInstance⟩
 case rest =>
  obtain ⟨rfl, hg, htb, hblk⟩ := hcut
  have x0 : wc.cell? ⟨w.heap.size, 0, none⟩ = some (.int .i64 8) := (block_cells _ _ _ _ _).trans rfl
  have x1 : wc.cell? ⟨w.heap.size, 1, none⟩ = some (.int .i64 nd) := (block_cells _ _ _ _ _).trans rfl
  have x2 : wc.cell? ⟨w.heap.size, 2, none⟩ = some (.int .i64 0) := (block_cells _ _ _ _ _).trans rfl
  have x3 : wc.cell? ⟨w.heap.size, 3, none⟩ = some (.int .i64 0) := (block_cells _ _ _ _ _).trans rfl
  have x4 : wc.cell? ⟨w.heap.size, 4, none⟩ = some (.int .u64 0) := (block_cells _ _ _ _ _).trans rfl
  have x5 : wc.cell? ⟨w.heap.size, 5, none⟩ = some (.int .u64 0) := (block_cells _ _ _ _ _).trans rfl
  have x6 : wc.cell? ⟨w.heap.size, 6, none⟩ = some (.int .i64 0) := (block_cells _ _ _ _ _).trans rfl
  have x7 : wc.cell? ⟨w.heap.size, 7, none⟩ = some (.int .i64 0) := (block_cells _ _ _ _ _).trans rfl
  have x8 : wc.cell? ⟨w.heap.size, 8, none⟩ = some (.int .i64 0) := (block_cells _ _ _ _ _).trans rfl
  have x9 : wc.cell? ⟨w.heap.size, 9, none⟩ = some (.slice OD 0 oq) := (block_cells _ _ _ _ _).trans rfl
  have x10 : wc.cell? ⟨w.heap.size, 10, none⟩ = some (.bool false) := (block_cells _ _ _ _ _).trans rfl
  have x11 : wc.cell? ⟨w.heap.size, 11, none⟩ = some (.slice P 0 pq) := (block_cells _ _ _ _ _).trans rfl
  have HG := Lib.hid hg; clear hg
  haveI : Old w.heap.size wc := hblk.old
  haveI : GrC wc wc := inferInstance
  go_wp2_with ((go_at_call 47; ((with_reducible refine (HTd.out _).mono ?_); rintro _ _ ⟨rfl, g, rfl⟩)))
  go_ret
  have e : actPieces 8 nd 0 0 0 0 0 0 0 false [] [] = [⟨#[100, 101, 103, 114, 97, 100, 101]⟩, ⟨(Lib.itoa (nd : Int)).toArray⟩] := rfl
  have E : (⟨#[100, 101, 103, 114, 97, 100, 101]⟩ ++ (⟨#[32]⟩ : ByteArray) ++ ⟨(Lib.decDigits nd).toArray⟩ : ByteArray) = ⟨(actTextL 8 nd 0 0 0 0 0 0 0 false [] []).toArray⟩ := by
   skip
   apply ByteArray.ext
   rw [actTextL, e]
   simp [join_two, join_one, Lib.itoa_nonneg]
  exact ⟨congrArg (fun z => Ending.returned (Value.string z)) E, HG.out.trans gri⟩
set_option maxRecDepth 100000 in
set_option maxHeartbeats 8000000 in
theorem ractText_9 (nd m : Nat) (OD P : Option Addr) (oq pq : Nat) (w : World) [hk : Tb w] (hnd : nd ≤ 1) (hmm : m ≤ 1000000) :
  Calls Tryz.prog 24 #[.agg #[.int .i64 9, .int .i64 nd, .int .i64 m, .int .i64 0, .int .u64 0, .int .u64 0, .int .i64 0, .int .i64 0, .int .i64 0, .slice OD 0 oq, .bool false, .slice P 0 pq]] w fun e w' => e = .returned (.string ⟨(actTextL 9 nd m 0 0 0 0 0 0 false [] []).toArray⟩) ∧ Gr w w' := by
 have HTd := Lib.hid (fun W => text26_any nd (by omega) W)
 have ld := dec_len nd (by omega)
 have HTn := Lib.hid (fun W => text26_any m (by omega) W)
 have ln := dec_len m (by omega)
 go_enter Tryz.func24, Tryz.ntmps24
 go_upto_region 1 with fail
 go_cut [3] (fun u wx => u = .string ⟨#[103, 114, 111, 119]⟩ ∧ Gr w wx ∧ Tb wx ∧ BlockAt wx w.heap.size #[.int .i64 9, .int .i64 nd, .int .i64 m, .int .i64 0, .int .u64 0, .int .u64 0, .int .i64 0, .int .i64 0, .int .i64 0, .slice OD 0 oq, .bool false, .slice P 0 pq] 42)
 case first =>
  go_region_with ((go_at_call 58; refine (acts_any _).mono ?_; rintro e w' ⟨rfl, rfl⟩))
  all_goals
   go_wp2_with fail
   go_meet
   case rel => exact ⟨rfl, gri, inferInstance, inferInstance⟩
 case rest =>
  obtain ⟨rfl, hg, htb, hblk⟩ := hcut
  have x0 : wc.cell? ⟨w.heap.size, 0, none⟩ = some (.int .i64 9) := (block_cells _ _ _ _ _).trans rfl
  have x1 : wc.cell? ⟨w.heap.size, 1, none⟩ = some (.int .i64 nd) := (block_cells _ _ _ _ _).trans rfl
  have x2 : wc.cell? ⟨w.heap.size, 2, none⟩ = some (.int .i64 m) := (block_cells _ _ _ _ _).trans rfl
  have x3 : wc.cell? ⟨w.heap.size, 3, none⟩ = some (.int .i64 0) := (block_cells _ _ _ _ _).trans rfl
  have x4 : wc.cell? ⟨w.heap.size, 4, none⟩ = some (.int .u64 0) := (block_cells _ _ _ _ _).trans rfl
  have x5 : wc.cell? ⟨w.heap.size, 5, none⟩ = some (.int .u64 0) := (block_cells _ _ _ _ _).trans rfl
  have x6 : wc.cell? ⟨w.heap.size, 6, none⟩ = some (.int .i64 0) := (block_cells _ _ _ _ _).trans rfl
  have x7 : wc.cell? ⟨w.heap.size, 7, none⟩ = some (.int .i64 0) := (block_cells _ _ _ _ _).trans rfl
  have x8 : wc.cell? ⟨w.heap.size, 8, none⟩ = some (.int .i64 0) := (block_cells _ _ _ _ _).trans rfl
  have x9 : wc.cell? ⟨w.heap.size, 9, none⟩ = some (.slice OD 0 oq) := (block_cells _ _ _ _ _).trans rfl
  have x10 : wc.cell? ⟨w.heap.size, 10, none⟩ = some (.bool false) := (block_cells _ _ _ _ _).trans rfl
  have x11 : wc.cell? ⟨w.heap.size, 11, none⟩ = some (.slice P 0 pq) := (block_cells _ _ _ _ _).trans rfl
  have HG := Lib.hid hg; clear hg
  haveI : Old w.heap.size wc := hblk.old
  haveI : GrC wc wc := inferInstance
  go_wp2_with (((first | (go_at_call 47; with_reducible refine (HTd.out _).mono ?_) | (go_at_call 47; with_reducible refine (HTn.out _).mono ?_)); rintro _ _ ⟨rfl, g, rfl⟩))
  go_ret
  have e : actPieces 9 nd m 0 0 0 0 0 0 false [] [] = [⟨#[103, 114, 111, 119]⟩, ⟨(Lib.itoa (nd : Int)).toArray⟩, ⟨(Lib.itoa (m : Int)).toArray⟩] := rfl
  have E : (⟨#[103, 114, 111, 119]⟩ ++ (⟨#[32]⟩ : ByteArray) ++ ⟨(Lib.decDigits nd).toArray⟩ ++ (⟨#[32]⟩ : ByteArray) ++ ⟨(Lib.decDigits m).toArray⟩ : ByteArray) = ⟨(actTextL 9 nd m 0 0 0 0 0 0 false [] []).toArray⟩ := by
   skip
   apply ByteArray.ext
   rw [actTextL, e]
   simp [join_two, join_one, Lib.itoa_nonneg]
  exact ⟨congrArg (fun z => Ending.returned (Value.string z)) E, HG.out.trans gri⟩
set_option maxRecDepth 100000 in
set_option maxHeartbeats 8000000 in
theorem ractText_10 (OD P : Option Addr) (oq pq : Nat) (w : World) [hk : Tb w]  :
  Calls Tryz.prog 24 #[.agg #[.int .i64 10, .int .i64 0, .int .i64 0, .int .i64 0, .int .u64 0, .int .u64 0, .int .i64 0, .int .i64 0, .int .i64 0, .slice OD 0 oq, .bool false, .slice P 0 pq]] w fun e w' => e = .returned (.string ⟨(actTextL 10 0 0 0 0 0 0 0 0 false [] []).toArray⟩) ∧ Gr w w' := by
 go_enter Tryz.func24, Tryz.ntmps24
 go_upto_region 1 with fail
 go_cut [3] (fun u wx => u = .string ⟨#[97, 108, 108]⟩ ∧ Gr w wx ∧ Tb wx ∧ BlockAt wx w.heap.size #[.int .i64 10, .int .i64 0, .int .i64 0, .int .i64 0, .int .u64 0, .int .u64 0, .int .i64 0, .int .i64 0, .int .i64 0, .slice OD 0 oq, .bool false, .slice P 0 pq] 42)
 case first =>
  go_region_with ((go_at_call 58; refine (acts_any _).mono ?_; rintro e w' ⟨rfl, rfl⟩))
  all_goals
   go_wp2_with fail
   go_meet
   case rel => exact ⟨rfl, gri, inferInstance, inferInstance⟩
 case rest =>
  obtain ⟨rfl, hg, htb, hblk⟩ := hcut
  have x0 : wc.cell? ⟨w.heap.size, 0, none⟩ = some (.int .i64 10) := (block_cells _ _ _ _ _).trans rfl
  have x1 : wc.cell? ⟨w.heap.size, 1, none⟩ = some (.int .i64 0) := (block_cells _ _ _ _ _).trans rfl
  have x2 : wc.cell? ⟨w.heap.size, 2, none⟩ = some (.int .i64 0) := (block_cells _ _ _ _ _).trans rfl
  have x3 : wc.cell? ⟨w.heap.size, 3, none⟩ = some (.int .i64 0) := (block_cells _ _ _ _ _).trans rfl
  have x4 : wc.cell? ⟨w.heap.size, 4, none⟩ = some (.int .u64 0) := (block_cells _ _ _ _ _).trans rfl
  have x5 : wc.cell? ⟨w.heap.size, 5, none⟩ = some (.int .u64 0) := (block_cells _ _ _ _ _).trans rfl
  have x6 : wc.cell? ⟨w.heap.size, 6, none⟩ = some (.int .i64 0) := (block_cells _ _ _ _ _).trans rfl
  have x7 : wc.cell? ⟨w.heap.size, 7, none⟩ = some (.int .i64 0) := (block_cells _ _ _ _ _).trans rfl
  have x8 : wc.cell? ⟨w.heap.size, 8, none⟩ = some (.int .i64 0) := (block_cells _ _ _ _ _).trans rfl
  have x9 : wc.cell? ⟨w.heap.size, 9, none⟩ = some (.slice OD 0 oq) := (block_cells _ _ _ _ _).trans rfl
  have x10 : wc.cell? ⟨w.heap.size, 10, none⟩ = some (.bool false) := (block_cells _ _ _ _ _).trans rfl
  have x11 : wc.cell? ⟨w.heap.size, 11, none⟩ = some (.slice P 0 pq) := (block_cells _ _ _ _ _).trans rfl
  have HG := Lib.hid hg; clear hg
  haveI : Old w.heap.size wc := hblk.old
  haveI : GrC wc wc := inferInstance
  go_wp2
  go_ret
  have e : actPieces 10 0 0 0 0 0 0 0 0 false [] [] = [⟨#[97, 108, 108]⟩] := rfl
  have E : (⟨#[97, 108, 108]⟩ : ByteArray) = ⟨(actTextL 10 0 0 0 0 0 0 0 0 false [] []).toArray⟩ := by
   skip
   apply ByteArray.ext
   rw [actTextL, e]
   simp [join_two, join_one, Lib.itoa_nonneg]
  exact ⟨congrArg (fun z => Ending.returned (Value.string z)) E, HG.out.trans gri⟩
set_option maxHeartbeats 2000000 in
theorem ractText_any (k nd m ok ov ot os oa oc : Int) (f : Bool) (OD P : Option Addr) (on oq pn pq : Nat) (ol : List UInt8) (px : List Int) (w : World) [hk : Tb w] (hm : mayActB k nd m ok ov ot os oa oc f on pn ol px = true) (B : Bd ov ot os oa oc)
  (hol : ol.length = on) (hoq : on ≤ oq) (hor : Row bv w OD ol) (hpl : px.length = pn) (hpr : Row (Value.int .i64) w P px) :
  Calls Tryz.prog 24 #[.agg #[.int .i64 k, .int .i64 nd, .int .i64 m, .int .i64 ok, .int .u64 ov, .int .u64 ot, .int .i64 os, .int .i64 oa, .int .i64 oc, .slice OD on oq, .bool f, .slice P pn pq]] w fun e w' => e = .returned (.string ⟨(actTextL k nd m ok ov ot os oa oc f ol px).toArray⟩) ∧ Gr w w' := by
 by_cases hk9 : 1 ≤ k ∧ k ≤ 10
 ·have h3 : k = 1 ∨ k = 2 ∨ k = 3 ∨ k = 4 ∨ k = 5 ∨ k = 6 ∨ k = 7 ∨ k = 8 ∨ k = 9 ∨ k = 10 := by omega
  rcases h3 with rfl | rfl | rfl | rfl | rfl | rfl | rfl | rfl | rfl | rfl
  ·simp only [mayActB, if_true, reduceCtorEq, Int.reduceEq, if_false, Bool.and_eq_true, beq_iff_eq, nodeB, Bool.or_eq_true] at hm
   obtain rfl : f = false := by first | exact hm.1.2 | exact hm.2 | exact hm.1.1.2
   obtain rfl : px = [] := by first | exact hm.2 | exact hm.1.2
   obtain rfl : pn = 0 := by simpa using hpl.symm
   obtain ⟨nd, rfl⟩ := Int.eq_ofNat_of_zero_le (show 0 ≤ nd by omega)
   obtain rfl : m = 0 := by omega
   exact ractText_1 nd ok ov ot os oa oc on ol OD P oq pq w (by omega) B hm.1.1.1.2 hol hoq hor
  ·simp only [mayActB, if_true, reduceCtorEq, Int.reduceEq, if_false, Bool.and_eq_true, beq_iff_eq, nodeB, Bool.or_eq_true] at hm
   obtain ⟨rfl, rfl, rfl, rfl, rfl, rfl, rfl⟩ := same_zero (by first | exact hm.2.1 | exact hm.1.2 | exact hm.1.1.2 | exact hm.1.1.1.2 | exact hm.2)
   obtain rfl : on = 0 := by simpa using hol.symm
   obtain rfl : f = false := by first | exact hm.1.2 | exact hm.2 | exact hm.1.1.2
   obtain rfl : px = [] := by first | exact hm.2 | exact hm.1.2
   obtain rfl : pn = 0 := by simpa using hpl.symm
   obtain rfl : nd = 0 := by omega
   have hmn : mayN m = true := by first | exact hm.1.1.1.1 | exact hm.1.1.1.2 | exact hm.1.1.2
   simp only [mayN, Bool.and_eq_true, decide_eq_true_eq] at hmn
   obtain ⟨m, rfl⟩ := Int.eq_ofNat_of_zero_le hmn.1
   exact ractText_2 m OD P oq pq w (by omega)
  ·simp only [mayActB, if_true, reduceCtorEq, Int.reduceEq, if_false, Bool.and_eq_true, beq_iff_eq, nodeB, Bool.or_eq_true] at hm
   obtain ⟨rfl, rfl, rfl, rfl, rfl, rfl, rfl⟩ := same_zero (by first | exact hm.2.1 | exact hm.1.2 | exact hm.1.1.2 | exact hm.1.1.1.2 | exact hm.2)
   obtain rfl : on = 0 := by simpa using hol.symm
   obtain rfl : f = false := by first | exact hm.1.2 | exact hm.2 | exact hm.1.1.2
   obtain rfl : px = [] := by first | exact hm.2 | exact hm.1.2
   obtain rfl : pn = 0 := by simpa using hpl.symm
   obtain ⟨nd, rfl⟩ := Int.eq_ofNat_of_zero_le (show 0 ≤ nd by omega)
   obtain rfl : m = 0 := by omega
   exact ractText_3 nd OD P oq pq w (by omega)
  ·simp only [mayActB, if_true, reduceCtorEq, Int.reduceEq, if_false, Bool.and_eq_true, beq_iff_eq, nodeB, Bool.or_eq_true] at hm
   obtain ⟨rfl, rfl, rfl, rfl, rfl, rfl, rfl⟩ := same_zero (by first | exact hm.2.1 | exact hm.1.2 | exact hm.1.1.2 | exact hm.1.1.1.2 | exact hm.2)
   obtain rfl : on = 0 := by simpa using hol.symm
   obtain rfl : f = false := by first | exact hm.1.2 | exact hm.2 | exact hm.1.1.2
   obtain ⟨nd, rfl⟩ := Int.eq_ofNat_of_zero_le (show 0 ≤ nd by omega)
   obtain rfl : m = 0 := by omega
   have hpp := picks_ok (show picksB pn px = true by first | exact hm.1.1.1.2 | exact hm.1.1.2)
   exact ractText_4 nd pn px OD P oq pq w (by omega) hpl hpp.1 hpp.2 hpr
  ·simp only [mayActB, if_true, reduceCtorEq, Int.reduceEq, if_false, Bool.and_eq_true, beq_iff_eq, nodeB, Bool.or_eq_true] at hm
   obtain ⟨rfl, rfl, rfl, rfl, rfl, rfl, rfl⟩ := same_zero (by first | exact hm.2.1 | exact hm.1.2 | exact hm.1.1.2 | exact hm.1.1.1.2 | exact hm.2)
   obtain rfl : on = 0 := by simpa using hol.symm
   obtain rfl : f = false := by first | exact hm.1.2 | exact hm.2 | exact hm.1.1.2
   obtain ⟨nd, rfl⟩ := Int.eq_ofNat_of_zero_le (show 0 ≤ nd by omega)
   obtain rfl : m = 0 := by omega
   have hpp := picks_ok (show picksB pn px = true by first | exact hm.1.1.1.2 | exact hm.1.1.2)
   exact ractText_5 nd pn px OD P oq pq w (by omega) hpl hpp.1 hpp.2 hpr
  ·simp only [mayActB, if_true, reduceCtorEq, Int.reduceEq, if_false, Bool.and_eq_true, beq_iff_eq, nodeB, Bool.or_eq_true] at hm
   obtain ⟨rfl, rfl, rfl, rfl, rfl, rfl, rfl⟩ := same_zero (by first | exact hm.2.1 | exact hm.1.2 | exact hm.1.1.2 | exact hm.1.1.1.2 | exact hm.2)
   obtain rfl : on = 0 := by simpa using hol.symm
   obtain rfl : f = false := by first | exact hm.1.2 | exact hm.2 | exact hm.1.1.2
   obtain rfl : px = [] := by first | exact hm.2 | exact hm.1.2
   obtain rfl : pn = 0 := by simpa using hpl.symm
   obtain ⟨nd, rfl⟩ := Int.eq_ofNat_of_zero_le (show 0 ≤ nd by omega)
   have hmn : mayN m = true := by first | exact hm.1.1.1.1 | exact hm.1.1.1.2 | exact hm.1.1.2
   simp only [mayN, Bool.and_eq_true, decide_eq_true_eq] at hmn
   obtain ⟨m, rfl⟩ := Int.eq_ofNat_of_zero_le hmn.1
   exact ractText_6 nd m OD P oq pq w (by omega) (by omega)
  ·simp only [mayActB, if_true, reduceCtorEq, Int.reduceEq, if_false, Bool.and_eq_true, beq_iff_eq, nodeB, Bool.or_eq_true] at hm
   obtain ⟨rfl, rfl, rfl, rfl, rfl, rfl, rfl⟩ := same_zero (by first | exact hm.2.1 | exact hm.1.2 | exact hm.1.1.2 | exact hm.1.1.1.2 | exact hm.2)
   obtain rfl : on = 0 := by simpa using hol.symm
   obtain rfl : px = [] := by first | exact hm.2 | exact hm.1.2
   obtain rfl : pn = 0 := by simpa using hpl.symm
   obtain ⟨nd, rfl⟩ := Int.eq_ofNat_of_zero_le (show 0 ≤ nd by omega)
   obtain rfl : m = 0 := by omega
   cases f
   ·exact ractText_7 nd OD P oq pq w (by omega)
   ·exact ractText_17 nd OD P oq pq w (by omega)
  ·simp only [mayActB, if_true, reduceCtorEq, Int.reduceEq, if_false, Bool.and_eq_true, beq_iff_eq, nodeB, Bool.or_eq_true] at hm
   obtain ⟨rfl, rfl, rfl, rfl, rfl, rfl, rfl⟩ := same_zero (by first | exact hm.2.1 | exact hm.1.2 | exact hm.1.1.2 | exact hm.1.1.1.2 | exact hm.2)
   obtain rfl : on = 0 := by simpa using hol.symm
   obtain rfl : f = false := by first | exact hm.1.2 | exact hm.2 | exact hm.1.1.2
   obtain rfl : px = [] := by first | exact hm.2 | exact hm.1.2
   obtain rfl : pn = 0 := by simpa using hpl.symm
   obtain ⟨nd, rfl⟩ := Int.eq_ofNat_of_zero_le (show 0 ≤ nd by omega)
   obtain rfl : m = 0 := by omega
   exact ractText_8 nd OD P oq pq w (by omega)
  ·simp only [mayActB, if_true, reduceCtorEq, Int.reduceEq, if_false, Bool.and_eq_true, beq_iff_eq, nodeB, Bool.or_eq_true] at hm
   obtain ⟨rfl, rfl, rfl, rfl, rfl, rfl, rfl⟩ := same_zero (by first | exact hm.2.1 | exact hm.1.2 | exact hm.1.1.2 | exact hm.1.1.1.2 | exact hm.2)
   obtain rfl : on = 0 := by simpa using hol.symm
   obtain rfl : f = false := by first | exact hm.1.2 | exact hm.2 | exact hm.1.1.2
   obtain rfl : px = [] := by first | exact hm.2 | exact hm.1.2
   obtain rfl : pn = 0 := by simpa using hpl.symm
   obtain ⟨nd, rfl⟩ := Int.eq_ofNat_of_zero_le (show 0 ≤ nd by omega)
   have hmn : mayN m = true := by first | exact hm.1.1.1.1 | exact hm.1.1.1.2 | exact hm.1.1.2
   simp only [mayN, Bool.and_eq_true, decide_eq_true_eq] at hmn
   obtain ⟨m, rfl⟩ := Int.eq_ofNat_of_zero_le hmn.1
   exact ractText_9 nd m OD P oq pq w (by omega) (by omega)
  ·simp only [mayActB, if_true, reduceCtorEq, Int.reduceEq, if_false, Bool.and_eq_true, beq_iff_eq, nodeB, Bool.or_eq_true] at hm
   obtain ⟨rfl, rfl, rfl, rfl, rfl, rfl, rfl⟩ := same_zero (by first | exact hm.2.1 | exact hm.1.2 | exact hm.1.1.2 | exact hm.1.1.1.2 | exact hm.2)
   obtain rfl : on = 0 := by simpa using hol.symm
   obtain rfl : f = false := by first | exact hm.1.2 | exact hm.2 | exact hm.1.1.2
   obtain rfl : px = [] := by first | exact hm.2 | exact hm.1.2
   obtain rfl : pn = 0 := by simpa using hpl.symm
   obtain rfl : nd = 0 := by omega
   obtain rfl : m = 0 := by omega
   exact ractText_10 OD P oq pq w
 ·unfold mayActB at hm
  repeat (rw [if_neg (by omega)] at hm)
  cases hm
def rO (us : List ByteArray) : OpV := rV (kOf (hdW us)) (nD us 1 4294967295) (nD us 2 4294967295) (nD us 2 256) (nD us 2 1048576) (nD us 3 1024) (dataR (hdW (us.drop 3)))
def racV (K : Int) (F : Bool) (ws : List ByteArray) : ActV :=
 if K = 1 then ⟨1, nD ws 1 1, 0, rO (ws.drop 2), F, []⟩ else if K = 0 then ⟨0, nD ws 1 1, 0, zOp, F, []⟩ else acV K F ws
def racX (x : ByteArray) : ActV := racV (aKOf (hdW (wordsB 32 x))) (isForce (hdW (wordsB 32 x))) (wordsB 32 x)
theorem racX_good (x : ByteArray) (h : goodA x = true) : racX x = acX x := by
 have h0 := h
 simp only [goodA, Bool.and_eq_true, beq_iff_eq] at h0
 obtain ⟨⟨_, hm⟩, ht⟩ := h0
 obtain ⟨a, ha⟩ : ∃ a, acX x = a := ⟨_, rfl⟩
 rw [ha] at hm ht ⊢
 obtain ⟨b1, b2, b3, b4, b5⟩ := actRound a x hm ht
 unfold racX
 rw [b1, b2]
 by_cases k1 : a.k = 1
 ·obtain ⟨k, nd, m, op, f, px⟩ := a
  simp only at k1
  subst k1
  have hm9 : mayActB 1 nd m op.k op.v op.t op.s op.a op.c f op.d.length px.length op.d px = true := hm
  simp only [mayActB, if_true, Bool.and_eq_true, beq_iff_eq] at hm9
  have hop : op.may = true := hm9.1.1.1.2
  have hnd : nd = 0 ∨ nd = 1 := by have := hm9.1.1.1.1; simpa [nodeB] using this
  have hw : ∃ y z, wordsB 32 x = y :: z :: wordsB 32 ⟨op.text.toArray⟩ := by
   obtain ⟨u, rfl⟩ := Int.eq_ofNat_of_zero_le (show 0 ≤ nd by omega)
   have hp : actPieces 1 (u : Int) m op.k op.v op.t op.s op.a op.c f op.d px = [⟨#[97, 115, 107]⟩, ⟨(Lib.itoa (u : Int)).toArray⟩, ⟨op.text.toArray⟩] := rfl
   have hx2 : Lib.join (([⟨#[97, 115, 107]⟩, ⟨(Lib.itoa (u : Int)).toArray⟩, ⟨op.text.toArray⟩] : List ByteArray).map (·.data.toList)) [32] = x.data.toList := by rw [← ht]; rfl
   refine ⟨⟨#[97, 115, 107]⟩, ⟨(Lib.itoa (u : Int)).toArray⟩, ?_⟩
   have e9 : x.data.toList = ([97, 115, 107] : List UInt8) ++ 32 :: (Lib.itoa (u : Int) ++ 32 :: op.text) := by
    rw [← hx2]
    simp [join_two, join_one]
   have h1 : cutL 32 x.data.toList = ([97, 115, 107] : List UInt8) :: Lib.itoa (u : Int) :: cutL 32 op.text := by
    rw [e9, cutL_app (by decide), cutL_app (itoa_no32 _ (by omega))]
   rw [wordsB, h1]
   simp [wordsB]
  obtain ⟨y, z, hw⟩ := hw
  have hg := goodOp_text op ⟨op.text.toArray⟩ hop (by simp)
  have hr := rX_good _ hg.1
  rw [hg.2] at hr
  have hd2 : (wordsB 32 x).drop 2 = wordsB 32 ⟨op.text.toArray⟩ := by rw [hw]; rfl
  have hrO : rO ((wordsB 32 x).drop 2) = op := by rw [hd2]; exact hr
  have e1 : acV 1 f (wordsB 32 x) = ⟨1, nD (wordsB 32 x) 1 1, 0, opValK (kOf (hdW ((wordsB 32 x).drop 2))) ((wordsB 32 x).drop 2), f, []⟩ := rfl
  have e2 : racV 1 f (wordsB 32 x) = ⟨1, nD (wordsB 32 x) 1 1, 0, rO ((wordsB 32 x).drop 2), f, []⟩ := rfl
  simp only at b3 ⊢
  rw [e1] at b3
  rw [e2, hrO]
  cases b3
  rfl
 ·by_cases k0 : a.k = 0
  ·exfalso
   obtain ⟨k, nd, m, op, f, px⟩ := a
   simp only at k0
   subst k0
   have hm9 : mayActB 0 nd m op.k op.v op.t op.s op.a op.c f op.d.length px.length op.d px = true := hm
   unfold mayActB at hm9
   repeat (rw [if_neg (by omega)] at hm9)
   cases hm9
  ·rw [racV, if_neg k1, if_neg k0, b3]
theorem goodA_rac (x : ByteArray) : goodA x = ((racX x).may && ((racX x).text == x.data.toList)) := by
 rcases Bool.eq_false_or_eq_true ((racX x).may && ((racX x).text == x.data.toList)) with h | h
 ·have h1 := h
  simp only [Bool.and_eq_true, beq_iff_eq] at h1
  rw [h, (goodA_text _ x h1.1 h1.2).1]
 ·rw [h]
  cases hg : goodA x with
  | false => rfl
  | true =>
   rw [racX_good x hg] at h
   have h0 := hg
   simp only [goodA, Bool.and_eq_true] at h0
   rw [h0.1.2, h0.2] at h
   cases h
theorem rO_bd (us : List ByteArray) : Bd (rO us).v (rO us).t (rO us).s (rO us).a (rO us).c := by
 have h1 := nD_le us 1 4294967295
 have h2 := nD_le us 2 4294967295
 have h3 := nD_le us 2 256
 have h4 := nD_le us 2 1048576
 have h5 := nD_le us 3 1024
 unfold rO rV
 repeat' split
 all_goals exact ⟨by simp only []; omega, by simp only []; omega, by simp only []; omega, by simp only []; omega, by simp only []; omega, by simp only []; omega, by simp only []; omega, by simp only []; omega, by simp only []; omega, by simp only []; omega⟩
theorem rO_d (us : List ByteArray) (hw : ∀ y ∈ us, y.size ≤ 200000) : (rO us).d.length ≤ 64000000 := by
 have h : (dataR (hdW (us.drop 3))).length ≤ 64000000 := by
  have h1 := hd_short hw 3
  have h2 := wordsB_le 44 (hdW (us.drop 3))
  rw [dataR, flatR_len]
  omega
 unfold rO rV
 repeat' split
 all_goals first | exact h | exact Nat.zero_le _
theorem racV_bd (K : Int) (hK : 0 ≤ K ∧ K ≤ 10) (F : Bool) (ws : List ByteArray) (hw : ∀ y ∈ ws, y.size ≤ 200000) : Bd (racV K F ws).o.v (racV K F ws).o.t (racV K F ws).o.s (racV K F ws).o.a (racV K F ws).o.c ∧ (0 ≤ (racV K F ws).nd ∧ (racV K F ws).nd ≤ 1) ∧ (0 ≤ (racV K F ws).m ∧ (racV K F ws).m ≤ 1000000) ∧ (racV K F ws).o.d.length ≤ 64000000 ∧ (racV K F ws).pk.length ≤ 300000 ∧ (∀ n ∈ (racV K F ws).pk, 0 ≤ n ∧ n ≤ 1000000) := by
 have h0 := acV_bd K hK F ws hw
 have b1 := rO_bd (ws.drop 2)
 have b2 := rO_d (ws.drop 2) (fun y hy => hw y (List.mem_of_mem_drop hy))
 have z1 : Bd 0 0 0 0 0 := ⟨by omega, by omega, by omega, by omega, by omega, by omega, by omega, by omega, by omega, by omega⟩
 have n1 := nD_le ws 1 1
 unfold racV
 split
 ·exact ⟨b1, by simp only []; omega, by simp only []; omega, b2, Nat.zero_le _, fun n hn => by cases hn⟩
 ·split
  ·exact ⟨z1, by simp only []; omega, by simp only []; omega, Nat.zero_le _, Nat.zero_le _, fun n hn => by cases hn⟩
  ·exact h0
end Go.Proofs.YtgjdgafoidppaaaGreatDoor
