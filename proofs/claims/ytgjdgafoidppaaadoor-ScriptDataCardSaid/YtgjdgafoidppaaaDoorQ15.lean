/- The walk of ScriptData: it answers true. Conditions: the bytes stand in memory; the tables stand. -/
import Derived.Test.YtgjdgafoidppaaaDoorQ14
namespace Go.Proofs.YtgjdgafoidppaaaDoor
open Go.RowKit
set_option linter.unusedVariables false
set_option linter.unusedSimpArgs false
set_option linter.unnecessarySimpa false
theorem opOf_row (x : ByteArray) (hx : x.size ≤ 200000) (k v t s a c : Int) (d : List UInt8) (hO : opRes x = ⟨k, v, t, s, a, c, d⟩) (E : Int) (hE : opE x = E) (w : World) [hk : Tb w] [hm : Ml w] :
    Calls Tryd.prog 19 #[.string x] w fun e w' => ∃ A q, e = .returned (.tuple #[.agg #[.int .i64 k, .int .u64 v, .int .u64 t, .int .i64 s, .int .i64 a, .int .i64 c, .slice A d.length q], .int .i64 E]) ∧ d.length ≤ q ∧ Row bv w' A d ∧ Gr w w' := by
  refine (opOf_any x hx w).mono ?_
  rintro e w' ⟨dv, rfl, ho, hg⟩
  rw [hO] at ho ⊢
  obtain ⟨A, q, rfl, hq, hr⟩ := ho.form
  exact ⟨A, q, by rw [hE]; rfl, hq, hr, hg⟩
theorem dataL_small (l : List UInt8) (h : l.length ≤ 2048) : (dataL l).length ≤ 40000 := by
  unfold dataL rowL
  split
  · simp
  · have := secs_join l (l.length / 64); omega
theorem secAt_take (l : List UInt8) (m j : Nat) (h : 64 * j + 64 ≤ m) : secAt (l.take m) j = secAt l j := by
  unfold secAt
  rw [List.drop_take, List.take_take, Nat.min_eq_left (by omega)]
theorem secs_take (l : List UInt8) (m k : Nat) (h : 64 * k ≤ m) : secs (l.take m) k = secs l k := by
  unfold secs
  refine List.map_congr_left (fun j hj => ?_)
  rw [List.mem_range] at hj
  exact secAt_take l m j (by omega)
theorem dataL_take (l : List UInt8) (m : Nat) (hm : m = l.length / 64 * 64) : dataL (l.take m) = dataL l := by
  have hl : (l.take m).length = m := by rw [List.length_take]; omega
  unfold dataL
  rw [hl, secs_take l m (m / 64) (by omega)]
  congr 2
  omega
theorem join_app (s : List UInt8) : ∀ (xs ys : List (List UInt8)), xs ≠ [] → ys ≠ [] → Lib.join (xs ++ ys) s = Lib.join xs s ++ s ++ Lib.join ys s
  | [], _, h, _ => absurd rfl h
  | [x], y :: r, _, _ => by rw [List.singleton_append, join_two, join_one]
  | x :: z :: xs, ys, _, hy => by
    have h := join_app s (z :: xs) ys (by simp) hy
    rw [List.cons_append, List.cons_append, join_two, join_two, ← List.cons_append, h]
    simp [List.append_assoc]
  | [_], [], _, h => absurd rfl h
theorem secs_app (w b : List UInt8) (j k : Nat) (hw : w.length = 64 * j) : secs (w ++ b) (j + k) = secs w j ++ secs b k := by
  induction k with
  | zero =>
    have h0 : secs b 0 = [] := rfl
    rw [h0, List.append_nil, Nat.add_zero]
    unfold secs
    refine List.map_congr_left (fun i hi => ?_)
    rw [List.mem_range] at hi
    unfold secAt
    rw [List.drop_append_of_le_length (by omega), List.take_append_of_le_length (by rw [List.length_drop]; omega)]
  | succ k ih =>
    rw [← Nat.add_assoc, secs_succ, ih, secs_succ, List.append_assoc]
    congr 2
    unfold secAt
    have e : 64 * (j + k) = w.length + 64 * k := by omega
    rw [e, List.drop_append, List.drop_eq_nil_of_le (by omega), List.nil_append]
    rw [Nat.add_sub_cancel_left]
theorem dataL_app (w b : List UInt8) (j : Nat) (hw : w.length = 64 * j) (hj : 0 < j) (hb : 64 ≤ b.length) : dataL (w ++ b) = dataL w ++ [44] ++ dataL b := by
  have h1 : (w ++ b).length / 64 = j + b.length / 64 := by rw [List.length_append]; omega
  have h2 : w.length / 64 = j := by omega
  have n1 : secs w j ≠ [] := fun h => by have := secs_len w j; rw [h] at this; simp at this; omega
  have n2 : secs b (b.length / 64) ≠ [] := fun h => by have := secs_len b (b.length / 64); rw [h] at this; simp at this; omega
  unfold dataL rowL
  rw [h1, h2, secs_app w b j _ hw, if_neg (by simp [n1]), if_neg n1, if_neg n2, List.map_append, join_app _ _ _ (by simpa using n1) (by simpa using n2)]
theorem write_text (l wl : List UInt8) (he : dataL wl = dataL l) : (⟨#[119, 114, 105, 116, 101, 32, 49, 32, 50, 32]⟩ ++ ⟨(dataL l).toArray⟩ : ByteArray) = ⟨(opTextL 5 1 0 0 2 0 wl).toArray⟩ := by
  have hp : opPieces 5 1 0 0 2 0 wl = [⟨#[119, 114, 105, 116, 101]⟩, ⟨(Lib.decDigits (1 : Int).toNat).toArray⟩, ⟨(Lib.itoa 2).toArray⟩, ⟨(dataL wl).toArray⟩] := rfl
  have e2 : Lib.itoa 2 = [50] := itoa_small 2 (by omega)
  have e1 : Lib.decDigits (1 : Int).toNat = [49] := dec_small 1 (by omega)
  apply ByteArray.ext
  rw [opTextL, hp, e1, e2, he]
  simp [join_two, join_one]
theorem write_good (l wl : List UInt8) (he : dataL wl = dataL l) (h1 : 64 ≤ wl.length) (h2 : wl.length % 64 = 0) (h3 : wl.length ≤ 2048) (x : ByteArray) (hx : x = ⟨#[119, 114, 105, 116, 101, 32, 49, 32, 50, 32]⟩ ++ ⟨(dataL l).toArray⟩) :
    opRes x = ⟨5, 1, 0, 0, 2, 0, wl⟩ ∧ opE x = 0 := by
  have hm : mayOpB 5 1 0 0 2 0 wl.length wl = true := by
    have E0 : mayOpB 5 1 0 0 2 0 wl.length wl = (wVol 1 && wAt 2 && wData wl.length && true && true && true) := rfl
    rw [E0]
    simp [wVol, wAt, wData]
    omega
  have hg := goodOp_text ⟨5, 1, 0, 0, 2, 0, wl⟩ x hm (by rw [hx, write_text l wl he]; simp [OpV.text])
  exact ⟨by rw [opRes, if_pos hg.1, hg.2], by rw [opE, if_pos hg.1]⟩
set_option maxRecDepth 100000 in
set_option maxHeartbeats 4000000 in
theorem data_much (A : Option Addr) (na qa : Nat) (B : Option Addr) (nb qb : Nat) (w : World) [hk : Tb w] (h : 4000 < na ∨ 4000 < nb) : Calls Tryd.prog 5 #[.slice A na qa, .slice B nb qb] w fun e w' => e = .returned (.bool true) ∧ Gr w w' := by
  have HK := Lib.hid (fun W (_ : Tb W) => known26_any W)
  by_cases h1 : 4000 < na
  · clear h
    go_enter Tryd.func5, Tryd.ntmps5
    go_wp2_with (go_at_call 9; ((with_reducible refine (HK.out _ inferInstance).mono ?_); rintro _ _ ⟨rfl, gk, rfl⟩))
    go_ret
    exact ⟨rfl, gri⟩
  · have h2 : 4000 < nb := by omega
    clear h
    go_enter Tryd.func5, Tryd.ntmps5
    go_wp2_with (go_at_call 9; ((with_reducible refine (HK.out _ inferInstance).mono ?_); rintro _ _ ⟨rfl, gk, rfl⟩))
    go_ret
    exact ⟨rfl, gri⟩
set_option maxRecDepth 100000 in
set_option maxHeartbeats 8000000 in
theorem data_few (A : Option Addr) (na qa : Nat) (la : List UInt8) (B : Option Addr) (nb qb : Nat) (lb : List UInt8) (w : World) [hk : Tb w] [hm : Ml w] (CA : CameB w A na qa la) (CB : CameB w B nb qb lb) (h1 : na < 64) (h3 : nb ≤ 4000) : Calls Tryd.prog 5 #[.slice A na qa, .slice B nb qb] w fun e w' => e = .returned (.bool true) ∧ Gr w w' := by
  have HK := Lib.hid (fun W (_ : Tb W) => known26_any W)
  have HDA := Lib.hid (fun W (r : Row bv W A la) => dataText_any A na qa la W CA.len CA.cap (by omega) r)
  have HRD := Lib.hid (fun W (r : Row bv W A la) => rdata_any A na qa la W CA.len CA.cap (by omega) r)
  have HRA := Lib.hid CA.row
  have HRB := Lib.hid CB.row
  have b1 : ¬ (4000 : Int) < (na : Int) := by omega
  have b2 : ¬ (4000 : Int) < (nb : Int) := by omega
  have b3 := CA.cap
  have e0 : dataL la = dataL [] := by rw [← dataL_take la 0 (by have := CA.len; omega)]; rfl
  have HDW := Lib.hid (fun W => (show Calls Tryd.prog 17 #[.slice A 0 qa] W (fun e w' => e = .returned (.string ⟨(dataL la).toArray⟩) ∧ Gr W w') from e0 ▸ dataText_any A 0 qa [] W rfl (Nat.zero_le _) (by omega) Row.nil))
  have hdiv : ((na : Int) / 64) = 0 := by omega
  have HCA := Lib.hid CA; have HCB := Lib.hid CB; clear CA CB e0
  generalize (dataL la) = dl at *
  cases A with
  | none =>
    obtain rfl := HCA.out.nil rfl
    go_enter Tryd.func5, Tryd.ntmps5
    go_wp2_with (first | (go_at_call 17; ((with_reducible refine (HDA.out _ (HRA.out.gr gri)).mono ?_); rintro _ _ ⟨rfl, g1, rfl⟩)) | (go_at_call 18; ((with_reducible refine (HRD.out _ (HRA.out.gr gri)).mono ?_); rintro _ _ ⟨rfl, g3, rfl⟩)) | (go_at_call 17; ((with_reducible refine (HDW.out _).mono ?_); rintro _ _ ⟨rfl, g2, rfl⟩)) | (at_builtin; refine wp_append_src rfl _ _ rfl w.heap.size (.slice none 0 0) [] rfl ?own1 none 0 0 [] rfl rfl (fun _ => rfl) Row.nil ?hl1 ?hb1 ?_))
    case own1 => exact OwnR.nil _ _
    case hl1 => simp
    case hb1 => exact gri.below.size
    intro v1 W1 a1
    have hb1 : Below w.heap.size w W1 := Below.trans (gri (a := w)).below a1.below
    have hown1 := a1.own
    haveI : Tb W1 := a1.tb hk.size
    haveI : GrC w W1 := ⟨hb1⟩
    clear a1
    go_wp2_with (at_builtin; refine wp_append_src rfl _ _ rfl w.heap.size v1 ([] ++ []) ?hs2 hown1 B nb qb lb HCB.out.len rfl HCB.out.nil (HCB.out.row.gr (Gr.of hb1)) ?hl2 hb1.size ?_)
    case hs2 => rfl
    case hl2 => have := HCB.out.len; simp; omega
    intro v2 W2 a2
    have hb2 : Below w.heap.size w W2 := hb1.trans a2.below
    obtain ⟨V2, q2, rfl, hq2, hr2⟩ := a2.own.form
    haveI : Tb W2 := a2.tb hk.size
    haveI : GrC w W2 := ⟨hb2⟩
    clear a2 hown1 hb1
    go_wp2_with (go_at_call 9; ((with_reducible refine (HK.out _ inferInstance).mono ?_); rintro _ _ ⟨rfl, gk, rfl⟩))
    go_ret
    exact ⟨rfl, gri⟩
  | some ad =>
    go_enter Tryd.func5, Tryd.ntmps5
    go_wp2_with (first | (go_at_call 17; ((with_reducible refine (HDA.out _ (HRA.out.gr gri)).mono ?_); rintro _ _ ⟨rfl, g1, rfl⟩)) | (go_at_call 18; ((with_reducible refine (HRD.out _ (HRA.out.gr gri)).mono ?_); rintro _ _ ⟨rfl, g3, rfl⟩)) | (go_at_call 17; ((with_reducible refine (HDW.out _).mono ?_); rintro _ _ ⟨rfl, g2, rfl⟩)) | (at_builtin; refine wp_append_src rfl _ _ rfl w.heap.size (.slice none 0 0) [] rfl ?own1 (some ad) 0 qa [] rfl rfl (fun h => by cases h) Row.nil ?hl1 ?hb1 ?_))
    case own1 => exact OwnR.nil _ _
    case hl1 => simp
    case hb1 => exact gri.below.size
    intro v1 W1 a1
    have hb1 : Below w.heap.size w W1 := Below.trans (gri (a := w)).below a1.below
    have hown1 := a1.own
    haveI : Tb W1 := a1.tb hk.size
    haveI : GrC w W1 := ⟨hb1⟩
    clear a1
    go_wp2_with (at_builtin; refine wp_append_src rfl _ _ rfl w.heap.size v1 ([] ++ []) ?hs2 hown1 B nb qb lb HCB.out.len rfl HCB.out.nil (HCB.out.row.gr (Gr.of hb1)) ?hl2 hb1.size ?_)
    case hs2 => rfl
    case hl2 => have := HCB.out.len; simp; omega
    intro v2 W2 a2
    have hb2 : Below w.heap.size w W2 := hb1.trans a2.below
    obtain ⟨V2, q2, rfl, hq2, hr2⟩ := a2.own.form
    haveI : Tb W2 := a2.tb hk.size
    haveI : GrC w W2 := ⟨hb2⟩
    clear a2 hown1 hb1
    go_wp2_with (go_at_call 9; ((with_reducible refine (HK.out _ inferInstance).mono ?_); rintro _ _ ⟨rfl, gk, rfl⟩))
    go_ret
    exact ⟨rfl, gri⟩
set_option maxRecDepth 100000 in
set_option maxHeartbeats 8000000 in
theorem data_more (ad : Addr) (na qa : Nat) (la : List UInt8) (B : Option Addr) (nb qb : Nat) (lb : List UInt8) (w : World) [hk : Tb w] [hm : Ml w] (CA : CameB w (some ad) na qa la) (CB : CameB w B nb qb lb) (h0 : 64 ≤ na) (h1 : na ≤ 4000) (h3 : nb ≤ 4000) : Calls Tryd.prog 5 #[.slice (some ad) na qa, .slice B nb qb] w fun e w' => e = .returned (.bool true) ∧ Gr w w' := by
  have HK := Lib.hid (fun W (_ : Tb W) => known26_any W)
  have HDA := Lib.hid (fun W (r : Row bv W (some ad) la) => dataText_any (some ad) na qa la W CA.len CA.cap (by omega) r)
  have HRD := Lib.hid (fun W (r : Row bv W (some ad) la) => rdata_any (some ad) na qa la W CA.len CA.cap (by omega) r)
  have HRA := Lib.hid CA.row
  have HRB := Lib.hid CB.row
  have b1 : ¬ (4000 : Int) < (na : Int) := by omega
  have b2 : ¬ (4000 : Int) < (nb : Int) := by omega
  have b3 := CA.cap
  obtain ⟨j, hj⟩ : ∃ j, na / 64 = j := ⟨_, rfl⟩
  obtain ⟨m, hm9⟩ : ∃ m, m = na / 64 * 64 := ⟨_, rfl⟩
  have hml : m ≤ la.length := by have := CA.len; omega
  have hwl : (la.take m).length = m := by rw [List.length_take]; omega
  have he : dataL (la.take m) = dataL la := dataL_take la m (by rw [CA.len]; exact hm9)
  have hrw : Row bv w (some ad) (la.take m) := ⟨fun hne => by
    obtain ⟨b, o, e, hb, hc⟩ := CA.row.at_ (by rintro rfl; simp at hne)
    exact ⟨b, o, e, hb, fun i x hx => by
      rw [List.getElem?_take] at hx
      split at hx
      · exact hc i x hx
      · cases hx⟩⟩
  have HRW := Lib.hid hrw
  have HDW := Lib.hid (fun W (r : Row bv W (some ad) (la.take m)) => (show Calls Tryd.prog 17 #[.slice (some ad) m qa] W (fun e w' => e = .returned (.string ⟨(dataL la).toArray⟩) ∧ Gr W w') from he ▸ dataText_any (some ad) m qa (la.take m) W hwl (by have := CA.cap; omega) (by omega) r))
  have hdiv : ((na : Int) / 64) = (j : Int) := by omega
  have hm1 : ((j : Int) * 64).toNat = m := by omega
  have hm2 : (0 : Int) ≤ (j : Int) * 64 := by omega
  have hm3 : (j : Int) * 64 ≤ (qa : Int) := by omega
  have hm4 : (j : Int) * 64 ≤ 9223372036854775807 := by omega
  have HCA := Lib.hid CA; have HCB := Lib.hid CB; clear CA CB
  have HHE := Lib.hid he; clear he
  have HWL := Lib.hid hwl; clear hwl
  have HML := Lib.hid hml; clear hml
  have hmp : (0 : Int) < (m : Int) := by omega
  have hm0 : ((m : Int) == 0) = false := by simp; omega
  clear hrw
  have HM9 := Lib.hid hm9; clear hm9
  have HJ := Lib.hid hj; clear hj
  go_enter Tryd.func5, Tryd.ntmps5
  go_wp2_with (first | (go_at_call 17; ((with_reducible refine (HDA.out _ (HRA.out.gr gri)).mono ?_); rintro _ _ ⟨rfl, g1, rfl⟩)) | (go_at_call 18; ((with_reducible refine (HRD.out _ (HRA.out.gr gri)).mono ?_); rintro _ _ ⟨rfl, g3, rfl⟩)) | (go_at_call 17; ((with_reducible refine (HDW.out _ (HRW.out.gr gri)).mono ?_); rintro _ _ ⟨rfl, g2, rfl⟩)) | (at_builtin; refine wp_append_src rfl _ _ rfl w.heap.size (.slice none 0 0) [] rfl ?own1 (some ad) m qa (la.take m) HWL.out rfl (fun h => by cases h) (HRW.out.gr gri) ?hl1 ?hb1 ?_))
  case own1 => exact OwnR.nil _ _
  case hl1 => have := HWL.out; rw [this]; simp; omega
  case hb1 => exact gri.below.size
  intro v1 W1 a1
  have hb1 : Below w.heap.size w W1 := Below.trans (gri (a := w)).below a1.below
  have hown1 : OwnR bv 5 w.heap.size W1 v1 (la.take m) := by simpa using a1.own
  haveI : Tb W1 := a1.tb hk.size
  haveI : Ml W1 := a1.ml hk.size
  haveI : GrC w W1 := ⟨hb1⟩
  clear a1
  go_wp2_with (at_builtin; refine wp_append_src rfl _ _ rfl w.heap.size v1 (la.take m) ?hs2 hown1 B nb qb lb HCB.out.len rfl HCB.out.nil (HCB.out.row.gr (Gr.of hb1)) ?hl2 hb1.size ?_)
  case hs2 => rfl
  case hl2 => have := HCB.out.len; have := HWL.out; omega
  intro v2 W2 a2
  have hb2 : Below w.heap.size w W2 := hb1.trans a2.below
  obtain ⟨V2, q2, rfl, hq2, hr2⟩ := a2.own.form
  haveI : Tb W2 := a2.tb hk.size
  haveI : Ml W2 := a2.ml hk.size
  haveI : GrC w W2 := ⟨hb2⟩
  clear a2 hown1 hb1
  obtain ⟨n2, hn2⟩ : ∃ n, (la.take m ++ lb).length = n := ⟨_, rfl⟩
  rw [hn2] at hq2 ⊢
  have hn3 : n2 = m + nb := by have := HWL.out; have := HCB.out.len; rw [← hn2]; simp only [List.length_append]; omega
  have HR2 := Lib.hid hr2; have HN2 := Lib.hid hn2; have HN3 := Lib.hid hn3; clear hr2 hn2 hn3
  have hb0 : 0 < j := by have := HJ.out; omega
  have HDB := Lib.hid (fun W (r : Row bv W B lb) => dataText_any B nb qb lb W HCB.out.len HCB.out.cap (by omega) r)
  have sa : (⟨(dataL la).toArray⟩ : ByteArray).size ≤ 300000 := by have := dataL_len la (by have := HCA.out.len; omega); simpa [ByteArray.size] using this
  have sb : (⟨(dataL lb).toArray⟩ : ByteArray).size ≤ 300000 := by have := dataL_len lb (by have := HCB.out.len; omega); simpa [ByteArray.size] using this
  have HWO : m ≤ 2048 → ∀ W (_ : Tb W) (_ : Ml W), Calls Tryd.prog 19 #[.string (⟨#[119, 114, 105, 116, 101, 32, 49, 32, 50, 32]⟩ ++ ⟨(dataL la).toArray⟩)] W (fun e w' => ∃ A q, e = .returned (.tuple #[.agg #[.int .i64 5, .int .u64 1, .int .u64 0, .int .i64 0, .int .i64 2, .int .i64 0, .slice A m q], .int .i64 0]) ∧ Row bv w' A (la.take m) ∧ Gr W w') := by
    intro hle W _ _
    have h9 := write_good la (la.take m) HHE.out (by have := HWL.out; have := HM9.out; have := HJ.out; omega) (by have := HWL.out; have := HM9.out; omega) (by have := HWL.out; omega) _ rfl
    have hsz : (⟨#[119, 114, 105, 116, 101, 32, 49, 32, 50, 32]⟩ ++ ⟨(dataL la).toArray⟩ : ByteArray).size ≤ 200000 := by
      have h8 := dataL_small (la.take m) (by have := HWL.out; omega)
      rw [HHE.out] at h8
      simp [ByteArray.size_append]
      have : (⟨(dataL la).toArray⟩ : ByteArray).size = (dataL la).length := by simp [ByteArray.size]
      rw [this]
      have : (⟨#[119, 114, 105, 116, 101, 32, 49, 32, 50, 32]⟩ : ByteArray).size = 10 := rfl
      omega
    refine (opOf_row _ hsz 5 1 0 0 2 0 (la.take m) h9.1 0 h9.2 W).mono ?_
    rintro e w' ⟨A3, q3, rfl, _, hr3, hg3⟩
    exact ⟨A3, q3, by rw [HWL.out], hr3, hg3⟩
  have HVT : 64 ≤ nb → ∀ W (_ : Row bv W V2 (la.take m ++ lb)), Calls Tryd.prog 17 #[.slice V2 n2 q2] W (fun e w' => e = .returned (.string (⟨(dataL la).toArray⟩ ++ ⟨#[44]⟩ ++ ⟨(dataL lb).toArray⟩)) ∧ Gr W w') := by
    intro hle W r
    have h9 := dataText_any V2 n2 q2 _ W HN2.out hq2 (by have := HN3.out; omega) r
    have e9 : dataL (la.take m ++ lb) = dataL la ++ [44] ++ dataL lb := by
      rw [dataL_app (la.take m) lb j (by have := HWL.out; have := HM9.out; have := HJ.out; omega) hb0 (by have := HCB.out.len; omega), HHE.out]
    rw [e9] at h9
    have e8 : (⟨(dataL la ++ [44] ++ dataL lb).toArray⟩ : ByteArray) = ⟨(dataL la).toArray⟩ ++ ⟨#[44]⟩ ++ ⟨(dataL lb).toArray⟩ := by
      apply ByteArray.ext
      simp
    rw [e8] at h9
    exact h9
  have HWO9 := Lib.hid HWO; have HVT9 := Lib.hid HVT; clear HWO HVT
  have CV2 : ∀ (W : World) [GrC w W], (convert 41 9 (.slice (some ad) m qa)).run Tryd.prog W = .ok (.string ⟨(la.take m).toArray⟩) W := fun W hW => conv_row _ _ _ _ _ HWL.out (HRW.out.gr (Gr.of hW.b))
  clear hq2 hb0
  generalize (⟨(dataL la).toArray⟩ : ByteArray) = SA at *
  generalize (⟨(dataL lb).toArray⟩ : ByteArray) = SB at *
  by_cases h4 : 64 ≤ nb
  · have h5 : (64 : Int) ≤ (nb : Int) := by omega
    have h6 : ¬ (nb : Int) < 64 := by omega
    have HVT := Lib.hid (HVT9.out h4)
    by_cases h7 : m ≤ 2048
    · have h8 : ¬ (2048 : Int) < (m : Int) := by omega
      have HWO := Lib.hid (HWO9.out h7)
      go_wp2_with (first | (go_at_call 17; ((with_reducible refine (HVT.out _ (HR2.out.gr gri)).mono ?_); rintro _ _ ⟨rfl, g6, rfl⟩)) | (go_at_call 17; ((with_reducible refine (HDW.out _ (HRW.out.gr gri)).mono ?_); rintro _ _ ⟨rfl, g2, rfl⟩)) | (go_at_call 17; ((with_reducible refine (HDB.out _ (HRB.out.gr gri)).mono ?_); rintro _ _ ⟨rfl, g4, rfl⟩)) | (go_at_call 17; ((with_reducible refine (HDA.out _ (HRA.out.gr gri)).mono ?_); rintro _ _ ⟨rfl, g1, rfl⟩)) | (go_at_call 19; ((with_reducible refine (HWO.out _ inferInstance inferInstance).mono ?_); rintro _ _ ⟨A3, q3, rfl, hr3, g5, rfl⟩)))
      have HR3 := Lib.hid hr3; clear hr3
      have CV1 : ∀ (W : World) [GrC (grown _ g5) W], (convert 41 9 (.slice A3 m q3)).run Tryd.prog W = .ok (.string ⟨(la.take m).toArray⟩) W := fun W hW => conv_row _ _ _ _ _ HWL.out (HR3.out.gr (Gr.of hW.b))
      go_wp2_with (first | (go_at_call 12; ((with_reducible refine (num26_any _ _).mono ?_); rintro _ _ ⟨rfl, rfl⟩)) | (go_at_call 9; ((with_reducible refine (HK.out _ inferInstance).mono ?_); rintro _ _ ⟨rfl, gk, rfl⟩)))
      go_ret
      exact ⟨rfl, gri⟩
    · have h8 : (2048 : Int) < (m : Int) := by omega
      go_wp2_with (first | (go_at_call 17; ((with_reducible refine (HVT.out _ (HR2.out.gr gri)).mono ?_); rintro _ _ ⟨rfl, g6, rfl⟩)) | (go_at_call 17; ((with_reducible refine (HDW.out _ (HRW.out.gr gri)).mono ?_); rintro _ _ ⟨rfl, g2, rfl⟩)) | (go_at_call 17; ((with_reducible refine (HDB.out _ (HRB.out.gr gri)).mono ?_); rintro _ _ ⟨rfl, g4, rfl⟩)) | (go_at_call 9; ((with_reducible refine (HK.out _ inferInstance).mono ?_); rintro _ _ ⟨rfl, gk, rfl⟩)))
      go_ret
      exact ⟨rfl, gri⟩
  · have h5 : ¬ (64 : Int) ≤ (nb : Int) := by omega
    have h6 : (nb : Int) < 64 := by omega
    by_cases h7 : m ≤ 2048
    · have h8 : ¬ (2048 : Int) < (m : Int) := by omega
      have HWO := Lib.hid (HWO9.out h7)
      go_wp2_with (first | (go_at_call 17; ((with_reducible refine (HDA.out _ (HRA.out.gr gri)).mono ?_); rintro _ _ ⟨rfl, g1, rfl⟩)) | (go_at_call 19; ((with_reducible refine (HWO.out _ inferInstance inferInstance).mono ?_); rintro _ _ ⟨A3, q3, rfl, hr3, g5, rfl⟩)))
      have HR3 := Lib.hid hr3; clear hr3
      have CV1 : ∀ (W : World) [GrC (grown _ g5) W], (convert 41 9 (.slice A3 m q3)).run Tryd.prog W = .ok (.string ⟨(la.take m).toArray⟩) W := fun W hW => conv_row _ _ _ _ _ HWL.out (HR3.out.gr (Gr.of hW.b))
      go_wp2_with (first | (go_at_call 12; ((with_reducible refine (num26_any _ _).mono ?_); rintro _ _ ⟨rfl, rfl⟩)) | (go_at_call 9; ((with_reducible refine (HK.out _ inferInstance).mono ?_); rintro _ _ ⟨rfl, gk, rfl⟩)))
      go_ret
      exact ⟨rfl, gri⟩
    · have h8 : (2048 : Int) < (m : Int) := by omega
      go_wp2_with ((go_at_call 9; ((with_reducible refine (HK.out _ inferInstance).mono ?_); rintro _ _ ⟨rfl, gk, rfl⟩)))
      go_ret
      exact ⟨rfl, gri⟩

theorem data_walk (A : Option Addr) (na qa : Nat) (la : List UInt8) (B : Option Addr) (nb qb : Nat) (lb : List UInt8) (w : World) [hk : Tb w] [hm : Ml w] (CA : CameB w A na qa la) (CB : CameB w B nb qb lb) : Calls Tryd.prog 5 #[.slice A na qa, .slice B nb qb] w fun e w' => e = .returned (.bool true) ∧ Gr w w' := by
  by_cases h : 4000 < na ∨ 4000 < nb
  · exact data_much A na qa B nb qb w h
  · by_cases h0 : na < 64
    · exact data_few A na qa la B nb qb lb w CA CB h0 (by omega)
    · cases A with
      | none =>
        exfalso
        have h1 := CA.nil rfl
        have h2 := CA.cap
        omega
      | some ad => exact data_more ad na qa la B nb qb lb w CA CB (by omega) (by omega) (by omega)
end Go.Proofs.YtgjdgafoidppaaaDoor
