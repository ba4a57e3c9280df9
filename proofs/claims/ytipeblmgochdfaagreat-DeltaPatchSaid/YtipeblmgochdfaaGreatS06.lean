/- The reference of layer 13: Names, has, in, May, Same, Much. Conditions: what is read stands in memory. The reference's device: refused. Conditions: the device stands in memory; at most 10^6 volumes, bytes. Whole blocks of the reference: built, loaded, laid. Conditions: 256 bytes. The reference's volume: Set, Drop. Conditions: the volume stands in memory; at most 1000 blocks. -/
import Derived.Test.YtipeblmgochdfaaGreatS02
import Derived.Test.YtipeblmgochdfaaGreatS03
import Derived.Lib.Strings
import Derived.Test.YtipeblmgochdfaaGreatS05
import Derived.Great.BuildSlice
namespace Go.Proofs.YtipeblmgochdfaaGreat
open Go.RowKit
set_option linter.unusedVariables false
set_option linter.unusedSimpArgs false
set_option linter.unnecessarySimpa false
theorem names13_any (k : Int) (w : World) : Calls Tryz.prog 189 #[.int .i64 k] w fun e w' => e = .returned (.string (namesB k)) ∧ Gr w w' := by
 by_cases h1 : k < 1 ∨ 9 < k
 ·have e0 := namesB_off k (by omega)
  have n1 : (k == 1) = false := by simp; omega
  have n2 : (k == 2) = false := by simp; omega
  have n3 : (k == 3) = false := by simp; omega
  have n4 : (k == 4) = false := by simp; omega
  have n5 : (k == 5) = false := by simp; omega
  have n6 : (k == 6) = false := by simp; omega
  have n7 : (k == 7) = false := by simp; omega
  have n9 : (k == 9) = false := by simp; omega
  have e := Lib.hid e0; clear e0 h1
  go_enter Tryz.func189, Tryz.ntmps189
  go_wp2
  go_ret
  exact ⟨by rw [e.out]; rfl, gri⟩
 have h3 : k = 1 ∨ k = 2 ∨ k = 3 ∨ k = 4 ∨ k = 5 ∨ k = 6 ∨ k = 7 ∨ k = 8 ∨ k = 9 := by omega
 clear h1
 rcases h3 with rfl | rfl | rfl | rfl | rfl | rfl | rfl | rfl | rfl
 all_goals
  go_enter Tryz.func189, Tryz.ntmps189
  go_wp2
  go_ret
  exact ⟨rfl, gri⟩
def hasB (k : Int) (c : UInt8) : Bool := (namesB k).data.toList.contains c
theorem any_take_no (l : List UInt8) (c : UInt8) (k : Nat) (hk : k = l.length) (h : ∀ j, j < k → l.getD j 0 ≠ c) : l.contains c = false := by
 subst hk
 rw [List.contains_eq_any_beq, List.any_eq_false]
 intro x hx
 obtain ⟨i, hi, rfl⟩ := List.mem_iff_getElem.1 hx
 have := h i hi
 rw [List.getD_eq_getElem?_getD, List.getElem?_eq_getElem hi] at this
 simpa using fun h => this h.symm
theorem namesB_len (k : Int) : (namesB k).size ≤ 3 := by
 unfold namesB
 repeat' split
 all_goals decide
set_option maxHeartbeats 2000000 in
theorem has13_any (k : Int) (c : UInt8) (w : World) : Calls Tryz.prog 176 #[.int .i64 k, .int .u8 c.toNat] w fun e w' => e = .returned (.bool (hasB k c)) ∧ Gr w w' := by
 have hlen := namesB_len k
 have HN := Lib.hid (fun W => names13_any k W)
 have hq : hasB k c = (namesB k).data.toList.contains c := rfl
 have HQ := Lib.hid hq; clear hq
 generalize namesB k = s at *
 have hL : s.data.toList.length = s.size := (Lib.size_eq s).symm
 have HL := Lib.hid hL; clear hL
 go_enter Tryz.func176, Tryz.ntmps176
 go_wp2_with ((go_at_call 189; ((with_reducible refine (HN.out _).mono ?_); rintro _ _ ⟨rfl, g, rfl⟩)))
 go_loopw [6] (fun i wr => ∃ j : Nat, i = .int .i64 j ∧ j ≤ s.size ∧ Hid (∀ i, i < j → s.data.toList.getD i 0 ≠ c) ∧ Gr w wr) (fun i _ => s.size - (intOf i).toNat)
 case atStart => exact ⟨0, rfl, Nat.zero_le _, Lib.hid (fun j hj => by omega), gri⟩
 case round =>
  obtain ⟨j, rfl, hj, hne, hg⟩ := hrel
  have HG := Lib.hid hg; clear hg
  by_cases hlt : j < s.size
  ·have hx : s.data.toList.getD j 0 = s[j]'hlt := by
    rw [List.getD_eq_getElem?_getD, List.getElem?_eq_getElem (by have := HL.out; omega)]; rfl
   have HX := Lib.hid hx; clear hx
   by_cases hc : (s[j]'hlt).toNat = c.toNat
   ·have h1 : (((s[j]'hlt).toNat : Int) == (c.toNat : Int)) = true := by simp [hc]
    have hcc : s.data.toList.contains c = true := by
     have e1 : s[j]'hlt = c := UInt8.toNat_inj.1 hc
     rw [List.contains_iff_mem, ← e1]
     exact List.getElem_mem (l := s.data.toList) (by have := HL.out; omega)
    have HC := Lib.hid hcc; clear hcc hc
    go_wp2
    go_ret
    exact ⟨ret_bool (by rw [HQ.out, HC.out]), HG.out⟩
   ·have h1 : (((s[j]'hlt).toNat : Int) == (c.toNat : Int)) = false := by simp; exact fun h => hc (by exact_mod_cast h)
    have hcc : s.data.toList.getD j 0 ≠ c := by rw [HX.out]; exact fun h => hc (by rw [h])
    have HC := Lib.hid hcc; clear hcc hc
    go_wp2
    go_roundw
    case rel => exact ⟨j + 1, by go_num, by omega, Lib.hid (fun i hi => by
     rcases Nat.lt_or_ge i j with h | h
     ·exact hne.out i h
     ·obtain rfl : i = j := by omega
      exact HC.out), HG.out⟩
    case measure => simp [intOf]; omega
  ·obtain rfl : j = s.size := by omega
   have hcc : s.data.toList.contains c = false := any_take_no _ _ _ HL.out.symm hne.out
   have HC := Lib.hid hcc; clear hcc
   go_wp2
   go_ret
   exact ⟨ret_bool (by rw [HQ.out, HC.out]), HG.out⟩
def inB (named : Bool) (least n most : Int) : Bool := if named then decide (least ≤ n) && decide (n ≤ most) else n == 0
theorem in13_any (named : Bool) (least n most : Int) (w : World) : Calls Tryz.prog 175 #[.bool named, .int .i64 least, .int .i64 n, .int .i64 most] w fun e w' => e = .returned (.bool (inB named least n most)) ∧ Gr w w' := by
 cases named
 ·go_enter Tryz.func175, Tryz.ntmps175
  go_wp2
  go_ret
  exact ⟨ret_bool (by simp [inB]), gri⟩
 ·rcases Bool.eq_false_or_eq_true (decide (least ≤ n)) with h | h
  ·go_enter Tryz.func175, Tryz.ntmps175
   go_wp2
   go_ret
   exact ⟨ret_bool (by simp [inB, h]), gri⟩
  ·go_enter Tryz.func175, Tryz.ntmps175
   go_wp2
   go_ret
   exact ⟨ret_bool (by simp [inB, h]), gri⟩
theorem much13_any (xk xv xt xs xa xc : Int) (xD : Option Addr) (xn xq : Nat) (w : World) : Calls Tryz.prog 45 #[(Value.agg #[.int .i64 xk, .int .u64 xv, .int .u64 xt, .int .i64 xs, .int .i64 xa, .int .i64 xc, .slice xD xn xq])] w fun e w' => e = .returned (.bool (decide (9000 < xn))) ∧ Gr w w' := by
 go_enter Tryz.func45, Tryz.ntmps45
 go_wp2
 go_ret
 exact ⟨ret_bool (by first | rfl | (rw [Bool.eq_iff_iff]; simp; omega)), gri⟩
theorem has13_v (k : Int) (w : World) : Calls Tryz.prog 176 #[.int .i64 k, .int .u8 118] w fun e w' => e = .returned (.bool (hasB k 118)) ∧ Gr w w' := has13_any k 118 w
theorem has13_t (k : Int) (w : World) : Calls Tryz.prog 176 #[.int .i64 k, .int .u8 116] w fun e w' => e = .returned (.bool (hasB k 116)) ∧ Gr w w' := has13_any k 116 w
theorem has13_s (k : Int) (w : World) : Calls Tryz.prog 176 #[.int .i64 k, .int .u8 115] w fun e w' => e = .returned (.bool (hasB k 115)) ∧ Gr w w' := has13_any k 115 w
theorem has13_a (k : Int) (w : World) : Calls Tryz.prog 176 #[.int .i64 k, .int .u8 97] w fun e w' => e = .returned (.bool (hasB k 97)) ∧ Gr w w' := has13_any k 97 w
theorem has13_c (k : Int) (w : World) : Calls Tryz.prog 176 #[.int .i64 k, .int .u8 99] w fun e w' => e = .returned (.bool (hasB k 99)) ∧ Gr w w' := has13_any k 99 w
theorem has13_d (k : Int) (w : World) : Calls Tryz.prog 176 #[.int .i64 k, .int .u8 100] w fun e w' => e = .returned (.bool (hasB k 100)) ∧ Gr w w' := has13_any k 100 w
structure HasC (k : Int) (c : Int) (p : Bool) : Prop where
 c : ∀ W, Calls Tryz.prog 176 #[.int .i64 k, .int .u8 c] W fun e w' => e = .returned (.bool p) ∧ Gr W w'
structure InC (p : Bool) (least n most : Int) (b : Bool) : Prop where
 c : ∀ W, Calls Tryz.prog 175 #[.bool p, .int .i64 least, .int .i64 n, .int .i64 most] W fun e w' => e = .returned (.bool b) ∧ Gr W w'
set_option maxRecDepth 100000 in
set_option maxHeartbeats 4000000 in
theorem may13_early (k v t s a c : Int) (D : Option Addr) (n q : Nat) (w : World) (h : k < 1 ∨ 9 < k ∨ 4294967295 < v ∨ 4294967295 < t) : Calls Tryz.prog 145 #[(Value.agg #[.int .i64 k, .int .u64 v, .int .u64 t, .int .i64 s, .int .i64 a, .int .i64 c, .slice D n q])] w fun e w' => e = .returned (.bool false) ∧ Gr w w' := by
 by_cases h1 : k < 1
 ·go_enter Tryz.func145, Tryz.ntmps145
  go_wp2
  go_ret
  exact ⟨rfl, gri⟩
 have b1 : decide (k < 1) = false := by simpa using h1
 by_cases h2 : 9 < k
 ·clear h1
  go_enter Tryz.func145, Tryz.ntmps145
  go_wp2
  go_ret
  exact ⟨rfl, gri⟩
 have b2 : decide (9 < k) = false := by simpa using h2
 by_cases h3 : 4294967295 < v
 ·clear h1 h2
  go_enter Tryz.func145, Tryz.ntmps145
  go_wp2
  go_ret
  exact ⟨rfl, gri⟩
 have b3 : decide (4294967295 < v) = false := by simpa using h3
 have h4 : 4294967295 < t := by omega
 clear h h1 h2 h3
 go_enter Tryz.func145, Tryz.ntmps145
 go_wp2
 go_ret
 exact ⟨rfl, gri⟩
set_option maxRecDepth 100000 in
set_option maxHeartbeats 8000000 in
theorem may13_core (k v t s a c : Int) (D : Option Addr) (n q : Nat) (w : World) (pv pt ps pa pc pd A1 A2 B1 B2 B3 C2 : Bool) (hv : HasC k 118 pv) (ht : HasC k 116 pt) (hs : HasC k 115 ps) (ha : HasC k 97 pa) (hc : HasC k 99 pc) (hd : HasC k 100 pd) (hA1 : InC pv 1 v 4294967295 A1) (hA2 : InC pt 1 t 4294967295 A2) (hB1 : InC ps 0 s 256 B1) (hB2 : InC pa 0 a 1048576 B2) (hB3 : InC pc 1 c 1024 B3) (hC2 : InC pd 1 ((n : Int) / 64) 32 C2) (k1 : 1 ≤ k) (k9 : k ≤ 9) (v0 : 0 ≤ v) (v1 : v ≤ 4294967295) (t0 : 0 ≤ t) (t1 : t ≤ 4294967295) (hn : n ≤ 9223372036854775807) : Calls Tryz.prog 145 #[(Value.agg #[.int .i64 k, .int .u64 v, .int .u64 t, .int .i64 s, .int .i64 a, .int .i64 c, .slice D n q])] w fun e w' => e = .returned (.bool (A1 && A2 && !(pt && t == v) && B1 && B2 && B3 && decide (n % 64 = 0) && C2)) ∧ Gr w w' := by
 have HV := Lib.hid hv; have HT := Lib.hid ht; have HS := Lib.hid hs; have HA := Lib.hid ha; have HC := Lib.hid hc; have HD := Lib.hid hd; clear hv ht hs ha hc hd
 have IA1 := Lib.hid hA1; have IA2 := Lib.hid hA2; have IB1 := Lib.hid hB1; have IB2 := Lib.hid hB2; have IB3 := Lib.hid hB3; have IC2 := Lib.hid hC2; clear hA1 hA2 hB1 hB2 hB3 hC2
 have c1 : decide (k < 1) = false := by simp; omega
 have c2 : decide (9 < k) = false := by simp; omega
 have c3 : decide (4294967295 < v) = false := by simp; omega
 have c4 : decide (4294967295 < t) = false := by simp; omega
 cases A1
 ·-- A1 false
  go_enter Tryz.func145, Tryz.ntmps145
  go_wp2
  refine wp_region_grow (by kernel_rfl) (by kernel_rfl) ?_
  repeat (go_big_quiet_step ((first | (go_at_call 176; with_reducible exact grow_call (HV.out.c _)) | (go_at_call 176; with_reducible exact grow_call (HT.out.c _)) | (go_at_call 176; with_reducible exact grow_call (HS.out.c _)) | (go_at_call 176; with_reducible exact grow_call (HA.out.c _)) | (go_at_call 176; with_reducible exact grow_call (HC.out.c _)) | (go_at_call 176; with_reducible exact grow_call (HD.out.c _)) | (go_at_call 175; with_reducible exact grow_call (IA1.out.c _)) | (go_at_call 175; with_reducible exact grow_call (IA2.out.c _)) | (go_at_call 175; with_reducible exact grow_call (IB1.out.c _)) | (go_at_call 175; with_reducible exact grow_call (IB2.out.c _)) | (go_at_call 175; with_reducible exact grow_call (IB3.out.c _)) | (go_at_call 175; with_reducible exact grow_call (IC2.out.c _)))))
  refine wpQuiet_nil ?_
  intro g0
  go_wp2
  go_ret
  exact ⟨ret_bool (by simp []), gri⟩
 cases A2
 ·-- A2 false
  go_enter Tryz.func145, Tryz.ntmps145
  go_wp2
  refine wp_region_grow (by kernel_rfl) (by kernel_rfl) ?_
  repeat (go_big_quiet_step ((first | (go_at_call 176; with_reducible exact grow_call (HV.out.c _)) | (go_at_call 176; with_reducible exact grow_call (HT.out.c _)) | (go_at_call 176; with_reducible exact grow_call (HS.out.c _)) | (go_at_call 176; with_reducible exact grow_call (HA.out.c _)) | (go_at_call 176; with_reducible exact grow_call (HC.out.c _)) | (go_at_call 176; with_reducible exact grow_call (HD.out.c _)) | (go_at_call 175; with_reducible exact grow_call (IA1.out.c _)) | (go_at_call 175; with_reducible exact grow_call (IA2.out.c _)) | (go_at_call 175; with_reducible exact grow_call (IB1.out.c _)) | (go_at_call 175; with_reducible exact grow_call (IB2.out.c _)) | (go_at_call 175; with_reducible exact grow_call (IB3.out.c _)) | (go_at_call 175; with_reducible exact grow_call (IC2.out.c _)))))
  refine wpQuiet_nil ?_
  intro g0
  go_wp2
  go_ret
  exact ⟨ret_bool (by simp []), gri⟩
 cases pt
 ·-- pt false
  cases B1
  ·-- B1 false
   go_enter Tryz.func145, Tryz.ntmps145
   go_wp2
   refine wp_region_grow (by kernel_rfl) (by kernel_rfl) ?_
   repeat (go_big_quiet_step ((first | (go_at_call 176; with_reducible exact grow_call (HV.out.c _)) | (go_at_call 176; with_reducible exact grow_call (HT.out.c _)) | (go_at_call 176; with_reducible exact grow_call (HS.out.c _)) | (go_at_call 176; with_reducible exact grow_call (HA.out.c _)) | (go_at_call 176; with_reducible exact grow_call (HC.out.c _)) | (go_at_call 176; with_reducible exact grow_call (HD.out.c _)) | (go_at_call 175; with_reducible exact grow_call (IA1.out.c _)) | (go_at_call 175; with_reducible exact grow_call (IA2.out.c _)) | (go_at_call 175; with_reducible exact grow_call (IB1.out.c _)) | (go_at_call 175; with_reducible exact grow_call (IB2.out.c _)) | (go_at_call 175; with_reducible exact grow_call (IB3.out.c _)) | (go_at_call 175; with_reducible exact grow_call (IC2.out.c _)))))
   refine wpQuiet_nil ?_
   intro g0
   go_wp2
   refine wp_region_grow (by kernel_rfl) (by kernel_rfl) ?_
   repeat (go_big_quiet_step ((first | (go_at_call 176; with_reducible exact grow_call (HV.out.c _)) | (go_at_call 176; with_reducible exact grow_call (HT.out.c _)) | (go_at_call 176; with_reducible exact grow_call (HS.out.c _)) | (go_at_call 176; with_reducible exact grow_call (HA.out.c _)) | (go_at_call 176; with_reducible exact grow_call (HC.out.c _)) | (go_at_call 176; with_reducible exact grow_call (HD.out.c _)) | (go_at_call 175; with_reducible exact grow_call (IA1.out.c _)) | (go_at_call 175; with_reducible exact grow_call (IA2.out.c _)) | (go_at_call 175; with_reducible exact grow_call (IB1.out.c _)) | (go_at_call 175; with_reducible exact grow_call (IB2.out.c _)) | (go_at_call 175; with_reducible exact grow_call (IB3.out.c _)) | (go_at_call 175; with_reducible exact grow_call (IC2.out.c _)))))
   refine wpQuiet_nil ?_
   intro g1
   go_wp2
   go_ret
   exact ⟨ret_bool (by simp []), gri⟩
  cases B2
  ·-- B2 false
   go_enter Tryz.func145, Tryz.ntmps145
   go_wp2
   refine wp_region_grow (by kernel_rfl) (by kernel_rfl) ?_
   repeat (go_big_quiet_step ((first | (go_at_call 176; with_reducible exact grow_call (HV.out.c _)) | (go_at_call 176; with_reducible exact grow_call (HT.out.c _)) | (go_at_call 176; with_reducible exact grow_call (HS.out.c _)) | (go_at_call 176; with_reducible exact grow_call (HA.out.c _)) | (go_at_call 176; with_reducible exact grow_call (HC.out.c _)) | (go_at_call 176; with_reducible exact grow_call (HD.out.c _)) | (go_at_call 175; with_reducible exact grow_call (IA1.out.c _)) | (go_at_call 175; with_reducible exact grow_call (IA2.out.c _)) | (go_at_call 175; with_reducible exact grow_call (IB1.out.c _)) | (go_at_call 175; with_reducible exact grow_call (IB2.out.c _)) | (go_at_call 175; with_reducible exact grow_call (IB3.out.c _)) | (go_at_call 175; with_reducible exact grow_call (IC2.out.c _)))))
   refine wpQuiet_nil ?_
   intro g0
   go_wp2
   refine wp_region_grow (by kernel_rfl) (by kernel_rfl) ?_
   repeat (go_big_quiet_step ((first | (go_at_call 176; with_reducible exact grow_call (HV.out.c _)) | (go_at_call 176; with_reducible exact grow_call (HT.out.c _)) | (go_at_call 176; with_reducible exact grow_call (HS.out.c _)) | (go_at_call 176; with_reducible exact grow_call (HA.out.c _)) | (go_at_call 176; with_reducible exact grow_call (HC.out.c _)) | (go_at_call 176; with_reducible exact grow_call (HD.out.c _)) | (go_at_call 175; with_reducible exact grow_call (IA1.out.c _)) | (go_at_call 175; with_reducible exact grow_call (IA2.out.c _)) | (go_at_call 175; with_reducible exact grow_call (IB1.out.c _)) | (go_at_call 175; with_reducible exact grow_call (IB2.out.c _)) | (go_at_call 175; with_reducible exact grow_call (IB3.out.c _)) | (go_at_call 175; with_reducible exact grow_call (IC2.out.c _)))))
   refine wpQuiet_nil ?_
   intro g1
   go_wp2
   go_ret
   exact ⟨ret_bool (by simp []), gri⟩
  cases B3
  ·-- B3 false
   go_enter Tryz.func145, Tryz.ntmps145
   go_wp2
   refine wp_region_grow (by kernel_rfl) (by kernel_rfl) ?_
   repeat (go_big_quiet_step ((first | (go_at_call 176; with_reducible exact grow_call (HV.out.c _)) | (go_at_call 176; with_reducible exact grow_call (HT.out.c _)) | (go_at_call 176; with_reducible exact grow_call (HS.out.c _)) | (go_at_call 176; with_reducible exact grow_call (HA.out.c _)) | (go_at_call 176; with_reducible exact grow_call (HC.out.c _)) | (go_at_call 176; with_reducible exact grow_call (HD.out.c _)) | (go_at_call 175; with_reducible exact grow_call (IA1.out.c _)) | (go_at_call 175; with_reducible exact grow_call (IA2.out.c _)) | (go_at_call 175; with_reducible exact grow_call (IB1.out.c _)) | (go_at_call 175; with_reducible exact grow_call (IB2.out.c _)) | (go_at_call 175; with_reducible exact grow_call (IB3.out.c _)) | (go_at_call 175; with_reducible exact grow_call (IC2.out.c _)))))
   refine wpQuiet_nil ?_
   intro g0
   go_wp2
   refine wp_region_grow (by kernel_rfl) (by kernel_rfl) ?_
   repeat (go_big_quiet_step ((first | (go_at_call 176; with_reducible exact grow_call (HV.out.c _)) | (go_at_call 176; with_reducible exact grow_call (HT.out.c _)) | (go_at_call 176; with_reducible exact grow_call (HS.out.c _)) | (go_at_call 176; with_reducible exact grow_call (HA.out.c _)) | (go_at_call 176; with_reducible exact grow_call (HC.out.c _)) | (go_at_call 176; with_reducible exact grow_call (HD.out.c _)) | (go_at_call 175; with_reducible exact grow_call (IA1.out.c _)) | (go_at_call 175; with_reducible exact grow_call (IA2.out.c _)) | (go_at_call 175; with_reducible exact grow_call (IB1.out.c _)) | (go_at_call 175; with_reducible exact grow_call (IB2.out.c _)) | (go_at_call 175; with_reducible exact grow_call (IB3.out.c _)) | (go_at_call 175; with_reducible exact grow_call (IC2.out.c _)))))
   refine wpQuiet_nil ?_
   intro g1
   go_wp2
   go_ret
   exact ⟨ret_bool (by simp []), gri⟩
  by_cases hm : n % 64 = 0
  ·have d1 : ((n : Int).tmod 64 == 0) = true := by simp [Int.tmod_eq_emod_of_nonneg]; omega
   have d2 : ((n : Int) % 64 == 0) = true := by simp; omega
   go_enter Tryz.func145, Tryz.ntmps145
   go_wp2
   refine wp_region_grow (by kernel_rfl) (by kernel_rfl) ?_
   repeat (go_big_quiet_step ((first | (go_at_call 176; with_reducible exact grow_call (HV.out.c _)) | (go_at_call 176; with_reducible exact grow_call (HT.out.c _)) | (go_at_call 176; with_reducible exact grow_call (HS.out.c _)) | (go_at_call 176; with_reducible exact grow_call (HA.out.c _)) | (go_at_call 176; with_reducible exact grow_call (HC.out.c _)) | (go_at_call 176; with_reducible exact grow_call (HD.out.c _)) | (go_at_call 175; with_reducible exact grow_call (IA1.out.c _)) | (go_at_call 175; with_reducible exact grow_call (IA2.out.c _)) | (go_at_call 175; with_reducible exact grow_call (IB1.out.c _)) | (go_at_call 175; with_reducible exact grow_call (IB2.out.c _)) | (go_at_call 175; with_reducible exact grow_call (IB3.out.c _)) | (go_at_call 175; with_reducible exact grow_call (IC2.out.c _)))))
   refine wpQuiet_nil ?_
   intro g0
   go_wp2
   refine wp_region_grow (by kernel_rfl) (by kernel_rfl) ?_
   repeat (go_big_quiet_step ((first | (go_at_call 176; with_reducible exact grow_call (HV.out.c _)) | (go_at_call 176; with_reducible exact grow_call (HT.out.c _)) | (go_at_call 176; with_reducible exact grow_call (HS.out.c _)) | (go_at_call 176; with_reducible exact grow_call (HA.out.c _)) | (go_at_call 176; with_reducible exact grow_call (HC.out.c _)) | (go_at_call 176; with_reducible exact grow_call (HD.out.c _)) | (go_at_call 175; with_reducible exact grow_call (IA1.out.c _)) | (go_at_call 175; with_reducible exact grow_call (IA2.out.c _)) | (go_at_call 175; with_reducible exact grow_call (IB1.out.c _)) | (go_at_call 175; with_reducible exact grow_call (IB2.out.c _)) | (go_at_call 175; with_reducible exact grow_call (IB3.out.c _)) | (go_at_call 175; with_reducible exact grow_call (IC2.out.c _)))))
   refine wpQuiet_nil ?_
   intro g1
   go_wp2
   refine wp_region_grow (by kernel_rfl) (by kernel_rfl) ?_
   repeat (go_big_quiet_step ((first | (go_at_call 176; with_reducible exact grow_call (HV.out.c _)) | (go_at_call 176; with_reducible exact grow_call (HT.out.c _)) | (go_at_call 176; with_reducible exact grow_call (HS.out.c _)) | (go_at_call 176; with_reducible exact grow_call (HA.out.c _)) | (go_at_call 176; with_reducible exact grow_call (HC.out.c _)) | (go_at_call 176; with_reducible exact grow_call (HD.out.c _)) | (go_at_call 175; with_reducible exact grow_call (IA1.out.c _)) | (go_at_call 175; with_reducible exact grow_call (IA2.out.c _)) | (go_at_call 175; with_reducible exact grow_call (IB1.out.c _)) | (go_at_call 175; with_reducible exact grow_call (IB2.out.c _)) | (go_at_call 175; with_reducible exact grow_call (IB3.out.c _)) | (go_at_call 175; with_reducible exact grow_call (IC2.out.c _)))))
   refine wpQuiet_nil ?_
   intro g2
   go_wp2
   go_ret
   exact ⟨ret_bool (by simp [hm]), gri⟩
  ·have d1 : ((n : Int).tmod 64 == 0) = false := by simp [Int.tmod_eq_emod_of_nonneg]; omega
   have d2 : ((n : Int) % 64 == 0) = false := by simp; omega
   go_enter Tryz.func145, Tryz.ntmps145
   go_wp2
   refine wp_region_grow (by kernel_rfl) (by kernel_rfl) ?_
   repeat (go_big_quiet_step ((first | (go_at_call 176; with_reducible exact grow_call (HV.out.c _)) | (go_at_call 176; with_reducible exact grow_call (HT.out.c _)) | (go_at_call 176; with_reducible exact grow_call (HS.out.c _)) | (go_at_call 176; with_reducible exact grow_call (HA.out.c _)) | (go_at_call 176; with_reducible exact grow_call (HC.out.c _)) | (go_at_call 176; with_reducible exact grow_call (HD.out.c _)) | (go_at_call 175; with_reducible exact grow_call (IA1.out.c _)) | (go_at_call 175; with_reducible exact grow_call (IA2.out.c _)) | (go_at_call 175; with_reducible exact grow_call (IB1.out.c _)) | (go_at_call 175; with_reducible exact grow_call (IB2.out.c _)) | (go_at_call 175; with_reducible exact grow_call (IB3.out.c _)) | (go_at_call 175; with_reducible exact grow_call (IC2.out.c _)))))
   refine wpQuiet_nil ?_
   intro g0
   go_wp2
   refine wp_region_grow (by kernel_rfl) (by kernel_rfl) ?_
   repeat (go_big_quiet_step ((first | (go_at_call 176; with_reducible exact grow_call (HV.out.c _)) | (go_at_call 176; with_reducible exact grow_call (HT.out.c _)) | (go_at_call 176; with_reducible exact grow_call (HS.out.c _)) | (go_at_call 176; with_reducible exact grow_call (HA.out.c _)) | (go_at_call 176; with_reducible exact grow_call (HC.out.c _)) | (go_at_call 176; with_reducible exact grow_call (HD.out.c _)) | (go_at_call 175; with_reducible exact grow_call (IA1.out.c _)) | (go_at_call 175; with_reducible exact grow_call (IA2.out.c _)) | (go_at_call 175; with_reducible exact grow_call (IB1.out.c _)) | (go_at_call 175; with_reducible exact grow_call (IB2.out.c _)) | (go_at_call 175; with_reducible exact grow_call (IB3.out.c _)) | (go_at_call 175; with_reducible exact grow_call (IC2.out.c _)))))
   refine wpQuiet_nil ?_
   intro g1
   go_wp2
   refine wp_region_grow (by kernel_rfl) (by kernel_rfl) ?_
   repeat (go_big_quiet_step ((first | (go_at_call 176; with_reducible exact grow_call (HV.out.c _)) | (go_at_call 176; with_reducible exact grow_call (HT.out.c _)) | (go_at_call 176; with_reducible exact grow_call (HS.out.c _)) | (go_at_call 176; with_reducible exact grow_call (HA.out.c _)) | (go_at_call 176; with_reducible exact grow_call (HC.out.c _)) | (go_at_call 176; with_reducible exact grow_call (HD.out.c _)) | (go_at_call 175; with_reducible exact grow_call (IA1.out.c _)) | (go_at_call 175; with_reducible exact grow_call (IA2.out.c _)) | (go_at_call 175; with_reducible exact grow_call (IB1.out.c _)) | (go_at_call 175; with_reducible exact grow_call (IB2.out.c _)) | (go_at_call 175; with_reducible exact grow_call (IB3.out.c _)) | (go_at_call 175; with_reducible exact grow_call (IC2.out.c _)))))
   refine wpQuiet_nil ?_
   intro g2
   go_wp2
   go_ret
   exact ⟨ret_bool (by simp [hm]), gri⟩
 rcases Bool.eq_false_or_eq_true (t == v) with ne | ne
 ·-- t = v
  go_enter Tryz.func145, Tryz.ntmps145
  go_wp2
  refine wp_region_grow (by kernel_rfl) (by kernel_rfl) ?_
  repeat (go_big_quiet_step ((first | (go_at_call 176; with_reducible exact grow_call (HV.out.c _)) | (go_at_call 176; with_reducible exact grow_call (HT.out.c _)) | (go_at_call 176; with_reducible exact grow_call (HS.out.c _)) | (go_at_call 176; with_reducible exact grow_call (HA.out.c _)) | (go_at_call 176; with_reducible exact grow_call (HC.out.c _)) | (go_at_call 176; with_reducible exact grow_call (HD.out.c _)) | (go_at_call 175; with_reducible exact grow_call (IA1.out.c _)) | (go_at_call 175; with_reducible exact grow_call (IA2.out.c _)) | (go_at_call 175; with_reducible exact grow_call (IB1.out.c _)) | (go_at_call 175; with_reducible exact grow_call (IB2.out.c _)) | (go_at_call 175; with_reducible exact grow_call (IB3.out.c _)) | (go_at_call 175; with_reducible exact grow_call (IC2.out.c _)))))
  refine wpQuiet_nil ?_
  intro g0
  go_wp2
  go_ret
  exact ⟨ret_bool (by simp [ne]), gri⟩
 cases B1
 ·-- B1 false
  go_enter Tryz.func145, Tryz.ntmps145
  go_wp2
  refine wp_region_grow (by kernel_rfl) (by kernel_rfl) ?_
  repeat (go_big_quiet_step ((first | (go_at_call 176; with_reducible exact grow_call (HV.out.c _)) | (go_at_call 176; with_reducible exact grow_call (HT.out.c _)) | (go_at_call 176; with_reducible exact grow_call (HS.out.c _)) | (go_at_call 176; with_reducible exact grow_call (HA.out.c _)) | (go_at_call 176; with_reducible exact grow_call (HC.out.c _)) | (go_at_call 176; with_reducible exact grow_call (HD.out.c _)) | (go_at_call 175; with_reducible exact grow_call (IA1.out.c _)) | (go_at_call 175; with_reducible exact grow_call (IA2.out.c _)) | (go_at_call 175; with_reducible exact grow_call (IB1.out.c _)) | (go_at_call 175; with_reducible exact grow_call (IB2.out.c _)) | (go_at_call 175; with_reducible exact grow_call (IB3.out.c _)) | (go_at_call 175; with_reducible exact grow_call (IC2.out.c _)))))
  refine wpQuiet_nil ?_
  intro g0
  go_wp2
  refine wp_region_grow (by kernel_rfl) (by kernel_rfl) ?_
  repeat (go_big_quiet_step ((first | (go_at_call 176; with_reducible exact grow_call (HV.out.c _)) | (go_at_call 176; with_reducible exact grow_call (HT.out.c _)) | (go_at_call 176; with_reducible exact grow_call (HS.out.c _)) | (go_at_call 176; with_reducible exact grow_call (HA.out.c _)) | (go_at_call 176; with_reducible exact grow_call (HC.out.c _)) | (go_at_call 176; with_reducible exact grow_call (HD.out.c _)) | (go_at_call 175; with_reducible exact grow_call (IA1.out.c _)) | (go_at_call 175; with_reducible exact grow_call (IA2.out.c _)) | (go_at_call 175; with_reducible exact grow_call (IB1.out.c _)) | (go_at_call 175; with_reducible exact grow_call (IB2.out.c _)) | (go_at_call 175; with_reducible exact grow_call (IB3.out.c _)) | (go_at_call 175; with_reducible exact grow_call (IC2.out.c _)))))
  refine wpQuiet_nil ?_
  intro g1
  go_wp2
  go_ret
  exact ⟨ret_bool (by simp []), gri⟩
 cases B2
 ·-- B2 false
  go_enter Tryz.func145, Tryz.ntmps145
  go_wp2
  refine wp_region_grow (by kernel_rfl) (by kernel_rfl) ?_
  repeat (go_big_quiet_step ((first | (go_at_call 176; with_reducible exact grow_call (HV.out.c _)) | (go_at_call 176; with_reducible exact grow_call (HT.out.c _)) | (go_at_call 176; with_reducible exact grow_call (HS.out.c _)) | (go_at_call 176; with_reducible exact grow_call (HA.out.c _)) | (go_at_call 176; with_reducible exact grow_call (HC.out.c _)) | (go_at_call 176; with_reducible exact grow_call (HD.out.c _)) | (go_at_call 175; with_reducible exact grow_call (IA1.out.c _)) | (go_at_call 175; with_reducible exact grow_call (IA2.out.c _)) | (go_at_call 175; with_reducible exact grow_call (IB1.out.c _)) | (go_at_call 175; with_reducible exact grow_call (IB2.out.c _)) | (go_at_call 175; with_reducible exact grow_call (IB3.out.c _)) | (go_at_call 175; with_reducible exact grow_call (IC2.out.c _)))))
  refine wpQuiet_nil ?_
  intro g0
  go_wp2
  refine wp_region_grow (by kernel_rfl) (by kernel_rfl) ?_
  repeat (go_big_quiet_step ((first | (go_at_call 176; with_reducible exact grow_call (HV.out.c _)) | (go_at_call 176; with_reducible exact grow_call (HT.out.c _)) | (go_at_call 176; with_reducible exact grow_call (HS.out.c _)) | (go_at_call 176; with_reducible exact grow_call (HA.out.c _)) | (go_at_call 176; with_reducible exact grow_call (HC.out.c _)) | (go_at_call 176; with_reducible exact grow_call (HD.out.c _)) | (go_at_call 175; with_reducible exact grow_call (IA1.out.c _)) | (go_at_call 175; with_reducible exact grow_call (IA2.out.c _)) | (go_at_call 175; with_reducible exact grow_call (IB1.out.c _)) | (go_at_call 175; with_reducible exact grow_call (IB2.out.c _)) | (go_at_call 175; with_reducible exact grow_call (IB3.out.c _)) | (go_at_call 175; with_reducible exact grow_call (IC2.out.c _)))))
  refine wpQuiet_nil ?_
  intro g1
  go_wp2
  go_ret
  exact ⟨ret_bool (by simp []), gri⟩
 cases B3
 ·-- B3 false
  go_enter Tryz.func145, Tryz.ntmps145
  go_wp2
  refine wp_region_grow (by kernel_rfl) (by kernel_rfl) ?_
  repeat (go_big_quiet_step ((first | (go_at_call 176; with_reducible exact grow_call (HV.out.c _)) | (go_at_call 176; with_reducible exact grow_call (HT.out.c _)) | (go_at_call 176; with_reducible exact grow_call (HS.out.c _)) | (go_at_call 176; with_reducible exact grow_call (HA.out.c _)) | (go_at_call 176; with_reducible exact grow_call (HC.out.c _)) | (go_at_call 176; with_reducible exact grow_call (HD.out.c _)) | (go_at_call 175; with_reducible exact grow_call (IA1.out.c _)) | (go_at_call 175; with_reducible exact grow_call (IA2.out.c _)) | (go_at_call 175; with_reducible exact grow_call (IB1.out.c _)) | (go_at_call 175; with_reducible exact grow_call (IB2.out.c _)) | (go_at_call 175; with_reducible exact grow_call (IB3.out.c _)) | (go_at_call 175; with_reducible exact grow_call (IC2.out.c _)))))
  refine wpQuiet_nil ?_
  intro g0
  go_wp2
  refine wp_region_grow (by kernel_rfl) (by kernel_rfl) ?_
  repeat (go_big_quiet_step ((first | (go_at_call 176; with_reducible exact grow_call (HV.out.c _)) | (go_at_call 176; with_reducible exact grow_call (HT.out.c _)) | (go_at_call 176; with_reducible exact grow_call (HS.out.c _)) | (go_at_call 176; with_reducible exact grow_call (HA.out.c _)) | (go_at_call 176; with_reducible exact grow_call (HC.out.c _)) | (go_at_call 176; with_reducible exact grow_call (HD.out.c _)) | (go_at_call 175; with_reducible exact grow_call (IA1.out.c _)) | (go_at_call 175; with_reducible exact grow_call (IA2.out.c _)) | (go_at_call 175; with_reducible exact grow_call (IB1.out.c _)) | (go_at_call 175; with_reducible exact grow_call (IB2.out.c _)) | (go_at_call 175; with_reducible exact grow_call (IB3.out.c _)) | (go_at_call 175; with_reducible exact grow_call (IC2.out.c _)))))
  refine wpQuiet_nil ?_
  intro g1
  go_wp2
  go_ret
  exact ⟨ret_bool (by simp []), gri⟩
 by_cases hm : n % 64 = 0
 ·have d1 : ((n : Int).tmod 64 == 0) = true := by simp [Int.tmod_eq_emod_of_nonneg]; omega
  have d2 : ((n : Int) % 64 == 0) = true := by simp; omega
  go_enter Tryz.func145, Tryz.ntmps145
  go_wp2
  refine wp_region_grow (by kernel_rfl) (by kernel_rfl) ?_
  repeat (go_big_quiet_step ((first | (go_at_call 176; with_reducible exact grow_call (HV.out.c _)) | (go_at_call 176; with_reducible exact grow_call (HT.out.c _)) | (go_at_call 176; with_reducible exact grow_call (HS.out.c _)) | (go_at_call 176; with_reducible exact grow_call (HA.out.c _)) | (go_at_call 176; with_reducible exact grow_call (HC.out.c _)) | (go_at_call 176; with_reducible exact grow_call (HD.out.c _)) | (go_at_call 175; with_reducible exact grow_call (IA1.out.c _)) | (go_at_call 175; with_reducible exact grow_call (IA2.out.c _)) | (go_at_call 175; with_reducible exact grow_call (IB1.out.c _)) | (go_at_call 175; with_reducible exact grow_call (IB2.out.c _)) | (go_at_call 175; with_reducible exact grow_call (IB3.out.c _)) | (go_at_call 175; with_reducible exact grow_call (IC2.out.c _)))))
  refine wpQuiet_nil ?_
  intro g0
  go_wp2
  refine wp_region_grow (by kernel_rfl) (by kernel_rfl) ?_
  repeat (go_big_quiet_step ((first | (go_at_call 176; with_reducible exact grow_call (HV.out.c _)) | (go_at_call 176; with_reducible exact grow_call (HT.out.c _)) | (go_at_call 176; with_reducible exact grow_call (HS.out.c _)) | (go_at_call 176; with_reducible exact grow_call (HA.out.c _)) | (go_at_call 176; with_reducible exact grow_call (HC.out.c _)) | (go_at_call 176; with_reducible exact grow_call (HD.out.c _)) | (go_at_call 175; with_reducible exact grow_call (IA1.out.c _)) | (go_at_call 175; with_reducible exact grow_call (IA2.out.c _)) | (go_at_call 175; with_reducible exact grow_call (IB1.out.c _)) | (go_at_call 175; with_reducible exact grow_call (IB2.out.c _)) | (go_at_call 175; with_reducible exact grow_call (IB3.out.c _)) | (go_at_call 175; with_reducible exact grow_call (IC2.out.c _)))))
  refine wpQuiet_nil ?_
  intro g1
  go_wp2
  refine wp_region_grow (by kernel_rfl) (by kernel_rfl) ?_
  repeat (go_big_quiet_step ((first | (go_at_call 176; with_reducible exact grow_call (HV.out.c _)) | (go_at_call 176; with_reducible exact grow_call (HT.out.c _)) | (go_at_call 176; with_reducible exact grow_call (HS.out.c _)) | (go_at_call 176; with_reducible exact grow_call (HA.out.c _)) | (go_at_call 176; with_reducible exact grow_call (HC.out.c _)) | (go_at_call 176; with_reducible exact grow_call (HD.out.c _)) | (go_at_call 175; with_reducible exact grow_call (IA1.out.c _)) | (go_at_call 175; with_reducible exact grow_call (IA2.out.c _)) | (go_at_call 175; with_reducible exact grow_call (IB1.out.c _)) | (go_at_call 175; with_reducible exact grow_call (IB2.out.c _)) | (go_at_call 175; with_reducible exact grow_call (IB3.out.c _)) | (go_at_call 175; with_reducible exact grow_call (IC2.out.c _)))))
  refine wpQuiet_nil ?_
  intro g2
  go_wp2
  go_ret
  exact ⟨ret_bool (by simp [hm, ne]), gri⟩
 ·have d1 : ((n : Int).tmod 64 == 0) = false := by simp [Int.tmod_eq_emod_of_nonneg]; omega
  have d2 : ((n : Int) % 64 == 0) = false := by simp; omega
  go_enter Tryz.func145, Tryz.ntmps145
  go_wp2
  refine wp_region_grow (by kernel_rfl) (by kernel_rfl) ?_
  repeat (go_big_quiet_step ((first | (go_at_call 176; with_reducible exact grow_call (HV.out.c _)) | (go_at_call 176; with_reducible exact grow_call (HT.out.c _)) | (go_at_call 176; with_reducible exact grow_call (HS.out.c _)) | (go_at_call 176; with_reducible exact grow_call (HA.out.c _)) | (go_at_call 176; with_reducible exact grow_call (HC.out.c _)) | (go_at_call 176; with_reducible exact grow_call (HD.out.c _)) | (go_at_call 175; with_reducible exact grow_call (IA1.out.c _)) | (go_at_call 175; with_reducible exact grow_call (IA2.out.c _)) | (go_at_call 175; with_reducible exact grow_call (IB1.out.c _)) | (go_at_call 175; with_reducible exact grow_call (IB2.out.c _)) | (go_at_call 175; with_reducible exact grow_call (IB3.out.c _)) | (go_at_call 175; with_reducible exact grow_call (IC2.out.c _)))))
  refine wpQuiet_nil ?_
  intro g0
  go_wp2
  refine wp_region_grow (by kernel_rfl) (by kernel_rfl) ?_
  repeat (go_big_quiet_step ((first | (go_at_call 176; with_reducible exact grow_call (HV.out.c _)) | (go_at_call 176; with_reducible exact grow_call (HT.out.c _)) | (go_at_call 176; with_reducible exact grow_call (HS.out.c _)) | (go_at_call 176; with_reducible exact grow_call (HA.out.c _)) | (go_at_call 176; with_reducible exact grow_call (HC.out.c _)) | (go_at_call 176; with_reducible exact grow_call (HD.out.c _)) | (go_at_call 175; with_reducible exact grow_call (IA1.out.c _)) | (go_at_call 175; with_reducible exact grow_call (IA2.out.c _)) | (go_at_call 175; with_reducible exact grow_call (IB1.out.c _)) | (go_at_call 175; with_reducible exact grow_call (IB2.out.c _)) | (go_at_call 175; with_reducible exact grow_call (IB3.out.c _)) | (go_at_call 175; with_reducible exact grow_call (IC2.out.c _)))))
  refine wpQuiet_nil ?_
  intro g1
  go_wp2
  refine wp_region_grow (by kernel_rfl) (by kernel_rfl) ?_
  repeat (go_big_quiet_step ((first | (go_at_call 176; with_reducible exact grow_call (HV.out.c _)) | (go_at_call 176; with_reducible exact grow_call (HT.out.c _)) | (go_at_call 176; with_reducible exact grow_call (HS.out.c _)) | (go_at_call 176; with_reducible exact grow_call (HA.out.c _)) | (go_at_call 176; with_reducible exact grow_call (HC.out.c _)) | (go_at_call 176; with_reducible exact grow_call (HD.out.c _)) | (go_at_call 175; with_reducible exact grow_call (IA1.out.c _)) | (go_at_call 175; with_reducible exact grow_call (IA2.out.c _)) | (go_at_call 175; with_reducible exact grow_call (IB1.out.c _)) | (go_at_call 175; with_reducible exact grow_call (IB2.out.c _)) | (go_at_call 175; with_reducible exact grow_call (IB3.out.c _)) | (go_at_call 175; with_reducible exact grow_call (IC2.out.c _)))))
  refine wpQuiet_nil ?_
  intro g2
  go_wp2
  go_ret
  exact ⟨ret_bool (by simp [hm]), gri⟩
theorem mayOpB_kind {xk xv xt xs xa xc : Int} {xn : Nat} {lx : List UInt8} (h : mayOpB xk xv xt xs xa xc xn lx = true) (hx : lx.length = xn) : 1 ≤ xk ∧ xk ≤ 9 ∧ xn ≤ 2048 := by
 have h1 : 1 ≤ xk ∧ xk ≤ 9 := by
  by_cases h2 : 1 ≤ xk ∧ xk ≤ 9
  ·exact h2
  ·unfold mayOpB at h
   repeat (rw [if_neg (by omega)] at h)
   cases h
 refine ⟨h1.1, h1.2, ?_⟩
 have h3 : xk = 1 ∨ xk = 2 ∨ xk = 3 ∨ xk = 4 ∨ xk = 5 ∨ xk = 6 ∨ xk = 7 ∨ xk = 8 ∨ xk = 9 := by omega
 rcases h3 with rfl | rfl | rfl | rfl | rfl | rfl | rfl | rfl | rfl
 all_goals
  simp [mayOpB, wData] at h
  first
   | omega
   | (have h4 : lx = [] := by simp [h]
      subst h4; simp at hx; omega)
theorem may13_any (k v t s a c : Int) (D : Option Addr) (n q : Nat) (l : List UInt8) (w : World) (hl : l.length = n) (hn : n ≤ 9223372036854775807) (v0 : 0 ≤ v) (t0 : 0 ≤ t) : Calls Tryz.prog 145 #[(Value.agg #[.int .i64 k, .int .u64 v, .int .u64 t, .int .i64 s, .int .i64 a, .int .i64 c, .slice D n q])] w fun e w' => e = .returned (.bool (mayOpB k v t s a c n l)) ∧ Gr w w' := by
 by_cases h : k < 1 ∨ 9 < k ∨ 4294967295 < v ∨ 4294967295 < t
 ·have e : mayOpB k v t s a c n l = false := by
   cases hm : mayOpB k v t s a c n l with
   | false => rfl
   | true =>
    have h1 := mayOpB_kind hm hl
    have h2 : v ≤ 4294967295 ∧ t ≤ 4294967295 := by
     have hk3 : k = 1 ∨ k = 2 ∨ k = 3 ∨ k = 4 ∨ k = 5 ∨ k = 6 ∨ k = 7 ∨ k = 8 ∨ k = 9 := by omega
     rcases hk3 with rfl | rfl | rfl | rfl | rfl | rfl | rfl | rfl | rfl <;> simp [mayOpB, wVol, wTo] at hm <;> omega
    omega
  rw [e]
  exact may13_early k v t s a c D n q w h
 ·have e : mayOpB k v t s a c n l = (inB (hasB k 118) 1 v 4294967295 && inB (hasB k 116) 1 t 4294967295 && !(hasB k 116 && t == v) && inB (hasB k 115) 0 s 256 && inB (hasB k 97) 0 a 1048576 && inB (hasB k 99) 1 c 1024 && decide (n % 64 = 0) && inB (hasB k 100) 1 ((n : Int) / 64) 32) := by
   have hle : (l == []) = decide (n = 0) := by cases l <;> simp_all <;> omega
   have hk3 : k = 1 ∨ k = 2 ∨ k = 3 ∨ k = 4 ∨ k = 5 ∨ k = 6 ∨ k = 7 ∨ k = 8 ∨ k = 9 := by omega
   rcases hk3 with rfl | rfl | rfl | rfl | rfl | rfl | rfl | rfl | rfl
   all_goals
    simp only [mayOpB, hle, wVol, wTo, wSize, wAt, wCount, wData, inB]
    simp only [show (hasB 1 118) = true from by decide, show (hasB 1 116) = false from by decide, show (hasB 1 115) = true from by decide, show (hasB 1 97) = false from by decide, show (hasB 1 99) = false from by decide, show (hasB 1 100) = false from by decide, show (hasB 2 118) = true from by decide, show (hasB 2 116) = false from by decide, show (hasB 2 115) = false from by decide, show (hasB 2 97) = false from by decide, show (hasB 2 99) = false from by decide, show (hasB 2 100) = false from by decide, show (hasB 3 118) = true from by decide, show (hasB 3 116) = false from by decide, show (hasB 3 115) = true from by decide, show (hasB 3 97) = false from by decide, show (hasB 3 99) = false from by decide, show (hasB 3 100) = false from by decide, show (hasB 4 118) = true from by decide, show (hasB 4 116) = true from by decide, show (hasB 4 115) = false from by decide, show (hasB 4 97) = false from by decide, show (hasB 4 99) = false from by decide, show (hasB 4 100) = false from by decide, show (hasB 5 118) = true from by decide, show (hasB 5 116) = false from by decide, show (hasB 5 115) = false from by decide, show (hasB 5 97) = true from by decide, show (hasB 5 99) = false from by decide, show (hasB 5 100) = true from by decide, show (hasB 6 118) = true from by decide, show (hasB 6 116) = false from by decide, show (hasB 6 115) = false from by decide, show (hasB 6 97) = true from by decide, show (hasB 6 99) = true from by decide, show (hasB 6 100) = false from by decide, show (hasB 7 118) = true from by decide, show (hasB 7 116) = false from by decide, show (hasB 7 115) = false from by decide, show (hasB 7 97) = true from by decide, show (hasB 7 99) = true from by decide, show (hasB 7 100) = false from by decide, show (hasB 8 118) = false from by decide, show (hasB 8 116) = false from by decide, show (hasB 8 115) = false from by decide, show (hasB 8 97) = false from by decide, show (hasB 8 99) = false from by decide, show (hasB 8 100) = false from by decide, show (hasB 9 118) = true from by decide, show (hasB 9 116) = false from by decide, show (hasB 9 115) = false from by decide, show (hasB 9 97) = true from by decide, show (hasB 9 99) = true from by decide, show (hasB 9 100) = false from by decide]
    rw [Bool.eq_iff_iff]
    simp
    omega
  rw [e]
  refine may13_core k v t s a c D n q w _ _ _ _ _ _ _ _ _ _ _ _ ⟨fun W => has13_v k W⟩ ⟨fun W => has13_t k W⟩ ⟨fun W => has13_s k W⟩ ⟨fun W => has13_a k W⟩ ⟨fun W => has13_c k W⟩ ⟨fun W => has13_d k W⟩ ⟨fun W => in13_any _ _ _ _ W⟩ ⟨fun W => in13_any _ _ _ _ W⟩ ⟨fun W => in13_any _ _ _ _ W⟩ ⟨fun W => in13_any _ _ _ _ W⟩ ⟨fun W => in13_any _ _ _ _ W⟩ ⟨fun W => in13_any _ _ _ _ W⟩ ?_ ?_ v0 ?_ t0 ?_ hn <;> omega
set_option maxRecDepth 100000
set_option maxHeartbeats 4000000
theorem idx_get {d : Dev} {v : Int} {x : VolM} (h : getK d v = some x) : ∃ i : Nat, idxK d v = i ∧ d[i]? = some (v, x) ∧ i < d.length := by
 cases hf : findN d v with
 | none => rw [findN_none, h] at hf; cases hf
 | some i =>
  obtain ⟨y, h1, h2⟩ := findN_some hf
  rw [h] at h2
  cases h2
  exact ⟨i, idx_some hf, h1, (List.getElem?_eq_some_iff.1 h1).1⟩
theorem idx_no {d : Dev} {v : Int} (h : getK d v = none) : idxK d v = -1 := idx_none (findN_none.2 h)
theorem idx_sign (d : Dev) (v : Int) : decide (0 ≤ idxK d v) = (getK d v).isSome := by
 cases h : getK d v with
 | none => rw [idx_no h]; rfl
 | some x => obtain ⟨i, hi, _⟩ := idx_get h; rw [hi]; simp
theorem rrefused_any (xk xv xt xs xa xc : Int) (xD : Option Addr) (xn xq : Nat) (lx : Byt) (hxn : lx.length = xn) (base R : Nat) (d : Dev) (w : World) (h : RefAt base w R d) (hl : d.length ≤ 1000000) (hn : xn ≤ 1000000) (v0 : 0 ≤ xv) (t0 : 0 ≤ xt) :
  Calls Tryz.prog 123 #[.pointer (some ⟨R, 0, none⟩), .agg #[.int .i64 xk, .int .u64 xv, .int .u64 xt, .int .i64 xs, .int .i64 xa, .int .i64 xc, .slice xD xn xq]] w fun e w' => e = .returned (.int .i64 (errK d ⟨xk, xv, xt, xs, xa, xc, lx⟩)) ∧ Gr w w' := by
 have hok : DevOk d := by obtain ⟨v, vf, h⟩ := h; exact h.ok
 have HM := Lib.hid (fun W => may13_any xk xv xt xs xa xc xD xn xq lx W hxn (by omega) v0 t0)
 have HF := Lib.hid (fun W (g : Gr w W) => rfind_any base R d xv W (h.gr g) hl)
 have HT := Lib.hid (fun W (g : Gr w W) => rfind_any base R d xt W (h.gr g) hl)
 have HH := Lib.hid h
 have eS := idx_sign d xt
 clear h
 cases hm : mayOpB xk xv xt xs xa xc xn lx with
 | false =>
  have he : errK d ⟨xk, xv, xt, xs, xa, xc, lx⟩ = 2 := by rw [errK, if_pos (by show mayOpB _ _ _ _ _ _ lx.length lx = false; rw [hxn]; exact hm)]
  rw [he]
  rw [hm] at HM
  have HE := Lib.hid hm
  clear hm
  go_enter Tryz.func123, Tryz.ntmps123
  go_wp2_with ((go_at_call 145; ((with_reducible refine (HM.out _).mono ?_); rintro _ _ ⟨rfl, g1, rfl⟩)))
  go_ret
  exact ⟨rfl, gri⟩
 | true =>
  have hmm : OpM.may ⟨xk, xv, xt, xs, xa, xc, lx⟩ = true := by show mayOpB _ _ _ _ _ _ lx.length lx = true; rw [hxn]; exact hm
  have hs := may_s hmm
  have hk9 := may_kind hmm
  simp only at hk9
  rw [hm] at HM
  have hE0 : errK d ⟨xk, xv, xt, xs, xa, xc, lx⟩ = if xk = 8 then 0 else match getK d xv with
   | none => if xk = 1 then 0 else 6
   | some x => if xk = 1 then 7 else if xk = 4 then (if (getK d xt).isSome then 7 else 0) else if xk = 5 then (if 4 * x.1 < xa + (xn / 64 : Nat) then 5 else 0)
    else if xk = 6 ∨ xk = 9 then (if 4 * x.1 < xa + xc then 5 else 0) else if xk = 7 then (if x.1 < xa + xc then 5 else 0) else 0 := by
   rw [errK, if_neg (by rw [hmm]; simp)]
   simp only [hxn]
   cases getK d xv <;> rfl
  obtain ⟨r, hr⟩ : ∃ r, r = errK d ⟨xk, xv, xt, xs, xa, xc, lx⟩ := ⟨_, rfl⟩
  rw [← hr]
  rw [hE0] at hr
  have h9 : xk = 1 ∨ xk = 2 ∨ xk = 3 ∨ xk = 4 ∨ xk = 5 ∨ xk = 6 ∨ xk = 7 ∨ xk = 8 ∨ xk = 9 := by omega
  have hat : xk = 5 ∨ xk = 6 ∨ xk = 7 ∨ xk = 9 → 0 ≤ xa ∧ xa ≤ 1048576 := hs.at_
  have hct : xk = 6 ∨ xk = 7 ∨ xk = 9 → 1 ≤ xc ∧ xc ≤ 1024 := hs.cnt
  clear hE0 hk9 hmm hs hm hxn
  cases hg : getK d xv with
  | none =>
   rw [idx_no hg] at HF
   rw [hg] at hr
   simp only at hr
   have HRR := Lib.hid hr
   clear hg eS HT hr
   rcases h9 with rfl | rfl | rfl | rfl | rfl | rfl | rfl | rfl | rfl
   all_goals
    clear hat hct
    go_enter Tryz.func123, Tryz.ntmps123
    go_wp2_with (((first | (go_at_call 145; with_reducible refine (HM.out _).mono ?_) | (go_at_call 24; with_reducible refine (HF.out _ gri).mono ?_)); rintro _ _ ⟨rfl, g1, rfl⟩))
    go_ret
    exact ⟨by have h9 := HRR.out; simp at h9; rw [h9]; rfl, gri⟩
  | some x =>
   obtain ⟨i, hi, hdi, hil⟩ := idx_get hg
   rw [hi] at HF
   rw [hg] at hr
   simp only at hr
   obtain ⟨v, vf, hH⟩ := HH.out
   obtain ⟨g, c, rfl, hbg, hgl, hne, hc1, hc2, _, hcl⟩ := hH.form (by rintro rfl; simp at hil)
   obtain ⟨c0, c1, c2⟩ := hcl i _ hdi
   simp only at c0 c1 c2
   rw [Nat.add_zero] at c0
   have hx := hok.vols _ (List.mem_of_getElem? hdi)
   have hx0 : 0 ≤ x.1 := hx.s0
   have hx1 : x.1 ≤ 256 := hx.s1
   have x0 : w.cell? ⟨R, 0, none⟩ = some (.slice (some ⟨g, 0, none⟩) d.length c) := (@block_cells _ _ 0 _ _ hH.blk).trans rfl
   haveI : Old R w := hH.blk.old
   haveI : Old g w := ⟨hgl⟩
   have HI := Lib.hid hi
   clear hcl hdi hg hi hH hx c0 c2 hok
   generalize d.length = N at *
   generalize x.1 = S at *
   have HRR := Lib.hid hr
   clear hr
   rcases h9 with rfl | rfl | rfl | rfl | rfl | rfl | rfl | rfl | rfl
   ·clear HH eS
    clear hat hct HT
    go_enter Tryz.func123, Tryz.ntmps123
    go_wp2_with (((first | (go_at_call 145; with_reducible refine (HM.out _).mono ?_) | (go_at_call 24; with_reducible refine (HF.out _ gri).mono ?_)); rintro _ _ ⟨rfl, g1, rfl⟩))
    go_ret
    exact ⟨by have h9 := HRR.out; simp at h9; rw [h9]; rfl, gri⟩
   ·clear HH eS
    clear hat hct HT
    go_enter Tryz.func123, Tryz.ntmps123
    go_wp2_with (((first | (go_at_call 145; with_reducible refine (HM.out _).mono ?_) | (go_at_call 24; with_reducible refine (HF.out _ gri).mono ?_)); rintro _ _ ⟨rfl, g1, rfl⟩))
    go_ret
    exact ⟨by have h9 := HRR.out; simp at h9; rw [h9]; rfl, gri⟩
   ·clear HH eS
    clear hat hct HT
    go_enter Tryz.func123, Tryz.ntmps123
    go_wp2_with (((first | (go_at_call 145; with_reducible refine (HM.out _).mono ?_) | (go_at_call 24; with_reducible refine (HF.out _ gri).mono ?_)); rintro _ _ ⟨rfl, g1, rfl⟩))
    go_ret
    exact ⟨by have h9 := HRR.out; simp at h9; rw [h9]; rfl, gri⟩
   ·clear HH
    clear hat hct
    cases hg2 : getK d xt with
    | none =>
     rw [idx_no hg2] at HT
     have HG2 := Lib.hid hg2
     clear hg2 eS
     go_enter Tryz.func123, Tryz.ntmps123
     go_wp2_with (first | ((first | (go_at_call 145; with_reducible refine (HM.out _).mono ?_) | (go_at_call 24; with_reducible refine (HF.out _ gri).mono ?_)); rintro _ _ ⟨rfl, g1, rfl⟩) | (go_at_call 24; ((with_reducible refine (HT.out _ gri).mono ?_); rintro _ _ ⟨rfl, g2, rfl⟩)))
     go_ret
     exact ⟨by have h9 := HRR.out; simp [HG2.out] at h9; rw [h9]; rfl, gri⟩
    | some y =>
     obtain ⟨i2, hi2, _, _⟩ := idx_get hg2
     rw [hi2] at HT
     have HG2 := Lib.hid hg2
     clear hg2 eS hi2
     go_enter Tryz.func123, Tryz.ntmps123
     go_wp2_with (first | ((first | (go_at_call 145; with_reducible refine (HM.out _).mono ?_) | (go_at_call 24; with_reducible refine (HF.out _ gri).mono ?_)); rintro _ _ ⟨rfl, g1, rfl⟩) | (go_at_call 24; ((with_reducible refine (HT.out _ gri).mono ?_); rintro _ _ ⟨rfl, g2, rfl⟩)))
     go_ret
     exact ⟨by have h9 := HRR.out; simp [HG2.out] at h9; rw [h9]; rfl, gri⟩
   ·clear HH eS
    have ha := hat (by simp)
    clear hat hct HT
    have e5 : ((xn / 64 : Nat) : Int) = (xn : Int) / 64 := by omega
    by_cases hfit : 4 * S < xa + (xn : Int) / 64
    ·have HV := Lib.hid (show 4 * S < xa + ((xn / 64 : Nat) : Int) from by omega)
     have d1 : decide (4 * S < xa + (xn : Int) / 64) = true := decide_eq_true hfit
     clear hfit
     go_enter Tryz.func123, Tryz.ntmps123
     go_wp2_with (((first | (go_at_call 145; with_reducible refine (HM.out _).mono ?_) | (go_at_call 24; with_reducible refine (HF.out _ gri).mono ?_)); rintro _ _ ⟨rfl, g1, rfl⟩))
     go_ret
     exact ⟨by have h9 := HRR.out; simp only [reduceIte, Int.reduceEq, true_or, or_true, or_false, false_or] at h9; rw [if_pos HV.out] at h9; rw [h9]; rfl, gri⟩
    ·have HV := Lib.hid (show ¬ 4 * S < xa + ((xn / 64 : Nat) : Int) from by omega)
     have d1 : decide (4 * S < xa + (xn : Int) / 64) = false := decide_eq_false hfit
     clear hfit
     go_enter Tryz.func123, Tryz.ntmps123
     go_wp2_with (((first | (go_at_call 145; with_reducible refine (HM.out _).mono ?_) | (go_at_call 24; with_reducible refine (HF.out _ gri).mono ?_)); rintro _ _ ⟨rfl, g1, rfl⟩))
     go_ret
     exact ⟨by have h9 := HRR.out; simp only [reduceIte, Int.reduceEq, true_or, or_true, or_false, false_or] at h9; rw [if_neg (Int.not_lt.2 HV.out)] at h9; rw [h9]; rfl, gri⟩
   ·clear HH eS
    have ha := hat (by simp)
    have hc := hct (by simp)
    clear hat hct HT
    by_cases hfit : 4 * S < xa + xc
    ·have HV := Lib.hid (show 4 * S < xa + xc from by omega)
     have d1 : decide (4 * S < xa + xc) = true := decide_eq_true hfit
     clear hfit
     go_enter Tryz.func123, Tryz.ntmps123
     go_wp2_with (((first | (go_at_call 145; with_reducible refine (HM.out _).mono ?_) | (go_at_call 24; with_reducible refine (HF.out _ gri).mono ?_)); rintro _ _ ⟨rfl, g1, rfl⟩))
     go_ret
     exact ⟨by have h9 := HRR.out; simp only [reduceIte, Int.reduceEq, true_or, or_true, or_false, false_or] at h9; rw [if_pos HV.out] at h9; rw [h9]; rfl, gri⟩
    ·have HV := Lib.hid (show ¬ 4 * S < xa + xc from by omega)
     have d1 : decide (4 * S < xa + xc) = false := decide_eq_false hfit
     clear hfit
     go_enter Tryz.func123, Tryz.ntmps123
     go_wp2_with (((first | (go_at_call 145; with_reducible refine (HM.out _).mono ?_) | (go_at_call 24; with_reducible refine (HF.out _ gri).mono ?_)); rintro _ _ ⟨rfl, g1, rfl⟩))
     go_ret
     exact ⟨by have h9 := HRR.out; simp only [reduceIte, Int.reduceEq, true_or, or_true, or_false, false_or] at h9; rw [if_neg (Int.not_lt.2 HV.out)] at h9; rw [h9]; rfl, gri⟩
   ·clear HH eS
    have ha := hat (by simp)
    have hc := hct (by simp)
    clear hat hct HT
    by_cases hfit : S < xa + xc
    ·have HV := Lib.hid (show S < xa + xc from by omega)
     have d1 : decide (S < xa + xc) = true := decide_eq_true hfit
     clear hfit
     go_enter Tryz.func123, Tryz.ntmps123
     go_wp2_with (((first | (go_at_call 145; with_reducible refine (HM.out _).mono ?_) | (go_at_call 24; with_reducible refine (HF.out _ gri).mono ?_)); rintro _ _ ⟨rfl, g1, rfl⟩))
     go_ret
     exact ⟨by have h9 := HRR.out; simp only [reduceIte, Int.reduceEq, true_or, or_true, or_false, false_or] at h9; rw [if_pos HV.out] at h9; rw [h9]; rfl, gri⟩
    ·have HV := Lib.hid (show ¬ S < xa + xc from by omega)
     have d1 : decide (S < xa + xc) = false := decide_eq_false hfit
     clear hfit
     go_enter Tryz.func123, Tryz.ntmps123
     go_wp2_with (((first | (go_at_call 145; with_reducible refine (HM.out _).mono ?_) | (go_at_call 24; with_reducible refine (HF.out _ gri).mono ?_)); rintro _ _ ⟨rfl, g1, rfl⟩))
     go_ret
     exact ⟨by have h9 := HRR.out; simp only [reduceIte, Int.reduceEq, true_or, or_true, or_false, false_or] at h9; rw [if_neg (Int.not_lt.2 HV.out)] at h9; rw [h9]; rfl, gri⟩
   ·clear HH eS
    clear hat hct HT
    go_enter Tryz.func123, Tryz.ntmps123
    go_wp2_with (((first | (go_at_call 145; with_reducible refine (HM.out _).mono ?_) | (go_at_call 24; with_reducible refine (HF.out _ gri).mono ?_)); rintro _ _ ⟨rfl, g1, rfl⟩))
    go_ret
    exact ⟨by have h9 := HRR.out; simp at h9; rw [h9]; rfl, gri⟩
   ·clear HH eS
    have ha := hat (by simp)
    have hc := hct (by simp)
    clear hat hct HT
    by_cases hfit : 4 * S < xa + xc
    ·have HV := Lib.hid (show 4 * S < xa + xc from by omega)
     have d1 : decide (4 * S < xa + xc) = true := decide_eq_true hfit
     clear hfit
     go_enter Tryz.func123, Tryz.ntmps123
     go_wp2_with (((first | (go_at_call 145; with_reducible refine (HM.out _).mono ?_) | (go_at_call 24; with_reducible refine (HF.out _ gri).mono ?_)); rintro _ _ ⟨rfl, g1, rfl⟩))
     go_ret
     exact ⟨by have h9 := HRR.out; simp only [reduceIte, Int.reduceEq, true_or, or_true, or_false, false_or] at h9; rw [if_pos HV.out] at h9; rw [h9]; rfl, gri⟩
    ·have HV := Lib.hid (show ¬ 4 * S < xa + xc from by omega)
     have d1 : decide (4 * S < xa + xc) = false := decide_eq_false hfit
     clear hfit
     go_enter Tryz.func123, Tryz.ntmps123
     go_wp2_with (((first | (go_at_call 145; with_reducible refine (HM.out _).mono ?_) | (go_at_call 24; with_reducible refine (HF.out _ gri).mono ?_)); rintro _ _ ⟨rfl, g1, rfl⟩))
     go_ret
     exact ⟨by have h9 := HRR.out; simp only [reduceIte, Int.reduceEq, true_or, or_true, or_false, false_or] at h9; rw [if_neg (Int.not_lt.2 HV.out)] at h9; rw [h9]; rfl, gri⟩
set_option maxRecDepth 100000
theorem fold_row : ∀ (cs : List Value) (off k : Nat) (a : Array Value), off + k + cs.length ≤ a.size → (cs.zipIdx k).foldl (fun (a : Array Value) (x : Value × Nat) => a.setIfInBounds (off + x.2) x.1) a = (a.toList.take (off + k) ++ cs ++ a.toList.drop (off + k + cs.length)).toArray
 | [], off, k, a, h => by simp
 | c :: cs, off, k, a, h => by
  rw [List.zipIdx_cons, List.foldl_cons, fold_row cs off (k + 1) _ (by simp at h ⊢; omega)]
  congr 1
  simp only [Array.toList_setIfInBounds, List.length_cons]
  simp at h
  have h1 : off + k < a.toList.length := by simp; omega
  rw [show off + (k + 1) = off + k + 1 by omega, List.take_set, List.drop_set_of_lt (by omega), show off + k + (cs.length + 1) = off + k + 1 + cs.length by omega]
  rw [List.take_add_one, List.getElem?_eq_getElem h1]
  rw [List.set_append_right _ _ (by simp; omega)]
  have : off + k - (a.toList.take (off + k)).length = 0 := by simp; omega
  rw [this]
  simp
theorem fold_rowA (cs a : Array Value) (off : Nat) (h : off + cs.size ≤ a.size) : cs.zipIdx.foldl (fun (a : Array Value) (x : Value × Nat) => a.setIfInBounds (off + x.2) x.1) a = (a.toList.take off ++ cs.toList ++ a.toList.drop (off + cs.size)).toArray := by
 have := fold_row cs.toList off 0 a (by simpa using h)
 simp only [Nat.add_zero, Array.length_toList] at this
 rw [← this, ← Array.foldl_toList, Array.toList_zipIdx]
def blkA (p : Int × Byt) : Array Value := (rbE.cs p).toArray
theorem blkA_size {p : Int × Byt} (h : p.2.length = 256) : (blkA p).size = 257 := by simp [blkA, rbE, h]
theorem builtBlk (parts : List (Nat × Value)) : Tryz.prog.built 120 parts = Instr.fill (fun i => #[(0, 1), (1, 256)][i]?) (#[.int .i64 0] ++ Tryz.zeroCells88) parts := by kernel_rfl
theorem buildBlk (n : Int) (B : Byt) (h : B.length = 256) (W : World) : (Instr.build 120 #[(0, .int .i64 n), (1, .agg (bkC B))]).run Tryz.prog W = .ok (.agg (blkA (n, B))) W := by
 have hb : (bkC B).size = 256 := by rw [bkC_size, h]
 have hz : (Tryz.zeroCells88).size = 256 := by kernel_rfl
 refine run_build W _ _ _ ?_
 rw [show (#[(0, Value.int .i64 n), (1, Value.agg (bkC B))] : Array (Nat × Value)).toList = [(0, .int .i64 n), (1, .agg (bkC B))] from rfl, builtBlk]
 generalize Tryz.zeroCells88 = z at *
 have e1 : (Value.int .i64 n).cells = #[.int .i64 n] := rfl
 have e2 : (Value.agg (bkC B)).cells = bkC B := rfl
 have f1 : (#[Value.int .i64 n] : Array Value).zipIdx.foldl (fun (cs : Array Value) (x : Value × Nat) => cs.setIfInBounds (0 + x.2) x.1) (#[.int .i64 0] ++ z) = #[.int .i64 n] ++ z := by
  rw [fold_rowA _ _ _ (by simp)]
  simp
 have f2 := fold_rowA (bkC B) (#[.int .i64 n] ++ z) 1 (by simp [hb, hz])
 have f3 : ((#[Value.int .i64 n] ++ z).toList.take 1 ++ (bkC B).toList ++ (#[Value.int .i64 n] ++ z).toList.drop (1 + (bkC B).size)).toArray = blkA (n, B) := by
  have : (#[Value.int .i64 n] ++ z).toList.drop (1 + (bkC B).size) = [] := List.drop_eq_nil_of_le (by simp [hb, hz])
  rw [this]
  simp [blkA, rbE, bkC]
 rw [f3] at f2
 simp only [Instr.fill, e1, e2]
 simp only [List.getElem?_toArray, List.getElem?_cons_zero, List.getElem?_cons_succ]
 rw [f1, f2]
 simp [hb, hz]
theorem build1B (p : Int × Byt) (h : p.2.length = 256) (W : World) : (Instr.buildSlice 62 1 #[(0, .agg (blkA p))]).run Tryz.prog W = .ok (.slice (some ⟨W.heap.size, 0, none⟩) 1 1) (W.alloc (.cells (blkA p) 120)) := by
 obtain ⟨i0, hi, hz0, hz2, hz3⟩ := info_parts rbIs.hE
 have hs := blkA_size h
 have hk : i0.size = 257 := hz2
 refine run_buildSlice W _ _ 1 _ (blkA p) i0 rbE.z rbIs.hT hi hz0 (by rw [hk]; decide) (by rw [hk]; decide) ?_
 rw [show (#[(0, Value.agg (blkA p))] : Array (Nat × Value)).toList = [(0, .agg (blkA p))] from rfl]
 generalize hzz : (Array.range (1 * i0.size)).map (rbE.z.cells[· % rbE.z.cells.size]!) = zz
 have hzs : zz.size = 257 := by rw [← hzz]; simp [hk]
 have e2 : (Value.agg (blkA p)).cells = blkA p := rfl
 have f := fold_rowA (blkA p) zz 0 (by omega)
 have f3 : (zz.toList.take 0 ++ (blkA p).toList ++ zz.toList.drop (0 + (blkA p).size)).toArray = blkA p := by
  have : zz.toList.drop (0 + (blkA p).size) = [] := List.drop_eq_nil_of_le (by simp [hs, hzs])
  rw [this]
  simp
 rw [f3] at f
 simp only [Instr.fill, e2, Nat.zero_mul]
 rw [f]
 simp [hs, hzs, hk]
section
variable {W : World} {ops : Array Oper} {rest : List Oper} {o : Oper} {a : Act} {Q : Exit → Act → World → Prop}
theorem wpLoadBlk (hgd : o.guard = none) (x : Operand) (ho : o.op = .load 120 x) (b q k : Nat) (m : List (Int × Byt)) (p : Int × Byt) (hx : a.eval x = .pointer (some ⟨b, q + k * 257, none⟩)) (hm : CellsN rbE W b q m) (hp : m[k]? = some p) (h256 : p.2.length = 256)
  (h : wpList Tryz.prog ops Q rest (a.put o.dst (.agg (blkA p))) W) : wpList Tryz.prog ops Q (o :: rest) a W :=
 wpLoadCs hgd _ x ho ⟨b, q + k * 257, none⟩ (rbE.cs p) _ hx Tryz.underlying120 rfl (by rw [rbIs.len p h256]; kernel_rfl) (fun j v hj => by rw [Go.WideShapes.add_plain]; exact hm k p hp j v hj) h
theorem wpBuildBlk (hgd : o.guard = none) (x y : Operand) (ho : o.op = .build 120 #[(0, x), (1, y)]) (n : Int) (B : Byt) (h256 : B.length = 256) (hx : a.eval x = .int .i64 n) (hy : a.eval y = .agg (bkC B))
  (h : wpList Tryz.prog ops Q rest (a.put o.dst (.agg (blkA (n, B)))) W) : wpList Tryz.prog ops Q (o :: rest) a W := by
 refine wpList_plain hgd fun K' hK' => ?_
 have hrun := buildBlk n B h256 W
 unfold Oper.wp execOp
 simp only [ho, List.map_toArray, List.map_cons, List.map_nil, hx, hy, Sem.run_bind, hrun, Result.andThen_ok]
 exact hK' _ _ h
theorem wpBuild1 (hgd : o.guard = none) (x : Operand) (ho : o.op = .buildSlice 62 1 #[(0, x)]) (p : Int × Byt) (h256 : p.2.length = 256) (hx : a.eval x = .agg (blkA p))
  (h : wpList Tryz.prog ops Q rest (a.put o.dst (.slice (some ⟨W.heap.size, 0, none⟩) 1 1)) (W.alloc (.cells (blkA p) 120))) : wpList Tryz.prog ops Q (o :: rest) a W := by
 refine wpList_plain hgd fun K' hK' => ?_
 have hrun := build1B p h256 W
 unfold Oper.wp execOp
 simp only [ho, List.map_toArray, List.map_cons, List.map_nil, hx, Sem.run_bind, hrun, Result.andThen_ok]
 exact hK' _ _ h
end
set_option maxRecDepth 100000
set_option maxHeartbeats 4000000
def StM (w : World) (g q : Nat) (m : List (Int × Byt)) (e : Ending) (w' : World) : Prop :=
 e = .returned (.tuple #[]) ∧ ∃ w1 u, Gr w w1 ∧ OwnN rbE w.heap.size w1 u m ∧ w' = w1.setCell ⟨g, q, none⟩ u
theorem set_lo {m : List (Int × Byt)} {n : Int} {B : Byt} {k : Nat} {p : Int × Byt} (hl : ∀ x ∈ m.take k, x.1 < n) (hp : m[k]? = some p) (h : n < p.1) : putK (m.take (k + 1)) n B = m.take k ++ [(n, B)] ++ [p] := by
 rw [List.take_add_one, hp, Option.toList_some, putK_low hl]
 obtain ⟨a, x⟩ := p
 simp only at h
 simp [putK, h]
theorem set_eq {m : List (Int × Byt)} {n : Int} {B : Byt} {k : Nat} {p : Int × Byt} (hl : ∀ x ∈ m.take k, x.1 < n) (hp : m[k]? = some p) (h : p.1 = n) : putK (m.take (k + 1)) n B = m.take k ++ [(n, B)] := by
 rw [List.take_add_one, hp, Option.toList_some, putK_low hl]
 obtain ⟨a, x⟩ := p
 simp only at h
 simp [putK, h]
theorem set_hi {m : List (Int × Byt)} {n : Int} {B : Byt} {k : Nat} {p : Int × Byt} (hl : ∃ x ∈ m.take k, n ≤ x.1) (hp : m[k]? = some p) : putK (m.take (k + 1)) n B = putK (m.take k) n B ++ [p] := by
 rw [List.take_add_one, hp, Option.toList_some, putK_high hl]
theorem set_end {m : List (Int × Byt)} {n : Int} {B : Byt} (hl : ∀ x ∈ m, x.1 < n) : putK m n B = m ++ [(n, B)] := by
 have := putK_low (r := []) (x := B) hl
 rwa [List.append_nil] at this
theorem putK_len (m : List (Int × Byt)) (n : Int) (B : Byt) : (putK m n B).length ≤ m.length + 1 := by
 induction m with
 | nil => simp [putK]
 | cons p r ih =>
  obtain ⟨a, x⟩ := p
  unfold putK
  split
  ·simp
  split
  ·simp
  ·simp; exact ih
theorem one_block {W : World} {B : Nat} (b : Int × Byt) (h : BlockAt W B (blkA b) 120) : CellsN rbE W B 0 [b] := CellsN.block b h (by simp [blkA])
theorem gr_frozen {w W : World} {g o : Nat} (hg : Gr w W) (hl : g < w.heap.size) (h : w.frozen? ⟨g, o, none⟩ = false) : W.frozen? ⟨g, o, none⟩ = false := by
 have := hg.below.block g hl
 unfold World.frozen? at h ⊢
 simp only [this]
 exact h
theorem rowCells {W : World} {b o : Nat} {m : List (Int × Byt)} {p : Int × Byt} (h : RowN rbE W (some ⟨b, o, none⟩) m) (hp : p ∈ m) : CellsN rbE W b o m := by
 obtain ⟨b', o', e, _, hc⟩ := h.at_ (by rintro rfl; cases hp)
 cases e
 exact hc
theorem take_has {m : List (Int × Byt)} {k : Nat} {p : Int × Byt} (h : m[k]? = some p) : p ∈ m.take (k + 1) := by
 rw [List.take_add_one, h]
 simp
theorem rset_any (g q : Nat) (v : Value) (m : List (Int × Byt)) (n : Int) (B : Byt) (hB : B.length = 256) (w : World) (hc : w.cell? ⟨g, q + 2, none⟩ = some v) (hfz : w.frozen? ⟨g, q + 2, none⟩ = false) (hm : BlkS w v m) (hs : SortK m) (hl : m.length ≤ 1000) : Calls Tryz.prog 129 #[.pointer (some ⟨g, q, none⟩), .int .i64 n, .agg (bkC B)] w (StM w g (q + 2) (putK m n B)) := by
 obtain ⟨A, c, hv, hc1, hc2, _, hr⟩ := hm.row
 obtain ⟨N, hN⟩ : ∃ N : Nat, N = m.length := ⟨_, rfl⟩
 rw [← hN] at hv hc1 hl
 subst hv
 have HN := Lib.hid hN
 have HR := Lib.hid hr
 haveI : Old g w := old_of_cell hc
 have HC := Lib.hid hc
 have HFZ := Lib.hid hfz
 haveI := bkC_row hB
 have HS := Lib.hid hs
 clear hr hc hm hs hN hfz
 go_enter Tryz.func129, Tryz.ntmps129
 go_wp2
 go_loopw [6, 7, 8] (fun v b i wr => ∃ (k : Nat) (put : Bool) (L : List (Int × Byt)), k ≤ N ∧ i = .int .i64 k ∧ b = .bool put ∧ ((put = true → (∃ x ∈ m.take k, n ≤ x.1) ∧ L = putK (m.take k) n B) ∧ (put = false → (∀ x ∈ m.take k, x.1 < n) ∧ L = m.take k)) ∧ OwnN rbE w.heap.size wr v L ∧ BlockAt wr w.heap.size (bkC B) 88 ∧ Gr w wr) (fun _ _ i _ => N - (intOf i).toNat)
 case atStart => exact ⟨0, false, [], Nat.zero_le _, rfl, rfl, by simp, OwnN.nil _ _, inferInstance, gri⟩
 case round =>
  obtain ⟨k, put, L, hk, rfl, rfl, hput, hown, hbk, hg⟩ := hrel
  have y0 : wr.cell? ⟨g, q + 2, none⟩ = some (.slice A N c) := (hg.below.cell (p := ⟨g, q + 2, none⟩) (old_of_cell HC.out).lt).trans HC.out
  have y1 : wr.frozen? ⟨g, q + 2, none⟩ = false := gr_frozen hg (old_of_cell HC.out).lt HFZ.out
  haveI : Old g wr := old_of_cell y0
  haveI := hbk
  haveI := grc_of hg
  haveI := from_of hg
  have HO := Lib.hid hown
  have HP0 := Lib.hid hput
  have HLn : L.length ≤ N + 1 := by
   cases put
   ·rw [(hput.2 rfl).2, HN.out]; simp; omega
   ·rw [(hput.1 rfl).2]; have := putK_len (m.take k) n B; have := List.length_take_le k m; rw [HN.out]; simp at *; omega
  clear hown hput
  by_cases hlt : k < N
  ·obtain ⟨p, hp⟩ : ∃ p, m[k]? = some p := ⟨_, List.getElem?_eq_getElem (by rw [← HN.out]; exact hlt)⟩
   obtain ⟨b, o, rfl, hbl, hcl⟩ := (HR.out.gr hg).at_ (by rintro rfl; have := HN.out; simp at this; omega)
   have c0 := (cells_blk hcl hp).1
   have h256 : p.2.length = 256 := HR.out.ok p (List.mem_of_getElem? hp)
   haveI : Old b wr := ⟨hbl⟩
   have HP := Lib.hid hp
   have HG := Lib.hid hg
   have HCL := Lib.hid hcl
   clear hcl hp hg
   cases put with
   | true =>
    obtain ⟨hex, hL⟩ := HP0.out.1 rfl
    have hne : ¬ p.1 = n := fun e => by
     obtain ⟨x, hx, hle⟩ := hex
     have := sort_low HS.out HP.out x hx
     omega
    have hb : (p.1 != n) = true := by rw [bne_iff_ne]; exact hne
    have HL := Lib.hid hL
    have HX := Lib.hid hex
    clear hne hex hL
    go_wp2_with (first | (refine wpLoadBlk rfl _ rfl b o k m p rfl HCL.out HP.out h256 ?_) | (refine wpBuild1 rfl _ rfl p h256 rfl ?_) | (at_builtin; refine wp_append_n rbIs (v := u6) rfl _ _ rfl rfl (HO.out.gr gri) _ 0 [p] 1 1 rfl rfl (fun x hx => by simp at hx; rw [hx]; exact h256) (one_block p inferInstance) (by simp; omega) past (by simp) ?_; intro v1 W1 h1; have H1 := Lib.hid h1; clear h1))
    go_roundw
    case rel => exact ⟨k + 1, true, _, hlt, by go_num, rfl, ⟨fun _ => ⟨by obtain ⟨x, hx, hle⟩ := HX.out; exact ⟨x, List.take_subset_take_left m (Nat.le_succ k) hx, hle⟩, by rw [set_hi HX.out HP.out, HL.out]⟩, fun h => by cases h⟩, H1.out.own, H1.out.keep _ _ _ inferInstance (by decide), by haveI := H1.out.grc w (Nat.le_refl _); exact gri⟩
    case measure => simp [intOf]; omega
   | false =>
    obtain ⟨hlo, hL⟩ := HP0.out.2 rfl
    have HL := Lib.hid hL
    have HX := Lib.hid hlo
    clear hL hlo
    by_cases hge : n ≤ p.1
    ·have d1 : decide (n ≤ p.1) = true := decide_eq_true hge
     by_cases hne : p.1 = n
     ·have hb : (p.1 != n) = false := by simp [hne]
      have HE := Lib.hid hne
      clear hne
      go_wp2_with (first | (refine wpLoadB rfl _ rfl _ _ rfl inferInstance inferInstance ?_) | (refine wpBuildBlk rfl _ _ rfl n B hB rfl rfl ?_) | (refine wpBuild1 rfl _ rfl (n, B) hB rfl ?_) | (at_builtin; refine wp_append_n rbIs (v := u6) rfl _ _ rfl rfl (HO.out.gr gri) _ 0 [(n, B)] 1 1 rfl rfl (fun x hx => by simp at hx; rw [hx]; exact hB) (one_block (n, B) inferInstance) (by simp; omega) past (by simp) ?_; intro v1 W1 h1; have H1 := Lib.hid h1; haveI := h1.grc w (Nat.le_refl _); haveI := h1.from_ w; have g1 : Gr w W1 := gri; have z0 : W1.cell? ⟨g, q + 2, none⟩ = some (.slice (some ⟨b, o, none⟩) N c) := (g1.below.cell (p := ⟨g, q + 2, none⟩) (old_of_cell HC.out).lt).trans HC.out; haveI : Old g W1 := old_of_cell z0; have HCL1 := Lib.hid (rowCells (HR.out.gr g1) (List.mem_of_getElem? HP.out)); have c1 := (cells_blk HCL1.out HP.out).1; haveI : Old b W1 := old_of_cell c1; have B1 := h1.keep _ _ _ (inferInstance : BlockAt _ w.heap.size (bkC B) 88) (by decide); haveI := B1; clear h1))
      go_roundw
      case rel => exact ⟨k + 1, true, _, hlt, by go_num, rfl, ⟨fun _ => ⟨⟨p, take_has HP.out, hge⟩, by rw [set_eq HX.out HP.out HE.out, HL.out]⟩, fun h => by cases h⟩, H1.out.own, inferInstance, gri⟩
      case measure => simp [intOf]; omega
     ·have hb : (p.1 != n) = true := by rw [bne_iff_ne]; exact hne
      have HE := Lib.hid hne
      clear hne
      go_wp2_with (first | (refine wpLoadB rfl _ rfl _ _ rfl inferInstance inferInstance ?_) | (refine wpBuildBlk rfl _ _ rfl n B hB rfl rfl ?_) | (refine wpBuild1 rfl _ rfl (n, B) hB rfl ?_) | (at_builtin; refine wp_append_n rbIs (v := u6) rfl _ _ rfl rfl (HO.out.gr gri) _ 0 [(n, B)] 1 1 rfl rfl (fun x hx => by simp at hx; rw [hx]; exact hB) (one_block (n, B) inferInstance) (by simp; omega) past (by simp) ?_; intro v1 W1 h1; have H1 := Lib.hid h1; haveI := h1.grc w (Nat.le_refl _); haveI := h1.from_ w; have g1 : Gr w W1 := gri; have z0 : W1.cell? ⟨g, q + 2, none⟩ = some (.slice (some ⟨b, o, none⟩) N c) := (g1.below.cell (p := ⟨g, q + 2, none⟩) (old_of_cell HC.out).lt).trans HC.out; haveI : Old g W1 := old_of_cell z0; have HCL1 := Lib.hid (rowCells (HR.out.gr g1) (List.mem_of_getElem? HP.out)); have c1 := (cells_blk HCL1.out HP.out).1; haveI : Old b W1 := old_of_cell c1; have B1 := h1.keep _ _ _ (inferInstance : BlockAt _ w.heap.size (bkC B) 88) (by decide); haveI := B1; clear h1) | (refine wpLoadBlk rfl _ rfl b o k m p rfl HCL1.out HP.out h256 ?_) | (refine wpBuild1 rfl _ rfl p h256 rfl ?_) | (at_builtin; refine wp_append_n rbIs (v := v1) rfl _ _ rfl rfl (H1.out.own.gr gri) _ 0 [p] 1 1 rfl rfl (fun x hx => by simp at hx; rw [hx]; exact h256) (one_block p inferInstance) (by simp; omega) past (by simp) ?_; intro v2 W2 h2; have H2 := Lib.hid h2; clear h2))
      go_roundw
      case rel => exact ⟨k + 1, true, _, hlt, by go_num, rfl, ⟨fun _ => ⟨⟨p, take_has HP.out, hge⟩, by rw [set_lo HX.out HP.out (by have := HE.out; omega), HL.out]⟩, fun h => by cases h⟩, H2.out.own, H2.out.keep _ _ _ inferInstance (by decide), by haveI := H2.out.grc w (Nat.le_refl _); exact gri⟩
      case measure => simp [intOf]; omega
    ·have d1 : decide (n ≤ p.1) = false := decide_eq_false hge
     have hb : (p.1 != n) = true := by rw [bne_iff_ne]; omega
     have HG2 := Lib.hid hge
     clear hge
     go_wp2_with (first | (refine wpLoadBlk rfl _ rfl b o k m p rfl HCL.out HP.out h256 ?_) | (refine wpBuild1 rfl _ rfl p h256 rfl ?_) | (at_builtin; refine wp_append_n rbIs (v := u6) rfl _ _ rfl rfl (HO.out.gr gri) _ 0 [p] 1 1 rfl rfl (fun x hx => by simp at hx; rw [hx]; exact h256) (one_block p inferInstance) (by simp; omega) past (by simp) ?_; intro v1 W1 h1; have H1 := Lib.hid h1; clear h1))
     go_roundw
     case rel => exact ⟨k + 1, false, _, hlt, by go_num, rfl, ⟨(fun h => by cases h), fun _ => ⟨fun x hx => by
      rw [List.take_add_one, HP.out] at hx
      rcases List.mem_append.1 hx with hx | hx
      ·exact HX.out x hx
      ·simp at hx; subst hx; have := HG2.out; omega, by rw [HL.out, List.take_add_one, HP.out]; rfl⟩⟩, H1.out.own, H1.out.keep _ _ _ inferInstance (by decide), by haveI := H1.out.grc w (Nat.le_refl _); exact gri⟩
     case measure => simp [intOf]; omega
  ·have : k = N := by omega
   subst this
   have HG := Lib.hid hg
   clear hg
   have e : m.take k = m := List.take_of_length_le (by rw [← HN.out]; omega)
   cases put with
   | true =>
    have hL : L = putK m n B := by rw [(HP0.out.1 rfl).2, e]
    subst hL
    clear e
    obtain ⟨A6, c6, rfl, _, _, _⟩ := HO.out.form rbIs
    go_wp2
    exact ⟨rfl, .tuple #[], by simp [results, go_sem], ⟨rfl, wr, _, HG.out, HO.out, rfl⟩⟩
   | false =>
    have hL : L = m := by rw [(HP0.out.2 rfl).2, e]
    have hlo : ∀ x ∈ m, x.1 < n := by have := (HP0.out.2 rfl).1; rwa [e] at this
    subst hL
    have HLO := Lib.hid (set_end (B := B) hlo)
    clear e hlo
    go_wp2_with (first | (refine wpLoadB rfl _ rfl _ _ rfl inferInstance inferInstance ?_) | (refine wpBuildBlk rfl _ _ rfl n B hB rfl rfl ?_) | (refine wpBuild1 rfl _ rfl (n, B) hB rfl ?_) | (at_builtin; refine wp_append_n rbIs (v := u6) rfl _ _ rfl rfl (HO.out.gr gri) _ 0 [(n, B)] 1 1 rfl rfl (fun x hx => by simp at hx; rw [hx]; exact hB) (one_block (n, B) inferInstance) (by simp; omega) past (by simp) ?_; intro v1 W1 h1; have H1 := Lib.hid h1; haveI := h1.grc w (Nat.le_refl _); haveI := h1.from_ w; have g1 : Gr w W1 := gri; have z0 : W1.cell? ⟨g, q + 2, none⟩ = some (.slice A k c) := (g1.below.cell (p := ⟨g, q + 2, none⟩) (old_of_cell HC.out).lt).trans HC.out; have z1 : W1.frozen? ⟨g, q + 2, none⟩ = false := gr_frozen g1 (old_of_cell HC.out).lt HFZ.out; haveI : Old g W1 := old_of_cell z0; obtain ⟨A6, c6, rfl, _, _, _⟩ := H1.out.own.form rbIs; clear h1))
    exact ⟨rfl, .tuple #[], by simp [results, go_sem], ⟨rfl, W1, _, g1, by rw [HLO.out]; have := H1.out.own; simp only [List.length_append, List.length_singleton] at this; exact this, rfl⟩⟩
theorem rdrop_any (g q : Nat) (v : Value) (m : List (Int × Byt)) (n1 n2 : Int) (w : World) (hc : w.cell? ⟨g, q + 2, none⟩ = some v) (hfz : w.frozen? ⟨g, q + 2, none⟩ = false) (hm : BlkS w v m) (hl : m.length ≤ 1000) : Calls Tryz.prog 125 #[.pointer (some ⟨g, q, none⟩), .int .i64 n1, .int .i64 n2] w (StM w g (q + 2) (m.filter fun p => decide (p.1 < n1 ∨ n2 ≤ p.1))) := by
 obtain ⟨A, c, hv, hc1, hc2, _, hr⟩ := hm.row
 obtain ⟨N, hN⟩ : ∃ N : Nat, N = m.length := ⟨_, rfl⟩
 rw [← hN] at hv hc1 hl
 subst hv
 have HN := Lib.hid hN
 have HR := Lib.hid hr
 haveI : Old g w := old_of_cell hc
 have HC := Lib.hid hc
 have HFZ := Lib.hid hfz
 clear hr hc hm hN hfz
 go_enter Tryz.func125, Tryz.ntmps125
 go_wp2
 go_loopw [6, 7] (fun v i wr => ∃ (k : Nat) (L : List (Int × Byt)), k ≤ N ∧ i = .int .i64 k ∧ L = (m.take k).filter (fun p => decide (p.1 < n1 ∨ n2 ≤ p.1)) ∧ OwnN rbE w.heap.size wr v L ∧ Gr w wr) (fun _ i _ => N - (intOf i).toNat)
 case atStart => exact ⟨0, [], Nat.zero_le _, rfl, by simp, OwnN.nil _ _, gri⟩
 case round =>
  obtain ⟨k, L, hk, rfl, hL, hown, hg⟩ := hrel
  have y0 : wr.cell? ⟨g, q + 2, none⟩ = some (.slice A N c) := (hg.below.cell (p := ⟨g, q + 2, none⟩) (old_of_cell HC.out).lt).trans HC.out
  have y1 : wr.frozen? ⟨g, q + 2, none⟩ = false := gr_frozen hg (old_of_cell HC.out).lt HFZ.out
  haveI : Old g wr := old_of_cell y0
  haveI := grc_of hg
  haveI := from_of hg
  have HO := Lib.hid hown
  have HL := Lib.hid hL
  have HLn : L.length ≤ N := by
   rw [hL, HN.out]
   exact Nat.le_trans (List.length_filter_le _ _) (by simp; omega)
  clear hown hL
  by_cases hlt : k < N
  ·obtain ⟨p, hp⟩ : ∃ p, m[k]? = some p := ⟨_, List.getElem?_eq_getElem (by rw [← HN.out]; exact hlt)⟩
   obtain ⟨b, o, rfl, hbl, hcl⟩ := (HR.out.gr hg).at_ (by rintro rfl; have := HN.out; simp at this; omega)
   have c0 := (cells_blk hcl hp).1
   have h256 : p.2.length = 256 := HR.out.ok p (List.mem_of_getElem? hp)
   haveI : Old b wr := ⟨hbl⟩
   have HP := Lib.hid hp
   have HG := Lib.hid hg
   have HCL := Lib.hid hcl
   clear hcl hp hg
   have hst : (m.take (k + 1)).filter (fun p => decide (p.1 < n1 ∨ n2 ≤ p.1)) = L ++ (if p.1 < n1 ∨ n2 ≤ p.1 then [p] else []) := by
    rw [List.take_add_one, HP.out, List.filter_append, ← HL.out]
    by_cases h : p.1 < n1 ∨ n2 ≤ p.1 <;> simp [h]
   have HST := Lib.hid hst
   clear hst
   by_cases h1 : p.1 < n1
   ·have d1 : decide (p.1 < n1) = true := decide_eq_true h1
    have HT := Lib.hid (show (if p.1 < n1 ∨ n2 ≤ p.1 then [p] else []) = [p] from if_pos (.inl h1))
    clear h1
    go_wp2_with (first | (refine wpLoadBlk rfl _ rfl b o k m p rfl HCL.out HP.out h256 ?_) | (refine wpBuild1 rfl _ rfl p h256 rfl ?_) | (at_builtin; refine wp_append_n rbIs (v := u6) rfl _ _ rfl rfl (HO.out.gr gri) _ 0 [p] 1 1 rfl rfl (fun x hx => by simp at hx; rw [hx]; exact h256) (one_block p inferInstance) (by simp; omega) past (by simp) ?_; intro v1 W1 h1; have H1 := Lib.hid h1; clear h1))
    go_roundw
    case rel => exact ⟨k + 1, _, hlt, by go_num, rfl, by rw [HST.out, HT.out]; exact H1.out.own, by haveI := H1.out.grc w (Nat.le_refl _); exact gri⟩
    case measure => simp [intOf]; omega
   ·have d1 : decide (p.1 < n1) = false := decide_eq_false h1
    by_cases h2 : n2 ≤ p.1
    ·have d2 : decide (n2 ≤ p.1) = true := decide_eq_true h2
     have HT := Lib.hid (show (if p.1 < n1 ∨ n2 ≤ p.1 then [p] else []) = [p] from if_pos (.inr h2))
     clear h1 h2
     go_wp2_with (first | (refine wpLoadBlk rfl _ rfl b o k m p rfl HCL.out HP.out h256 ?_) | (refine wpBuild1 rfl _ rfl p h256 rfl ?_) | (at_builtin; refine wp_append_n rbIs (v := u6) rfl _ _ rfl rfl (HO.out.gr gri) _ 0 [p] 1 1 rfl rfl (fun x hx => by simp at hx; rw [hx]; exact h256) (one_block p inferInstance) (by simp; omega) past (by simp) ?_; intro v1 W1 h1; have H1 := Lib.hid h1; clear h1))
     go_roundw
     case rel => exact ⟨k + 1, _, hlt, by go_num, rfl, by rw [HST.out, HT.out]; exact H1.out.own, by haveI := H1.out.grc w (Nat.le_refl _); exact gri⟩
     case measure => simp [intOf]; omega
    ·have d2 : decide (n2 ≤ p.1) = false := decide_eq_false h2
     have HT := Lib.hid (show (if p.1 < n1 ∨ n2 ≤ p.1 then [p] else []) = [] from if_neg (fun h => h.elim h1 h2))
     clear h1 h2
     go_wp2
     go_roundw
     case rel => exact ⟨k + 1, _, hlt, by go_num, rfl, by rw [HST.out, HT.out, List.append_nil]; exact HO.out, HG.out⟩
     case measure => simp [intOf]; omega
  ·have : k = N := by omega
   subst this
   have HG := Lib.hid hg
   clear hg
   have e : m.take k = m := List.take_of_length_le (by rw [← HN.out]; omega)
   have HE := Lib.hid (HL.out.trans (by rw [e]))
   clear e
   obtain ⟨A6, c6, rfl, _, _, _⟩ := HO.out.form rbIs
   go_wp2
   exact ⟨rfl, .tuple #[], by simp [results, go_sem], ⟨rfl, wr, _, HG.out, by rw [← HE.out]; exact HO.out, rfl⟩⟩
end Go.Proofs.YtipeblmgochdfaaGreat
