/- An act that came in, opened. Conditions: none. The walk of ScriptDeeds: it answers true. Conditions: the act's bytes and picks stand in memory; the tables stand. The walk of ScriptDeeds, of the leads, and whole: it answers true. Conditions: the act's bytes and picks stand in memory; the tables stand. -/
import Derived.Test.YtgjdgafoidppaaaGreatDoorQ18
import Derived.Test.YtgjdgafoidppaaaGreatDoorQ14
namespace Go.Proofs.YtgjdgafoidppaaaGreatDoor
open Go.RowKit Go.ChangeShapes Go.WideShapes
set_option linter.unusedVariables false
set_option linter.unusedSimpArgs false
set_option linter.unnecessarySimpa false
/-- Numbers that came in. -/
structure CameN (W : World) (D : Option Addr) (n q : Nat) (l : List Int) : Prop where
  len : l.length = n
  cap : n ≤ q
  big : n ≤ 9223372036854775807
  pk : Pk l
  row : Row (Value.int .i64) W D l
/-- An act that came in. -/
structure CameA (W : World) (k nd m ok ov ot os oa oc : Int) (D : Option Addr) (n q : Nat) (l : List UInt8) (f : Bool) (P : Option Addr) (pn pq : Nat) (px : List Int) : Prop where
  n0 : -9223372036854775808 ≤ nd
  n1 : nd ≤ 9223372036854775807
  m0 : -9223372036854775808 ≤ m
  m1 : m ≤ 9223372036854775807
  o : Came W ok ov ot os oa oc D n q l
  p : CameN W P pn pq px
section
variable {H : Type} {enc : TypeId × Value → H}
theorem i64_wf {z : Int} (h : (Lit.int .i64 z).wf = true) : -9223372036854775808 ≤ z ∧ z ≤ 9223372036854775807 := by
  simp [Lit.wf, IntKind.min, IntKind.max, IntKind.bits, IntKind.signed] at h
  omega
set_option maxRecDepth 100000 in
theorem open_act {W : World} {base : Nat} {v : Value} {d : DataW H} {p : List MemPlace} (hv : Value.okWide Tryz.prog W .any base 42 v) (h : DataW.Trod enc Tryz.prog W 0 (fun _ => true) true 42 v d p) :
    ∃ k nd m ok ov ot os oa oc D n q l f P pn pq px, v = .agg #[.int .i64 k, .int .i64 nd, .int .i64 m, .int .i64 ok, .int .u64 ov, .int .u64 ot, .int .i64 os, .int .i64 oa, .int .i64 oc, .slice D n q, .bool f, .slice P pn pq] ∧ CameA W k nd m ok ov ot os oa oc D n q l f P pn pq px := by
  obtain ⟨cs, rfl, hl, hc⟩ := open_cells [39, 3, 3, 22, 23, 23, 3, 3, 3, 24, 4, 40] Tryz.underlying42 (by kernel_rfl) (by kernel_rfl) hv
  obtain ⟨fuel, hd⟩ := h
  have hd : DataW.trod enc Tryz.prog W 0 (fun _ => true) true fuel 42 cs = some (d, p) := by simpa [Value.cells] using hd
  match cs, hl with
  | [c0, c1, c2, c3, c4, c5, c6, c7, c8, c9, c10, c11], _ =>
    obtain ⟨k, rfl, _⟩ := cell_int Tryz.underlying39 (hc 0 c0 _ rfl rfl)
    obtain ⟨nd, rfl, hnd⟩ := cell_int Tryz.underlying3 (hc 1 c1 _ rfl rfl)
    obtain ⟨m, rfl, hm⟩ := cell_int Tryz.underlying3 (hc 2 c2 _ rfl rfl)
    obtain ⟨f, rfl⟩ := cell_bool Tryz.underlying4 (hc 10 c10 _ rfl rfl)
    obtain ⟨xs, n0, _, _, _, hlen, hf⟩ := DataW.trod_struct Tryz.underlying42 hd
    obtain ⟨y3, hy3⟩ : ∃ y, xs[3]? = some y := ⟨xs[3]'(by rw [hlen]; decide), List.getElem?_eq_getElem _⟩
    obtain ⟨y5, hy5⟩ : ∃ y, xs[5]? = some y := ⟨xs[5]'(by rw [hlen]; decide), List.getElem?_eq_getElem _⟩
    have h3 := hf 3 _ rfl
    have h5 := hf 5 _ rfl
    rw [hy3] at h3
    rw [hy5] at h5
    obtain ⟨ok, ov, ot, os, oa, oc, D, n, q, l, he, hC⟩ := open_op_cells (base := base) (cs := [c3, c4, c5, c6, c7, c8, c9]) rfl (fun i c u h1 h2 => by
      match i, h1, h2 with
      | 0, h1, h2 => exact hc 3 c u h1 h2
      | 1, h1, h2 => exact hc 4 c u h1 h2
      | 2, h1, h2 => exact hc 5 c u h1 h2
      | 3, h1, h2 => exact hc 6 c u h1 h2
      | 4, h1, h2 => exact hc 7 c u h1 h2
      | 5, h1, h2 => exact hc 8 c u h1 h2
      | 6, h1, h2 => exact hc 9 c u h1 h2
      | i + 7, h1, h2 => simp at h1) h3
    obtain ⟨P, pq, px, zs, rfl, hq, hmx, hr, rfl, hz, _⟩ := open_nums (Value.int .i64) (fun z => z) Tryz.underlying40 Tryz.underlying3 (by kernel_rfl) (fun z hz => rfl) (c := c11) h5
    simp only [List.cons.injEq] at he
    obtain ⟨rfl, rfl, rfl, rfl, rfl, rfl, rfl, _⟩ := he
    have := has_i64 hnd
    have := has_i64 hm
    unfold maxLen at hmx
    rw [List.map_id'] at hr hq ⊢
    exact ⟨k, nd, m, ok, ov, ot, os, oa, oc, D, n, q, l, f, P, zs.length, pq, zs, rfl, by omega, by omega, by omega, by omega, hC, rfl, hq, by omega, ⟨fun z h => (i64_wf (hz z h)).1, fun z h => (i64_wf (hz z h)).2⟩, hr⟩
end
end Go.Proofs.YtgjdgafoidppaaaGreatDoor
namespace Go.Proofs.YtgjdgafoidppaaaGreatDoor
open Go.RowKit
set_option linter.unusedVariables false
set_option linter.unusedSimpArgs false
set_option linter.unnecessarySimpa false
theorem actOf_row (x : ByteArray) (hx : x.size ≤ 200000) (k1 nd1 m1 ok1 ov1 ot1 os1 oa1 oc1 : Int) (d1 : List UInt8) (f1 : Bool) (p1 : List Int) (hO : actRes x = ⟨k1, nd1, m1, ⟨ok1, ov1, ot1, os1, oa1, oc1, d1⟩, f1, p1⟩) (E : Int) (hE : actE x = E) (w : World) [hk : Tb w] [hm : Ml w] :
    Calls Tryz.prog 19 #[.string x] w fun e w' => ∃ A qa B qb, e = .returned (.tuple #[.agg #[.int .i64 k1, .int .i64 nd1, .int .i64 m1, .int .i64 ok1, .int .u64 ov1, .int .u64 ot1, .int .i64 os1, .int .i64 oa1, .int .i64 oc1, .slice A d1.length qa, .bool f1, .slice B p1.length qb], .int .i64 E]) ∧ Row bv w' A d1 ∧ Row (Value.int .i64) w' B p1 ∧ Gr w w' := by
  refine (actOf_any x hx w).mono ?_
  rintro e w' ⟨A, qa, B, qb, rfl, h1, h2, h3, h4, hg⟩
  rw [hO] at h2 h4 ⊢
  exact ⟨A, qa, B, qb, by rw [hE]; rfl, h2, h4, hg⟩
theorem ractOf_row (x : ByteArray) (hx : x.size ≤ 200000) (k1 nd1 m1 ok1 ov1 ot1 os1 oa1 oc1 : Int) (d1 : List UInt8) (f1 : Bool) (p1 : List Int) (hO : actRes x = ⟨k1, nd1, m1, ⟨ok1, ov1, ot1, os1, oa1, oc1, d1⟩, f1, p1⟩) (G : Bool) (hG : goodA x = G) (w : World) [hk : Tb w] :
    Calls Tryz.prog 20 #[.string x] w fun e w' => ∃ A qa B qb, e = .returned (.tuple #[.agg #[.int .i64 k1, .int .i64 nd1, .int .i64 m1, .int .i64 ok1, .int .u64 ov1, .int .u64 ot1, .int .i64 os1, .int .i64 oa1, .int .i64 oc1, .slice A d1.length qa, .bool f1, .slice B p1.length qb], .bool G]) ∧ Row bv w' A d1 ∧ Row (Value.int .i64) w' B p1 ∧ Gr w w' := by
  refine (ractOf_any x hx w).mono ?_
  rintro e w' ⟨A, qa, B, qb, rfl, h1, h2, h3, h4, hg⟩
  rw [hO] at h2 h4 ⊢
  exact ⟨A, qa, B, qb, by rw [hG]; rfl, h2, h4, hg⟩
theorem sameActB_refl (k nd m ok ov ot os oa oc : Int) (f : Bool) (l : List UInt8) (px : List Int) : sameActB k nd m ok ov ot os oa oc k nd m ok ov ot os oa oc f f l l px px = true := by simp [sameActB, sameB]
theorem sameAct26_refl (k1 nd1 m1 ok1 ov1 ot1 os1 oa1 oc1 : Int) (d1 : List UInt8) (f1 : Bool) (p1 : List Int) (A B A2 B2 : Option Addr) (qa qb qa2 qb2 : Nat) (hp : p1.length ≤ 9223372036854775807) (w : World) (h1 : Row bv w A d1) (h2 : Row bv w A2 d1) (h3 : Row (Value.int .i64) w B p1) (h4 : Row (Value.int .i64) w B2 p1) :
    Calls Tryz.prog 21 #[.agg #[.int .i64 k1, .int .i64 nd1, .int .i64 m1, .int .i64 ok1, .int .u64 ov1, .int .u64 ot1, .int .i64 os1, .int .i64 oa1, .int .i64 oc1, .slice A d1.length qa, .bool f1, .slice B p1.length qb], .agg #[.int .i64 k1, .int .i64 nd1, .int .i64 m1, .int .i64 ok1, .int .u64 ov1, .int .u64 ot1, .int .i64 os1, .int .i64 oa1, .int .i64 oc1, .slice A2 d1.length qa2, .bool f1, .slice B2 p1.length qb2]] w fun e w' => e = .returned (.bool true) ∧ Gr w w' := by
  have h := sameAct26_any k1 nd1 m1 ok1 ov1 ot1 os1 oa1 oc1 k1 nd1 m1 ok1 ov1 ot1 os1 oa1 oc1 A A2 B B2 d1.length qa d1.length qa2 p1.length qb p1.length qb2 f1 f1 d1 d1 p1 p1 w rfl rfl h1 h2 rfl rfl hp h3 h4
  rw [sameActB_refl] at h
  exact h
theorem acV_pk (x : ByteArray) (hx : x.size ≤ 200000) : (actRes x).pk.length ≤ 300000 := by
  have hw : ∀ y ∈ wordsB 32 x, y.size ≤ 200000 := fun y hy => Nat.le_trans (wordsB_each 32 x y hy) hx
  have h := (acV_bd (aKOf (hdW (wordsB 32 x))) (aKOf_le _) (isForce (hdW (wordsB 32 x))) (wordsB 32 x) hw).2.2.2.2.1
  unfold actRes
  split
  · exact h
  · exact Nat.zero_le _
theorem actT_yes (k nd m ok ov ot os oa oc : Int) (D : Option Addr) (n q : Nat) (l : List UInt8) (f : Bool) (P : Option Addr) (pn pq : Nat) (px : List Int) (w : World) [hk : Tb w] (n0 : -9223372036854775808 ≤ nd) (n1 : nd ≤ 9223372036854775807) (m0 : -9223372036854775808 ≤ m) (m1 : m ≤ 9223372036854775807) (B : Bd ov ot os oa oc) (hl : l.length = n) (hq : n ≤ q) (hn : n ≤ 9223372036854775807) (hr : Row bv w D l) (hpl : px.length = pn) (hpq : pn ≤ pq) (hpn : pn ≤ 9223372036854775807) (pk : Pk px) (hp : Row (Value.int .i64) w P px) (hM : mayActB k nd m ok ov ot os oa oc f n pn l px = true) :
    Calls Tryz.prog 15 #[.agg #[.int .i64 k, .int .i64 nd, .int .i64 m, .int .i64 ok, .int .u64 ov, .int .u64 ot, .int .i64 os, .int .i64 oa, .int .i64 oc, .slice D n q, .bool f, .slice P pn pq]] w fun e w' => e = .returned (.tuple #[.string ⟨(actTextL k nd m ok ov ot os oa oc f l px).toArray⟩, .int .i64 0]) ∧ Gr w w' := by
  have h := ActText_any k nd m ok ov ot os oa oc D P n q pn pq f l px w n0 n1 m0 m1 B hl hq hr hpl hpq pk hp hn hpn
  simp only [hM, if_true] at h
  exact h
theorem actT_no (k nd m ok ov ot os oa oc : Int) (D : Option Addr) (n q : Nat) (l : List UInt8) (f : Bool) (P : Option Addr) (pn pq : Nat) (px : List Int) (w : World) [hk : Tb w] (n0 : -9223372036854775808 ≤ nd) (n1 : nd ≤ 9223372036854775807) (m0 : -9223372036854775808 ≤ m) (m1 : m ≤ 9223372036854775807) (B : Bd ov ot os oa oc) (hl : l.length = n) (hq : n ≤ q) (hn : n ≤ 9223372036854775807) (hr : Row bv w D l) (hpl : px.length = pn) (hpq : pn ≤ pq) (hpn : pn ≤ 9223372036854775807) (pk : Pk px) (hp : Row (Value.int .i64) w P px) (hM : mayActB k nd m ok ov ot os oa oc f n pn l px = false) :
    Calls Tryz.prog 15 #[.agg #[.int .i64 k, .int .i64 nd, .int .i64 m, .int .i64 ok, .int .u64 ov, .int .u64 ot, .int .i64 os, .int .i64 oa, .int .i64 oc, .slice D n q, .bool f, .slice P pn pq]] w fun e w' => e = .returned (.tuple #[.string ⟨#[]⟩, .int .i64 2]) ∧ Gr w w' := by
  have h := ActText_any k nd m ok ov ot os oa oc D P n q pn pq f l px w n0 n1 m0 m1 B hl hq hr hpl hpq pk hp hn hpn
  simp only [hM, Bool.false_eq_true, if_false] at h
  exact h
theorem flip_no (k nd m ok ov ot os oa oc : Int) (D : Option Addr) (n q : Nat) (l : List UInt8) (f : Bool) (P : Option Addr) (pn pq : Nat) (px : List Int) (hM : mayActB k nd m ok ov ot os oa oc f n pn l px = true) (h7 : k ≠ 7) : f = false ∧ mayActB k nd m ok ov ot os oa oc true n pn l px = false := by
  by_cases hk9 : 1 ≤ k ∧ k ≤ 10
  · have h3 : k = 1 ∨ k = 2 ∨ k = 3 ∨ k = 4 ∨ k = 5 ∨ k = 6 ∨ k = 7 ∨ k = 8 ∨ k = 9 ∨ k = 10 := by omega
    rcases h3 with rfl | rfl | rfl | rfl | rfl | rfl | rfl | rfl | rfl | rfl
    all_goals first | exact absurd rfl h7 | skip
    all_goals
      simp only [mayActB, if_true, reduceCtorEq, Int.reduceEq, if_false, Bool.and_eq_true, beq_iff_eq] at hM
      have hf : f = false := by first | exact hM.1.2 | exact hM.2 | exact hM.1.1.2
      exact ⟨hf, by simp [mayActB]⟩
  · exfalso
    unfold mayActB at hM
    repeat (rw [if_neg (by omega)] at hM)
    cases hM
theorem lead_form (nd m ok ov ot os oa oc : Int) (D : Option Addr) (n q : Nat) (l : List UInt8) (f : Bool) (P : Option Addr) (pn pq : Nat) (px : List Int) (hl : l.length = n) (hpl : px.length = pn) (hM : mayActB 7 nd m ok ov ot os oa oc f n pn l px = true) : (nd = 0 ∨ nd = 1) ∧ m = 0 ∧ ok = 0 ∧ ov = 0 ∧ ot = 0 ∧ os = 0 ∧ oa = 0 ∧ oc = 0 ∧ l = [] ∧ n = 0 ∧ px = [] ∧ pn = 0 := by
  simp only [mayActB, if_true, reduceCtorEq, Int.reduceEq, if_false, Bool.and_eq_true, beq_iff_eq, nodeB, Bool.or_eq_true] at hM
  obtain ⟨rfl, rfl, rfl, rfl, rfl, rfl, rfl⟩ := same_zero (by first | exact hM.1.2 | exact hM.2.1 | exact hM.1.1.2)
  have hp : px = [] := by first | exact hM.2 | exact hM.1.2
  subst hp
  exact ⟨by omega, by omega, rfl, rfl, rfl, rfl, rfl, rfl, rfl, by simpa using hl.symm, rfl, by simpa using hpl.symm⟩
set_option maxRecDepth 100000 in
set_option maxHeartbeats 4000000 in
theorem deeds_much (k nd m ok ov ot os oa oc : Int) (D : Option Addr) (n q : Nat) (l : List UInt8) (f : Bool) (P : Option Addr) (pn pq : Nat) (px : List Int) (x : ByteArray) (w : World) [hk : Tb w] (h : 300 < pn ∨ 9000 < n ∨ 20000 < x.size) : Calls Tryz.prog 4 #[.agg #[.int .i64 k, .int .i64 nd, .int .i64 m, .int .i64 ok, .int .u64 ov, .int .u64 ot, .int .i64 os, .int .i64 oa, .int .i64 oc, .slice D n q, .bool f, .slice P pn pq], .string x] w fun e w' => e = .returned (.bool true) ∧ Gr w w' := by
  have HU := Lib.hid (fun W => big26_any k nd m ok ov ot os oa oc D P n q pn pq f W)
  have HK := Lib.hid (fun W (_ : Tb W) => known26_any W)
  by_cases h1 : 300 < pn ∨ 9000 < n
  · have e : (decide (300 < pn) || decide (9000 < n)) = true := by simpa using h1
    rw [e] at HU
    clear h h1 e
    go_enter Tryz.func4, Tryz.ntmps4
    go_wp2_with (first | (go_at_call 18; ((with_reducible refine (HU.out _).mono ?_); rintro _ _ ⟨rfl, gu, rfl⟩)) | (go_at_call 9; ((with_reducible refine (HK.out _ inferInstance).mono ?_); rintro _ _ ⟨rfl, gk, rfl⟩)))
    go_ret
    exact ⟨rfl, gri⟩
  · have e : (decide (300 < pn) || decide (9000 < n)) = false := by simpa using h1
    rw [e] at HU
    have h2 : (20000 : Int) < (x.size : Int) := by omega
    clear h h1 e
    go_enter Tryz.func4, Tryz.ntmps4
    go_wp2_with (first | (go_at_call 18; ((with_reducible refine (HU.out _).mono ?_); rintro _ _ ⟨rfl, gu, rfl⟩)) | (go_at_call 9; ((with_reducible refine (HK.out _ inferInstance).mono ?_); rintro _ _ ⟨rfl, gk, rfl⟩)))
    go_ret
    exact ⟨rfl, gri⟩
set_option maxRecDepth 100000 in
set_option maxHeartbeats 8000000 in
theorem deeds_not (k nd m ok ov ot os oa oc : Int) (D : Option Addr) (n q : Nat) (l : List UInt8) (f : Bool) (P : Option Addr) (pn pq : Nat) (px : List Int) (x : ByteArray) (w : World) [hk : Tb w] [hm : Ml w] (C : CameA w k nd m ok ov ot os oa oc D n q l f P pn pq px) (h1 : ¬ (300 < pn ∨ 9000 < n)) (h3 : x.size ≤ 20000) (hM : mayActB k nd m ok ov ot os oa oc f n pn l px = false) : Calls Tryz.prog 4 #[.agg #[.int .i64 k, .int .i64 nd, .int .i64 m, .int .i64 ok, .int .u64 ov, .int .u64 ot, .int .i64 os, .int .i64 oa, .int .i64 oc, .slice D n q, .bool f, .slice P pn pq], .string x] w fun e w' => e = .returned (.bool true) ∧ Gr w w' := by
  have HU := Lib.hid (fun W => big26_any k nd m ok ov ot os oa oc D P n q pn pq f W)
  have HK := Lib.hid (fun W (_ : Tb W) => known26_any W)
  have e : (decide (300 < pn) || decide (9000 < n)) = false := by simpa using h1
  rw [e] at HU
  clear e
  have h2 : ¬ (20000 : Int) < (x.size : Int) := by omega
  have hp9 := acV_pk x (by omega)
  obtain ⟨r, hr⟩ : ∃ r, actRes x = r := ⟨_, rfl⟩
  obtain ⟨k1, nd1, m1, ⟨ok1, ov1, ot1, os1, oa1, oc1, d1⟩, f1, p1⟩ := r
  rw [hr] at hp9
  simp only at hp9
  have HX1 := Lib.hid (fun W (_ : Tb W) (_ : Ml W) => actOf_row x (by omega) k1 nd1 m1 ok1 ov1 ot1 os1 oa1 oc1 d1 f1 p1 hr _ rfl W)
  have HX2 := Lib.hid (fun W (_ : Tb W) => ractOf_row x (by omega) k1 nd1 m1 ok1 ov1 ot1 os1 oa1 oc1 d1 f1 p1 hr _ rfl W)
  have HS := Lib.hid (fun W A B A2 B2 qa qb qa2 qb2 g1 g2 g3 g4 => sameAct26_refl k1 nd1 m1 ok1 ov1 ot1 os1 oa1 oc1 d1 f1 p1 A B A2 B2 qa qb qa2 qb2 (by omega) W g1 g2 g3 g4)
  have HM1 := Lib.hid (fun W (g1 : Row bv W D l) (g3 : Row (Value.int .i64) W P px) => mayAct_any k nd m ok ov ot os oa oc D P n q pn pq f l px W C.o.len C.o.big g1 C.p.len C.p.big g3)
  have HM2 := Lib.hid (fun W (g1 : Row bv W D l) (g3 : Row (Value.int .i64) W P px) => mayAct26_any k nd m ok ov ot os oa oc D P n q pn pq f l px W C.o.len C.o.big g1 C.p.len g3 C.o.b.v0 C.o.b.t0)
  rw [hM] at HM1 HM2
  have HA := Lib.hid (fun W (_ : Tb W) (g1 : Row bv W D l) (g3 : Row (Value.int .i64) W P px) => actT_no k nd m ok ov ot os oa oc D n q l f P pn pq px W C.n0 C.n1 C.m0 C.m1 C.o.b C.o.len C.o.cap C.o.big g1 C.p.len C.p.cap C.p.big C.p.pk g3 hM)
  have HR := Lib.hid C.o.row
  have HP := Lib.hid C.p.row
  clear hM C hr
  have hGE : (goodA x = true ∧ actE x = 0) ∨ (goodA x = false ∧ actE x = 4) := by
    cases h : goodA x <;> simp [actE, h]
  generalize goodA x = G at *
  generalize actE x = E at *
  rcases hGE with ⟨rfl, rfl⟩ | ⟨rfl, rfl⟩
  all_goals
    go_enter Tryz.func4, Tryz.ntmps4
    go_wp2_with (first | (go_at_call 18; ((with_reducible refine (HU.out _).mono ?_); rintro _ _ ⟨rfl, gu, rfl⟩)) | (go_at_call 19; ((with_reducible refine (HX1.out _ inferInstance inferInstance).mono ?_); rintro _ _ ⟨A1, q1, B1, qb1, rfl, hr1, hp1, g1, rfl⟩)))
    have HR1 := Lib.hid hr1; have HP1 := Lib.hid hp1; clear hr1 hp1
    go_wp2_with ((go_at_call 20; ((with_reducible refine (HX2.out _ inferInstance).mono ?_); rintro _ _ ⟨A2, q2, B2, qb2, rfl, hr2, hp2, g2, rfl⟩)))
    have HR2 := Lib.hid hr2; have HP2 := Lib.hid hp2; clear hr2 hp2
    refine wp_region_grow (by kernel_rfl) (by kernel_rfl) ?_
    repeat (go_big_quiet_step ((first | (go_at_call 21; with_reducible exact grow_call (HS.out _ A1 B1 A2 B2 q1 qb1 q2 qb2 (HR1.out.gr gri) (HR2.out.gr gri) (HP1.out.gr gri) (HP2.out.gr gri))) | (go_at_call 13; with_reducible exact grow_call_same (num26_any _ _)) | (go_at_call 22; with_reducible exact grow_call (HM1.out _ (HR.out.gr gri) (HP.out.gr gri))) | (go_at_call 23; with_reducible exact grow_call (HM2.out _ (HR.out.gr gri) (HP.out.gr gri))))))
    refine wpQuiet_nil ?_
    intro g9
    go_wp2_with (first | (go_at_call 13; ((with_reducible refine (num26_any _ _).mono ?_); rintro _ _ ⟨rfl, rfl⟩)) | (go_at_call 23; ((with_reducible refine (HM2.out _ (HR.out.gr gri) (HP.out.gr gri)).mono ?_); rintro _ _ ⟨rfl, g5, rfl⟩)) | (go_at_call 15; ((with_reducible refine (HA.out _ inferInstance (HR.out.gr gri) (HP.out.gr gri)).mono ?_); rintro _ _ ⟨rfl, g6, rfl⟩)) | (go_at_call 9; ((with_reducible refine (HK.out _ inferInstance).mono ?_); rintro _ _ ⟨rfl, gk, rfl⟩)))
    go_ret
    exact ⟨rfl, gri⟩
set_option maxRecDepth 100000 in
set_option maxHeartbeats 8000000 in
theorem deeds_else (k nd m ok ov ot os oa oc : Int) (D : Option Addr) (n q : Nat) (l : List UInt8) (f : Bool) (P : Option Addr) (pn pq : Nat) (px : List Int) (x : ByteArray) (w : World) [hk : Tb w] [hm : Ml w] (C : CameA w k nd m ok ov ot os oa oc D n q l f P pn pq px) (h1 : ¬ (300 < pn ∨ 9000 < n)) (h3 : x.size ≤ 20000) (hM : mayActB k nd m ok ov ot os oa oc f n pn l px = true) (h7 : k ≠ 7) : Calls Tryz.prog 4 #[.agg #[.int .i64 k, .int .i64 nd, .int .i64 m, .int .i64 ok, .int .u64 ov, .int .u64 ot, .int .i64 os, .int .i64 oa, .int .i64 oc, .slice D n q, .bool f, .slice P pn pq], .string x] w fun e w' => e = .returned (.bool true) ∧ Gr w w' := by
  obtain ⟨rfl, hM2⟩ := flip_no k nd m ok ov ot os oa oc D n q l f P pn pq px hM h7
  have hk7 : (k == 7) = false := by simpa using h7
  have hk8 : (k != 7) = true := by simpa using h7
  have HU := Lib.hid (fun W => big26_any k nd m ok ov ot os oa oc D P n q pn pq false W)
  have HK := Lib.hid (fun W (_ : Tb W) => known26_any W)
  have e : (decide (300 < pn) || decide (9000 < n)) = false := by simpa using h1
  rw [e] at HU
  clear e
  have h2 : ¬ (20000 : Int) < (x.size : Int) := by omega
  have hp9 := acV_pk x (by omega)
  obtain ⟨r, hr⟩ : ∃ r, actRes x = r := ⟨_, rfl⟩
  obtain ⟨k1, nd1, m1, ⟨ok1, ov1, ot1, os1, oa1, oc1, d1⟩, f1, p1⟩ := r
  rw [hr] at hp9
  simp only at hp9
  have HX1 := Lib.hid (fun W (_ : Tb W) (_ : Ml W) => actOf_row x (by omega) k1 nd1 m1 ok1 ov1 ot1 os1 oa1 oc1 d1 f1 p1 hr _ rfl W)
  have HX2 := Lib.hid (fun W (_ : Tb W) => ractOf_row x (by omega) k1 nd1 m1 ok1 ov1 ot1 os1 oa1 oc1 d1 f1 p1 hr _ rfl W)
  have HS := Lib.hid (fun W A B A2 B2 qa qb qa2 qb2 g1 g2 g3 g4 => sameAct26_refl k1 nd1 m1 ok1 ov1 ot1 os1 oa1 oc1 d1 f1 p1 A B A2 B2 qa qb qa2 qb2 (by omega) W g1 g2 g3 g4)
  have HM1 := Lib.hid (fun W (g1 : Row bv W D l) (g3 : Row (Value.int .i64) W P px) => mayAct_any k nd m ok ov ot os oa oc D P n q pn pq false l px W C.o.len C.o.big g1 C.p.len C.p.big g3)
  have HM2 := Lib.hid (fun W (g1 : Row bv W D l) (g3 : Row (Value.int .i64) W P px) => mayAct26_any k nd m ok ov ot os oa oc D P n q pn pq false l px W C.o.len C.o.big g1 C.p.len g3 C.o.b.v0 C.o.b.t0)
  rw [hM] at HM1 HM2
  have HA := Lib.hid (fun W (_ : Tb W) (g1 : Row bv W D l) (g3 : Row (Value.int .i64) W P px) => actT_yes k nd m ok ov ot os oa oc D n q l false P pn pq px W C.n0 C.n1 C.m0 C.m1 C.o.b C.o.len C.o.cap C.o.big g1 C.p.len C.p.cap C.p.big C.p.pk g3 hM)
  have HB := Lib.hid (fun W (_ : Tb W) (g1 : Row bv W D l) (g3 : Row (Value.int .i64) W P px) => actT_no k nd m ok ov ot os oa oc D n q l true P pn pq px W C.n0 C.n1 C.m0 C.m1 C.o.b C.o.len C.o.cap C.o.big g1 C.p.len C.p.cap C.p.big C.p.pk g3 hM2)
  have HRT := Lib.hid (fun W (_ : Tb W) (g1 : Row bv W D l) (g3 : Row (Value.int .i64) W P px) => ractText_any k nd m ok ov ot os oa oc false D P n q pn pq l px W hM C.o.b C.o.len C.o.cap g1 C.p.len g3)
  generalize (⟨(actTextL k nd m ok ov ot os oa oc false l px).toArray⟩ : ByteArray) = S at *
  clear hM2
  have HR := Lib.hid C.o.row
  have HP := Lib.hid C.p.row
  clear hM C hr
  have hGE : (goodA x = true ∧ actE x = 0) ∨ (goodA x = false ∧ actE x = 4) := by
    cases h : goodA x <;> simp [actE, h]
  generalize goodA x = G at *
  generalize actE x = E at *
  rcases hGE with ⟨rfl, rfl⟩ | ⟨rfl, rfl⟩
  all_goals
    go_enter Tryz.func4, Tryz.ntmps4
    go_wp2_with (first | (go_at_call 18; ((with_reducible refine (HU.out _).mono ?_); rintro _ _ ⟨rfl, gu, rfl⟩)) | (go_at_call 19; ((with_reducible refine (HX1.out _ inferInstance inferInstance).mono ?_); rintro _ _ ⟨A1, q1, B1, qb1, rfl, hr1, hp1, g1, rfl⟩)))
    have HR1 := Lib.hid hr1; have HP1 := Lib.hid hp1; clear hr1 hp1
    go_wp2_with ((go_at_call 20; ((with_reducible refine (HX2.out _ inferInstance).mono ?_); rintro _ _ ⟨A2, q2, B2, qb2, rfl, hr2, hp2, g2, rfl⟩)))
    have HR2 := Lib.hid hr2; have HP2 := Lib.hid hp2; clear hr2 hp2
    refine wp_region_grow (by kernel_rfl) (by kernel_rfl) ?_
    repeat (go_big_quiet_step ((first | (go_at_call 21; with_reducible exact grow_call (HS.out _ A1 B1 A2 B2 q1 qb1 q2 qb2 (HR1.out.gr gri) (HR2.out.gr gri) (HP1.out.gr gri) (HP2.out.gr gri))) | (go_at_call 13; with_reducible exact grow_call_same (num26_any _ _)) | (go_at_call 22; with_reducible exact grow_call (HM1.out _ (HR.out.gr gri) (HP.out.gr gri))) | (go_at_call 23; with_reducible exact grow_call (HM2.out _ (HR.out.gr gri) (HP.out.gr gri))))))
    refine wpQuiet_nil ?_
    intro g9
    go_wp2_with (first | (go_at_call 13; ((with_reducible refine (num26_any _ _).mono ?_); rintro _ _ ⟨rfl, rfl⟩)) | (go_at_call 23; ((with_reducible refine (HM2.out _ (HR.out.gr gri) (HP.out.gr gri)).mono ?_); rintro _ _ ⟨rfl, g5, rfl⟩)) | (go_at_call 15; ((with_reducible refine (HA.out _ inferInstance (HR.out.gr gri) (HP.out.gr gri)).mono ?_); rintro _ _ ⟨rfl, g6, rfl⟩)) | (go_at_call 15; ((with_reducible refine (HB.out _ inferInstance (HR.out.gr gri) (HP.out.gr gri)).mono ?_); rintro _ _ ⟨rfl, g7, rfl⟩)) | (go_at_call 24; ((with_reducible refine (HRT.out _ inferInstance (HR.out.gr gri) (HP.out.gr gri)).mono ?_); rintro _ _ ⟨rfl, g8, rfl⟩)) | (go_at_call 9; ((with_reducible refine (HK.out _ inferInstance).mono ?_); rintro _ _ ⟨rfl, gk, rfl⟩)))
    go_ret
    exact ⟨rfl, gri⟩
end Go.Proofs.YtgjdgafoidppaaaGreatDoor
namespace Go.Proofs.YtgjdgafoidppaaaGreatDoor
open Go.RowKit
set_option linter.unusedVariables false
set_option linter.unusedSimpArgs false
set_option linter.unnecessarySimpa false
set_option maxRecDepth 100000 in
set_option maxHeartbeats 8000000 in
theorem deeds_7_0f (D P : Option Addr) (q pq : Nat) (x : ByteArray) (w : World) [hk : Tb w] [hm : Ml w] (C : CameA w 7 0 0 0 0 0 0 0 0 D 0 q [] false P 0 pq []) (h3 : x.size ≤ 20000) : Calls Tryz.prog 4 #[.agg #[.int .i64 7, .int .i64 0, .int .i64 0, .int .i64 0, .int .u64 0, .int .u64 0, .int .i64 0, .int .i64 0, .int .i64 0, .slice D 0 q, .bool false, .slice P 0 pq], .string x] w fun e w' => e = .returned (.bool true) ∧ Gr w w' := by
  have hM : mayActB 7 0 0 0 0 0 0 0 0 false 0 0 [] [] = true := by decide
  have hM2 : mayActB 7 0 0 0 0 0 0 0 0 true 0 0 [] [] = true := by decide
  have t1 : (⟨(actTextL 7 0 0 0 0 0 0 0 0 false [] []).toArray⟩ : ByteArray) = ⟨#[108, 101, 97, 100, 32, 48]⟩ := by
    have hp : actPieces 7 0 0 0 0 0 0 0 0 false [] [] = [⟨#[108, 101, 97, 100]⟩, ⟨(Lib.itoa 0).toArray⟩] := rfl
    rw [actTextL, hp, show Lib.itoa 0 = [48] from itoa_small 0 (by omega)]
    rfl
  have t2 : (⟨(actTextL 7 0 0 0 0 0 0 0 0 true [] []).toArray⟩ : ByteArray) = ⟨#[102, 111, 114, 99, 101, 32, 48]⟩ := by
    have hp : actPieces 7 0 0 0 0 0 0 0 0 true [] [] = [⟨#[102, 111, 114, 99, 101]⟩, ⟨(Lib.itoa 0).toArray⟩] := rfl
    rw [actTextL, hp, show Lib.itoa 0 = [48] from itoa_small 0 (by omega)]
    rfl
  have HU := Lib.hid (fun W => big26_any 7 0 0 0 0 0 0 0 0 D P 0 q 0 pq false W)
  have HK := Lib.hid (fun W (_ : Tb W) => known26_any W)
  have e : (decide (300 < 0) || decide (9000 < 0)) = false := by decide
  rw [e] at HU
  clear e
  have h2 : ¬ (20000 : Int) < (x.size : Int) := by omega
  have hp9 := acV_pk x (by omega)
  obtain ⟨r, hr⟩ : ∃ r, actRes x = r := ⟨_, rfl⟩
  obtain ⟨k1, nd1, m1, ⟨ok1, ov1, ot1, os1, oa1, oc1, d1⟩, f1, p1⟩ := r
  rw [hr] at hp9
  simp only at hp9
  have HX1 := Lib.hid (fun W (_ : Tb W) (_ : Ml W) => actOf_row x (by omega) k1 nd1 m1 ok1 ov1 ot1 os1 oa1 oc1 d1 f1 p1 hr _ rfl W)
  have HX2 := Lib.hid (fun W (_ : Tb W) => ractOf_row x (by omega) k1 nd1 m1 ok1 ov1 ot1 os1 oa1 oc1 d1 f1 p1 hr _ rfl W)
  have HS := Lib.hid (fun W A B A2 B2 qa qb qa2 qb2 g1 g2 g3 g4 => sameAct26_refl k1 nd1 m1 ok1 ov1 ot1 os1 oa1 oc1 d1 f1 p1 A B A2 B2 qa qb qa2 qb2 (by omega) W g1 g2 g3 g4)
  have HM1 := Lib.hid (fun W (g1 : Row bv W D []) (g3 : Row (Value.int .i64) W P []) => mayAct_any 7 0 0 0 0 0 0 0 0 D P 0 q 0 pq false [] [] W C.o.len C.o.big g1 C.p.len C.p.big g3)
  have HM2 := Lib.hid (fun W (g1 : Row bv W D []) (g3 : Row (Value.int .i64) W P []) => mayAct26_any 7 0 0 0 0 0 0 0 0 D P 0 q 0 pq false [] [] W C.o.len C.o.big g1 C.p.len g3 C.o.b.v0 C.o.b.t0)
  rw [hM] at HM1 HM2
  have HA := Lib.hid (fun W (_ : Tb W) (g1 : Row bv W D []) (g3 : Row (Value.int .i64) W P []) => actT_yes 7 0 0 0 0 0 0 0 0 D 0 q [] false P 0 pq [] W C.n0 C.n1 C.m0 C.m1 C.o.b C.o.len C.o.cap C.o.big g1 C.p.len C.p.cap C.p.big C.p.pk g3 hM)
  have HB := Lib.hid (fun W (_ : Tb W) (g1 : Row bv W D []) (g3 : Row (Value.int .i64) W P []) => actT_yes 7 0 0 0 0 0 0 0 0 D 0 q [] true P 0 pq [] W C.n0 C.n1 C.m0 C.m1 C.o.b C.o.len C.o.cap C.o.big g1 C.p.len C.p.cap C.p.big C.p.pk g3 hM2)
  have HRT := Lib.hid (fun W (_ : Tb W) (g1 : Row bv W D []) (g3 : Row (Value.int .i64) W P []) => ractText_any 7 0 0 0 0 0 0 0 0 false D P 0 q 0 pq [] [] W hM C.o.b C.o.len C.o.cap g1 C.p.len g3)
  have HRB := Lib.hid (fun W (_ : Tb W) (g1 : Row bv W D []) (g3 : Row (Value.int .i64) W P []) => ractText_any 7 0 0 0 0 0 0 0 0 true D P 0 q 0 pq [] [] W hM2 C.o.b C.o.len C.o.cap g1 C.p.len g3)
  rw [t1] at HA HRT
  rw [t2] at HB HRB
  clear hM2 t1 t2
  have he1 : ((⟨#[108, 101, 97, 100, 32, 48]⟩ : ByteArray).extract 4 6).toList == ((⟨#[102, 111, 114, 99, 101, 32, 48]⟩ : ByteArray).extract 5 7).toList := by decide +kernel
  have he2 : ((⟨#[108, 101, 97, 100, 32, 48]⟩ : ByteArray).toList == (⟨#[102, 111, 114, 99, 101, 32, 48]⟩ : ByteArray).toList) = false := by decide +kernel
  have HR := Lib.hid C.o.row
  have HP := Lib.hid C.p.row
  clear hM C hr
  have hGE : (goodA x = true ∧ actE x = 0) ∨ (goodA x = false ∧ actE x = 4) := by
    cases h : goodA x <;> simp [actE, h]
  generalize goodA x = G at *
  generalize actE x = E at *
  rcases hGE with ⟨rfl, rfl⟩ | ⟨rfl, rfl⟩
  all_goals
    go_enter Tryz.func4, Tryz.ntmps4
    go_wp2_with (first | (go_at_call 18; ((with_reducible refine (HU.out _).mono ?_); rintro _ _ ⟨rfl, gu, rfl⟩)) | (go_at_call 19; ((with_reducible refine (HX1.out _ inferInstance inferInstance).mono ?_); rintro _ _ ⟨A1, q1, B1, qb1, rfl, hr1, hp1, g1, rfl⟩)))
    have HR1 := Lib.hid hr1; have HP1 := Lib.hid hp1; clear hr1 hp1
    go_wp2_with ((go_at_call 20; ((with_reducible refine (HX2.out _ inferInstance).mono ?_); rintro _ _ ⟨A2, q2, B2, qb2, rfl, hr2, hp2, g2, rfl⟩)))
    have HR2 := Lib.hid hr2; have HP2 := Lib.hid hp2; clear hr2 hp2
    refine wp_region_grow (by kernel_rfl) (by kernel_rfl) ?_
    repeat (go_big_quiet_step ((first | (go_at_call 21; with_reducible exact grow_call (HS.out _ A1 B1 A2 B2 q1 qb1 q2 qb2 (HR1.out.gr gri) (HR2.out.gr gri) (HP1.out.gr gri) (HP2.out.gr gri))) | (go_at_call 13; with_reducible exact grow_call_same (num26_any _ _)) | (go_at_call 22; with_reducible exact grow_call (HM1.out _ (HR.out.gr gri) (HP.out.gr gri))) | (go_at_call 23; with_reducible exact grow_call (HM2.out _ (HR.out.gr gri) (HP.out.gr gri))))))
    refine wpQuiet_nil ?_
    intro g9
    go_wp2_with (first | (go_at_call 13; ((with_reducible refine (num26_any _ _).mono ?_); rintro _ _ ⟨rfl, rfl⟩)) | (go_at_call 23; ((with_reducible refine (HM2.out _ (HR.out.gr gri) (HP.out.gr gri)).mono ?_); rintro _ _ ⟨rfl, g5, rfl⟩)) | (go_at_call 15; ((with_reducible refine (HA.out _ inferInstance (HR.out.gr gri) (HP.out.gr gri)).mono ?_); rintro _ _ ⟨rfl, g6, rfl⟩)) | (go_at_call 15; ((with_reducible refine (HB.out _ inferInstance (HR.out.gr gri) (HP.out.gr gri)).mono ?_); rintro _ _ ⟨rfl, g7, rfl⟩)))
    refine wp_region_grow (by kernel_rfl) (by kernel_rfl) ?_
    repeat (go_big_quiet_step ((first | (go_at_call 24; with_reducible exact grow_call (HRT.out _ inferInstance (HR.out.gr gri) (HP.out.gr gri))) | (go_at_call 24; with_reducible exact grow_call (HRB.out _ inferInstance (HR.out.gr gri) (HP.out.gr gri))) | (go_at_call 13; with_reducible exact grow_call_same (num26_any _ _)) | (go_at_call 9; with_reducible exact grow_call (HK.out _ inferInstance)))))
    refine wpQuiet_nil ?_
    intro g10
    go_wp2
    go_ret
    exact ⟨rfl, gri⟩
set_option maxRecDepth 100000 in
set_option maxHeartbeats 8000000 in
theorem deeds_7_0t (D P : Option Addr) (q pq : Nat) (x : ByteArray) (w : World) [hk : Tb w] [hm : Ml w] (C : CameA w 7 0 0 0 0 0 0 0 0 D 0 q [] true P 0 pq []) (h3 : x.size ≤ 20000) : Calls Tryz.prog 4 #[.agg #[.int .i64 7, .int .i64 0, .int .i64 0, .int .i64 0, .int .u64 0, .int .u64 0, .int .i64 0, .int .i64 0, .int .i64 0, .slice D 0 q, .bool true, .slice P 0 pq], .string x] w fun e w' => e = .returned (.bool true) ∧ Gr w w' := by
  have hM : mayActB 7 0 0 0 0 0 0 0 0 true 0 0 [] [] = true := by decide
  have hM2 : mayActB 7 0 0 0 0 0 0 0 0 false 0 0 [] [] = true := by decide
  have t1 : (⟨(actTextL 7 0 0 0 0 0 0 0 0 true [] []).toArray⟩ : ByteArray) = ⟨#[102, 111, 114, 99, 101, 32, 48]⟩ := by
    have hp : actPieces 7 0 0 0 0 0 0 0 0 true [] [] = [⟨#[102, 111, 114, 99, 101]⟩, ⟨(Lib.itoa 0).toArray⟩] := rfl
    rw [actTextL, hp, show Lib.itoa 0 = [48] from itoa_small 0 (by omega)]
    rfl
  have t2 : (⟨(actTextL 7 0 0 0 0 0 0 0 0 false [] []).toArray⟩ : ByteArray) = ⟨#[108, 101, 97, 100, 32, 48]⟩ := by
    have hp : actPieces 7 0 0 0 0 0 0 0 0 false [] [] = [⟨#[108, 101, 97, 100]⟩, ⟨(Lib.itoa 0).toArray⟩] := rfl
    rw [actTextL, hp, show Lib.itoa 0 = [48] from itoa_small 0 (by omega)]
    rfl
  have HU := Lib.hid (fun W => big26_any 7 0 0 0 0 0 0 0 0 D P 0 q 0 pq true W)
  have HK := Lib.hid (fun W (_ : Tb W) => known26_any W)
  have e : (decide (300 < 0) || decide (9000 < 0)) = false := by decide
  rw [e] at HU
  clear e
  have h2 : ¬ (20000 : Int) < (x.size : Int) := by omega
  have hp9 := acV_pk x (by omega)
  obtain ⟨r, hr⟩ : ∃ r, actRes x = r := ⟨_, rfl⟩
  obtain ⟨k1, nd1, m1, ⟨ok1, ov1, ot1, os1, oa1, oc1, d1⟩, f1, p1⟩ := r
  rw [hr] at hp9
  simp only at hp9
  have HX1 := Lib.hid (fun W (_ : Tb W) (_ : Ml W) => actOf_row x (by omega) k1 nd1 m1 ok1 ov1 ot1 os1 oa1 oc1 d1 f1 p1 hr _ rfl W)
  have HX2 := Lib.hid (fun W (_ : Tb W) => ractOf_row x (by omega) k1 nd1 m1 ok1 ov1 ot1 os1 oa1 oc1 d1 f1 p1 hr _ rfl W)
  have HS := Lib.hid (fun W A B A2 B2 qa qb qa2 qb2 g1 g2 g3 g4 => sameAct26_refl k1 nd1 m1 ok1 ov1 ot1 os1 oa1 oc1 d1 f1 p1 A B A2 B2 qa qb qa2 qb2 (by omega) W g1 g2 g3 g4)
  have HM1 := Lib.hid (fun W (g1 : Row bv W D []) (g3 : Row (Value.int .i64) W P []) => mayAct_any 7 0 0 0 0 0 0 0 0 D P 0 q 0 pq true [] [] W C.o.len C.o.big g1 C.p.len C.p.big g3)
  have HM2 := Lib.hid (fun W (g1 : Row bv W D []) (g3 : Row (Value.int .i64) W P []) => mayAct26_any 7 0 0 0 0 0 0 0 0 D P 0 q 0 pq true [] [] W C.o.len C.o.big g1 C.p.len g3 C.o.b.v0 C.o.b.t0)
  rw [hM] at HM1 HM2
  have HA := Lib.hid (fun W (_ : Tb W) (g1 : Row bv W D []) (g3 : Row (Value.int .i64) W P []) => actT_yes 7 0 0 0 0 0 0 0 0 D 0 q [] true P 0 pq [] W C.n0 C.n1 C.m0 C.m1 C.o.b C.o.len C.o.cap C.o.big g1 C.p.len C.p.cap C.p.big C.p.pk g3 hM)
  have HB := Lib.hid (fun W (_ : Tb W) (g1 : Row bv W D []) (g3 : Row (Value.int .i64) W P []) => actT_yes 7 0 0 0 0 0 0 0 0 D 0 q [] false P 0 pq [] W C.n0 C.n1 C.m0 C.m1 C.o.b C.o.len C.o.cap C.o.big g1 C.p.len C.p.cap C.p.big C.p.pk g3 hM2)
  have HRT := Lib.hid (fun W (_ : Tb W) (g1 : Row bv W D []) (g3 : Row (Value.int .i64) W P []) => ractText_any 7 0 0 0 0 0 0 0 0 true D P 0 q 0 pq [] [] W hM C.o.b C.o.len C.o.cap g1 C.p.len g3)
  have HRB := Lib.hid (fun W (_ : Tb W) (g1 : Row bv W D []) (g3 : Row (Value.int .i64) W P []) => ractText_any 7 0 0 0 0 0 0 0 0 false D P 0 q 0 pq [] [] W hM2 C.o.b C.o.len C.o.cap g1 C.p.len g3)
  rw [t1] at HA HRT
  rw [t2] at HB HRB
  clear hM2 t1 t2
  have he1 : ((⟨#[102, 111, 114, 99, 101, 32, 48]⟩ : ByteArray).extract 5 7).toList == ((⟨#[108, 101, 97, 100, 32, 48]⟩ : ByteArray).extract 4 6).toList := by decide +kernel
  have he2 : ((⟨#[102, 111, 114, 99, 101, 32, 48]⟩ : ByteArray).toList == (⟨#[108, 101, 97, 100, 32, 48]⟩ : ByteArray).toList) = false := by decide +kernel
  have HR := Lib.hid C.o.row
  have HP := Lib.hid C.p.row
  clear hM C hr
  have hGE : (goodA x = true ∧ actE x = 0) ∨ (goodA x = false ∧ actE x = 4) := by
    cases h : goodA x <;> simp [actE, h]
  generalize goodA x = G at *
  generalize actE x = E at *
  rcases hGE with ⟨rfl, rfl⟩ | ⟨rfl, rfl⟩
  all_goals
    go_enter Tryz.func4, Tryz.ntmps4
    go_wp2_with (first | (go_at_call 18; ((with_reducible refine (HU.out _).mono ?_); rintro _ _ ⟨rfl, gu, rfl⟩)) | (go_at_call 19; ((with_reducible refine (HX1.out _ inferInstance inferInstance).mono ?_); rintro _ _ ⟨A1, q1, B1, qb1, rfl, hr1, hp1, g1, rfl⟩)))
    have HR1 := Lib.hid hr1; have HP1 := Lib.hid hp1; clear hr1 hp1
    go_wp2_with ((go_at_call 20; ((with_reducible refine (HX2.out _ inferInstance).mono ?_); rintro _ _ ⟨A2, q2, B2, qb2, rfl, hr2, hp2, g2, rfl⟩)))
    have HR2 := Lib.hid hr2; have HP2 := Lib.hid hp2; clear hr2 hp2
    refine wp_region_grow (by kernel_rfl) (by kernel_rfl) ?_
    repeat (go_big_quiet_step ((first | (go_at_call 21; with_reducible exact grow_call (HS.out _ A1 B1 A2 B2 q1 qb1 q2 qb2 (HR1.out.gr gri) (HR2.out.gr gri) (HP1.out.gr gri) (HP2.out.gr gri))) | (go_at_call 13; with_reducible exact grow_call_same (num26_any _ _)) | (go_at_call 22; with_reducible exact grow_call (HM1.out _ (HR.out.gr gri) (HP.out.gr gri))) | (go_at_call 23; with_reducible exact grow_call (HM2.out _ (HR.out.gr gri) (HP.out.gr gri))))))
    refine wpQuiet_nil ?_
    intro g9
    go_wp2_with (first | (go_at_call 13; ((with_reducible refine (num26_any _ _).mono ?_); rintro _ _ ⟨rfl, rfl⟩)) | (go_at_call 23; ((with_reducible refine (HM2.out _ (HR.out.gr gri) (HP.out.gr gri)).mono ?_); rintro _ _ ⟨rfl, g5, rfl⟩)) | (go_at_call 15; ((with_reducible refine (HA.out _ inferInstance (HR.out.gr gri) (HP.out.gr gri)).mono ?_); rintro _ _ ⟨rfl, g6, rfl⟩)) | (go_at_call 15; ((with_reducible refine (HB.out _ inferInstance (HR.out.gr gri) (HP.out.gr gri)).mono ?_); rintro _ _ ⟨rfl, g7, rfl⟩)))
    refine wp_region_grow (by kernel_rfl) (by kernel_rfl) ?_
    repeat (go_big_quiet_step ((first | (go_at_call 24; with_reducible exact grow_call (HRT.out _ inferInstance (HR.out.gr gri) (HP.out.gr gri))) | (go_at_call 24; with_reducible exact grow_call (HRB.out _ inferInstance (HR.out.gr gri) (HP.out.gr gri))) | (go_at_call 13; with_reducible exact grow_call_same (num26_any _ _)) | (go_at_call 9; with_reducible exact grow_call (HK.out _ inferInstance)))))
    refine wpQuiet_nil ?_
    intro g10
    go_wp2
    go_ret
    exact ⟨rfl, gri⟩
set_option maxRecDepth 100000 in
set_option maxHeartbeats 8000000 in
theorem deeds_7_1f (D P : Option Addr) (q pq : Nat) (x : ByteArray) (w : World) [hk : Tb w] [hm : Ml w] (C : CameA w 7 1 0 0 0 0 0 0 0 D 0 q [] false P 0 pq []) (h3 : x.size ≤ 20000) : Calls Tryz.prog 4 #[.agg #[.int .i64 7, .int .i64 1, .int .i64 0, .int .i64 0, .int .u64 0, .int .u64 0, .int .i64 0, .int .i64 0, .int .i64 0, .slice D 0 q, .bool false, .slice P 0 pq], .string x] w fun e w' => e = .returned (.bool true) ∧ Gr w w' := by
  have hM : mayActB 7 1 0 0 0 0 0 0 0 false 0 0 [] [] = true := by decide
  have hM2 : mayActB 7 1 0 0 0 0 0 0 0 true 0 0 [] [] = true := by decide
  have t1 : (⟨(actTextL 7 1 0 0 0 0 0 0 0 false [] []).toArray⟩ : ByteArray) = ⟨#[108, 101, 97, 100, 32, 49]⟩ := by
    have hp : actPieces 7 1 0 0 0 0 0 0 0 false [] [] = [⟨#[108, 101, 97, 100]⟩, ⟨(Lib.itoa 1).toArray⟩] := rfl
    rw [actTextL, hp, show Lib.itoa 1 = [49] from itoa_small 1 (by omega)]
    rfl
  have t2 : (⟨(actTextL 7 1 0 0 0 0 0 0 0 true [] []).toArray⟩ : ByteArray) = ⟨#[102, 111, 114, 99, 101, 32, 49]⟩ := by
    have hp : actPieces 7 1 0 0 0 0 0 0 0 true [] [] = [⟨#[102, 111, 114, 99, 101]⟩, ⟨(Lib.itoa 1).toArray⟩] := rfl
    rw [actTextL, hp, show Lib.itoa 1 = [49] from itoa_small 1 (by omega)]
    rfl
  have HU := Lib.hid (fun W => big26_any 7 1 0 0 0 0 0 0 0 D P 0 q 0 pq false W)
  have HK := Lib.hid (fun W (_ : Tb W) => known26_any W)
  have e : (decide (300 < 0) || decide (9000 < 0)) = false := by decide
  rw [e] at HU
  clear e
  have h2 : ¬ (20000 : Int) < (x.size : Int) := by omega
  have hp9 := acV_pk x (by omega)
  obtain ⟨r, hr⟩ : ∃ r, actRes x = r := ⟨_, rfl⟩
  obtain ⟨k1, nd1, m1, ⟨ok1, ov1, ot1, os1, oa1, oc1, d1⟩, f1, p1⟩ := r
  rw [hr] at hp9
  simp only at hp9
  have HX1 := Lib.hid (fun W (_ : Tb W) (_ : Ml W) => actOf_row x (by omega) k1 nd1 m1 ok1 ov1 ot1 os1 oa1 oc1 d1 f1 p1 hr _ rfl W)
  have HX2 := Lib.hid (fun W (_ : Tb W) => ractOf_row x (by omega) k1 nd1 m1 ok1 ov1 ot1 os1 oa1 oc1 d1 f1 p1 hr _ rfl W)
  have HS := Lib.hid (fun W A B A2 B2 qa qb qa2 qb2 g1 g2 g3 g4 => sameAct26_refl k1 nd1 m1 ok1 ov1 ot1 os1 oa1 oc1 d1 f1 p1 A B A2 B2 qa qb qa2 qb2 (by omega) W g1 g2 g3 g4)
  have HM1 := Lib.hid (fun W (g1 : Row bv W D []) (g3 : Row (Value.int .i64) W P []) => mayAct_any 7 1 0 0 0 0 0 0 0 D P 0 q 0 pq false [] [] W C.o.len C.o.big g1 C.p.len C.p.big g3)
  have HM2 := Lib.hid (fun W (g1 : Row bv W D []) (g3 : Row (Value.int .i64) W P []) => mayAct26_any 7 1 0 0 0 0 0 0 0 D P 0 q 0 pq false [] [] W C.o.len C.o.big g1 C.p.len g3 C.o.b.v0 C.o.b.t0)
  rw [hM] at HM1 HM2
  have HA := Lib.hid (fun W (_ : Tb W) (g1 : Row bv W D []) (g3 : Row (Value.int .i64) W P []) => actT_yes 7 1 0 0 0 0 0 0 0 D 0 q [] false P 0 pq [] W C.n0 C.n1 C.m0 C.m1 C.o.b C.o.len C.o.cap C.o.big g1 C.p.len C.p.cap C.p.big C.p.pk g3 hM)
  have HB := Lib.hid (fun W (_ : Tb W) (g1 : Row bv W D []) (g3 : Row (Value.int .i64) W P []) => actT_yes 7 1 0 0 0 0 0 0 0 D 0 q [] true P 0 pq [] W C.n0 C.n1 C.m0 C.m1 C.o.b C.o.len C.o.cap C.o.big g1 C.p.len C.p.cap C.p.big C.p.pk g3 hM2)
  have HRT := Lib.hid (fun W (_ : Tb W) (g1 : Row bv W D []) (g3 : Row (Value.int .i64) W P []) => ractText_any 7 1 0 0 0 0 0 0 0 false D P 0 q 0 pq [] [] W hM C.o.b C.o.len C.o.cap g1 C.p.len g3)
  have HRB := Lib.hid (fun W (_ : Tb W) (g1 : Row bv W D []) (g3 : Row (Value.int .i64) W P []) => ractText_any 7 1 0 0 0 0 0 0 0 true D P 0 q 0 pq [] [] W hM2 C.o.b C.o.len C.o.cap g1 C.p.len g3)
  rw [t1] at HA HRT
  rw [t2] at HB HRB
  clear hM2 t1 t2
  have he1 : ((⟨#[108, 101, 97, 100, 32, 49]⟩ : ByteArray).extract 4 6).toList == ((⟨#[102, 111, 114, 99, 101, 32, 49]⟩ : ByteArray).extract 5 7).toList := by decide +kernel
  have he2 : ((⟨#[108, 101, 97, 100, 32, 49]⟩ : ByteArray).toList == (⟨#[102, 111, 114, 99, 101, 32, 49]⟩ : ByteArray).toList) = false := by decide +kernel
  have HR := Lib.hid C.o.row
  have HP := Lib.hid C.p.row
  clear hM C hr
  have hGE : (goodA x = true ∧ actE x = 0) ∨ (goodA x = false ∧ actE x = 4) := by
    cases h : goodA x <;> simp [actE, h]
  generalize goodA x = G at *
  generalize actE x = E at *
  rcases hGE with ⟨rfl, rfl⟩ | ⟨rfl, rfl⟩
  all_goals
    go_enter Tryz.func4, Tryz.ntmps4
    go_wp2_with (first | (go_at_call 18; ((with_reducible refine (HU.out _).mono ?_); rintro _ _ ⟨rfl, gu, rfl⟩)) | (go_at_call 19; ((with_reducible refine (HX1.out _ inferInstance inferInstance).mono ?_); rintro _ _ ⟨A1, q1, B1, qb1, rfl, hr1, hp1, g1, rfl⟩)))
    have HR1 := Lib.hid hr1; have HP1 := Lib.hid hp1; clear hr1 hp1
    go_wp2_with ((go_at_call 20; ((with_reducible refine (HX2.out _ inferInstance).mono ?_); rintro _ _ ⟨A2, q2, B2, qb2, rfl, hr2, hp2, g2, rfl⟩)))
    have HR2 := Lib.hid hr2; have HP2 := Lib.hid hp2; clear hr2 hp2
    refine wp_region_grow (by kernel_rfl) (by kernel_rfl) ?_
    repeat (go_big_quiet_step ((first | (go_at_call 21; with_reducible exact grow_call (HS.out _ A1 B1 A2 B2 q1 qb1 q2 qb2 (HR1.out.gr gri) (HR2.out.gr gri) (HP1.out.gr gri) (HP2.out.gr gri))) | (go_at_call 13; with_reducible exact grow_call_same (num26_any _ _)) | (go_at_call 22; with_reducible exact grow_call (HM1.out _ (HR.out.gr gri) (HP.out.gr gri))) | (go_at_call 23; with_reducible exact grow_call (HM2.out _ (HR.out.gr gri) (HP.out.gr gri))))))
    refine wpQuiet_nil ?_
    intro g9
    go_wp2_with (first | (go_at_call 13; ((with_reducible refine (num26_any _ _).mono ?_); rintro _ _ ⟨rfl, rfl⟩)) | (go_at_call 23; ((with_reducible refine (HM2.out _ (HR.out.gr gri) (HP.out.gr gri)).mono ?_); rintro _ _ ⟨rfl, g5, rfl⟩)) | (go_at_call 15; ((with_reducible refine (HA.out _ inferInstance (HR.out.gr gri) (HP.out.gr gri)).mono ?_); rintro _ _ ⟨rfl, g6, rfl⟩)) | (go_at_call 15; ((with_reducible refine (HB.out _ inferInstance (HR.out.gr gri) (HP.out.gr gri)).mono ?_); rintro _ _ ⟨rfl, g7, rfl⟩)))
    refine wp_region_grow (by kernel_rfl) (by kernel_rfl) ?_
    repeat (go_big_quiet_step ((first | (go_at_call 24; with_reducible exact grow_call (HRT.out _ inferInstance (HR.out.gr gri) (HP.out.gr gri))) | (go_at_call 24; with_reducible exact grow_call (HRB.out _ inferInstance (HR.out.gr gri) (HP.out.gr gri))) | (go_at_call 13; with_reducible exact grow_call_same (num26_any _ _)) | (go_at_call 9; with_reducible exact grow_call (HK.out _ inferInstance)))))
    refine wpQuiet_nil ?_
    intro g10
    go_wp2
    go_ret
    exact ⟨rfl, gri⟩
set_option maxRecDepth 100000 in
set_option maxHeartbeats 8000000 in
theorem deeds_7_1t (D P : Option Addr) (q pq : Nat) (x : ByteArray) (w : World) [hk : Tb w] [hm : Ml w] (C : CameA w 7 1 0 0 0 0 0 0 0 D 0 q [] true P 0 pq []) (h3 : x.size ≤ 20000) : Calls Tryz.prog 4 #[.agg #[.int .i64 7, .int .i64 1, .int .i64 0, .int .i64 0, .int .u64 0, .int .u64 0, .int .i64 0, .int .i64 0, .int .i64 0, .slice D 0 q, .bool true, .slice P 0 pq], .string x] w fun e w' => e = .returned (.bool true) ∧ Gr w w' := by
  have hM : mayActB 7 1 0 0 0 0 0 0 0 true 0 0 [] [] = true := by decide
  have hM2 : mayActB 7 1 0 0 0 0 0 0 0 false 0 0 [] [] = true := by decide
  have t1 : (⟨(actTextL 7 1 0 0 0 0 0 0 0 true [] []).toArray⟩ : ByteArray) = ⟨#[102, 111, 114, 99, 101, 32, 49]⟩ := by
    have hp : actPieces 7 1 0 0 0 0 0 0 0 true [] [] = [⟨#[102, 111, 114, 99, 101]⟩, ⟨(Lib.itoa 1).toArray⟩] := rfl
    rw [actTextL, hp, show Lib.itoa 1 = [49] from itoa_small 1 (by omega)]
    rfl
  have t2 : (⟨(actTextL 7 1 0 0 0 0 0 0 0 false [] []).toArray⟩ : ByteArray) = ⟨#[108, 101, 97, 100, 32, 49]⟩ := by
    have hp : actPieces 7 1 0 0 0 0 0 0 0 false [] [] = [⟨#[108, 101, 97, 100]⟩, ⟨(Lib.itoa 1).toArray⟩] := rfl
    rw [actTextL, hp, show Lib.itoa 1 = [49] from itoa_small 1 (by omega)]
    rfl
  have HU := Lib.hid (fun W => big26_any 7 1 0 0 0 0 0 0 0 D P 0 q 0 pq true W)
  have HK := Lib.hid (fun W (_ : Tb W) => known26_any W)
  have e : (decide (300 < 0) || decide (9000 < 0)) = false := by decide
  rw [e] at HU
  clear e
  have h2 : ¬ (20000 : Int) < (x.size : Int) := by omega
  have hp9 := acV_pk x (by omega)
  obtain ⟨r, hr⟩ : ∃ r, actRes x = r := ⟨_, rfl⟩
  obtain ⟨k1, nd1, m1, ⟨ok1, ov1, ot1, os1, oa1, oc1, d1⟩, f1, p1⟩ := r
  rw [hr] at hp9
  simp only at hp9
  have HX1 := Lib.hid (fun W (_ : Tb W) (_ : Ml W) => actOf_row x (by omega) k1 nd1 m1 ok1 ov1 ot1 os1 oa1 oc1 d1 f1 p1 hr _ rfl W)
  have HX2 := Lib.hid (fun W (_ : Tb W) => ractOf_row x (by omega) k1 nd1 m1 ok1 ov1 ot1 os1 oa1 oc1 d1 f1 p1 hr _ rfl W)
  have HS := Lib.hid (fun W A B A2 B2 qa qb qa2 qb2 g1 g2 g3 g4 => sameAct26_refl k1 nd1 m1 ok1 ov1 ot1 os1 oa1 oc1 d1 f1 p1 A B A2 B2 qa qb qa2 qb2 (by omega) W g1 g2 g3 g4)
  have HM1 := Lib.hid (fun W (g1 : Row bv W D []) (g3 : Row (Value.int .i64) W P []) => mayAct_any 7 1 0 0 0 0 0 0 0 D P 0 q 0 pq true [] [] W C.o.len C.o.big g1 C.p.len C.p.big g3)
  have HM2 := Lib.hid (fun W (g1 : Row bv W D []) (g3 : Row (Value.int .i64) W P []) => mayAct26_any 7 1 0 0 0 0 0 0 0 D P 0 q 0 pq true [] [] W C.o.len C.o.big g1 C.p.len g3 C.o.b.v0 C.o.b.t0)
  rw [hM] at HM1 HM2
  have HA := Lib.hid (fun W (_ : Tb W) (g1 : Row bv W D []) (g3 : Row (Value.int .i64) W P []) => actT_yes 7 1 0 0 0 0 0 0 0 D 0 q [] true P 0 pq [] W C.n0 C.n1 C.m0 C.m1 C.o.b C.o.len C.o.cap C.o.big g1 C.p.len C.p.cap C.p.big C.p.pk g3 hM)
  have HB := Lib.hid (fun W (_ : Tb W) (g1 : Row bv W D []) (g3 : Row (Value.int .i64) W P []) => actT_yes 7 1 0 0 0 0 0 0 0 D 0 q [] false P 0 pq [] W C.n0 C.n1 C.m0 C.m1 C.o.b C.o.len C.o.cap C.o.big g1 C.p.len C.p.cap C.p.big C.p.pk g3 hM2)
  have HRT := Lib.hid (fun W (_ : Tb W) (g1 : Row bv W D []) (g3 : Row (Value.int .i64) W P []) => ractText_any 7 1 0 0 0 0 0 0 0 true D P 0 q 0 pq [] [] W hM C.o.b C.o.len C.o.cap g1 C.p.len g3)
  have HRB := Lib.hid (fun W (_ : Tb W) (g1 : Row bv W D []) (g3 : Row (Value.int .i64) W P []) => ractText_any 7 1 0 0 0 0 0 0 0 false D P 0 q 0 pq [] [] W hM2 C.o.b C.o.len C.o.cap g1 C.p.len g3)
  rw [t1] at HA HRT
  rw [t2] at HB HRB
  clear hM2 t1 t2
  have he1 : ((⟨#[102, 111, 114, 99, 101, 32, 49]⟩ : ByteArray).extract 5 7).toList == ((⟨#[108, 101, 97, 100, 32, 49]⟩ : ByteArray).extract 4 6).toList := by decide +kernel
  have he2 : ((⟨#[102, 111, 114, 99, 101, 32, 49]⟩ : ByteArray).toList == (⟨#[108, 101, 97, 100, 32, 49]⟩ : ByteArray).toList) = false := by decide +kernel
  have HR := Lib.hid C.o.row
  have HP := Lib.hid C.p.row
  clear hM C hr
  have hGE : (goodA x = true ∧ actE x = 0) ∨ (goodA x = false ∧ actE x = 4) := by
    cases h : goodA x <;> simp [actE, h]
  generalize goodA x = G at *
  generalize actE x = E at *
  rcases hGE with ⟨rfl, rfl⟩ | ⟨rfl, rfl⟩
  all_goals
    go_enter Tryz.func4, Tryz.ntmps4
    go_wp2_with (first | (go_at_call 18; ((with_reducible refine (HU.out _).mono ?_); rintro _ _ ⟨rfl, gu, rfl⟩)) | (go_at_call 19; ((with_reducible refine (HX1.out _ inferInstance inferInstance).mono ?_); rintro _ _ ⟨A1, q1, B1, qb1, rfl, hr1, hp1, g1, rfl⟩)))
    have HR1 := Lib.hid hr1; have HP1 := Lib.hid hp1; clear hr1 hp1
    go_wp2_with ((go_at_call 20; ((with_reducible refine (HX2.out _ inferInstance).mono ?_); rintro _ _ ⟨A2, q2, B2, qb2, rfl, hr2, hp2, g2, rfl⟩)))
    have HR2 := Lib.hid hr2; have HP2 := Lib.hid hp2; clear hr2 hp2
    refine wp_region_grow (by kernel_rfl) (by kernel_rfl) ?_
    repeat (go_big_quiet_step ((first | (go_at_call 21; with_reducible exact grow_call (HS.out _ A1 B1 A2 B2 q1 qb1 q2 qb2 (HR1.out.gr gri) (HR2.out.gr gri) (HP1.out.gr gri) (HP2.out.gr gri))) | (go_at_call 13; with_reducible exact grow_call_same (num26_any _ _)) | (go_at_call 22; with_reducible exact grow_call (HM1.out _ (HR.out.gr gri) (HP.out.gr gri))) | (go_at_call 23; with_reducible exact grow_call (HM2.out _ (HR.out.gr gri) (HP.out.gr gri))))))
    refine wpQuiet_nil ?_
    intro g9
    go_wp2_with (first | (go_at_call 13; ((with_reducible refine (num26_any _ _).mono ?_); rintro _ _ ⟨rfl, rfl⟩)) | (go_at_call 23; ((with_reducible refine (HM2.out _ (HR.out.gr gri) (HP.out.gr gri)).mono ?_); rintro _ _ ⟨rfl, g5, rfl⟩)) | (go_at_call 15; ((with_reducible refine (HA.out _ inferInstance (HR.out.gr gri) (HP.out.gr gri)).mono ?_); rintro _ _ ⟨rfl, g6, rfl⟩)) | (go_at_call 15; ((with_reducible refine (HB.out _ inferInstance (HR.out.gr gri) (HP.out.gr gri)).mono ?_); rintro _ _ ⟨rfl, g7, rfl⟩)))
    refine wp_region_grow (by kernel_rfl) (by kernel_rfl) ?_
    repeat (go_big_quiet_step ((first | (go_at_call 24; with_reducible exact grow_call (HRT.out _ inferInstance (HR.out.gr gri) (HP.out.gr gri))) | (go_at_call 24; with_reducible exact grow_call (HRB.out _ inferInstance (HR.out.gr gri) (HP.out.gr gri))) | (go_at_call 13; with_reducible exact grow_call_same (num26_any _ _)) | (go_at_call 9; with_reducible exact grow_call (HK.out _ inferInstance)))))
    refine wpQuiet_nil ?_
    intro g10
    go_wp2
    go_ret
    exact ⟨rfl, gri⟩
theorem deeds_walk (k nd m ok ov ot os oa oc : Int) (D : Option Addr) (n q : Nat) (l : List UInt8) (f : Bool) (P : Option Addr) (pn pq : Nat) (px : List Int) (x : ByteArray) (w : World) [hk : Tb w] [hm : Ml w] (C : CameA w k nd m ok ov ot os oa oc D n q l f P pn pq px) : Calls Tryz.prog 4 #[.agg #[.int .i64 k, .int .i64 nd, .int .i64 m, .int .i64 ok, .int .u64 ov, .int .u64 ot, .int .i64 os, .int .i64 oa, .int .i64 oc, .slice D n q, .bool f, .slice P pn pq], .string x] w fun e w' => e = .returned (.bool true) ∧ Gr w w' := by
  by_cases h : 300 < pn ∨ 9000 < n ∨ 20000 < x.size
  · exact deeds_much k nd m ok ov ot os oa oc D n q l f P pn pq px x w h
  · have h1 : ¬ (300 < pn ∨ 9000 < n) := fun h9 => h (h9.elim .inl (fun z => .inr (.inl z)))
    have h3 : x.size ≤ 20000 := by omega
    rcases Bool.eq_false_or_eq_true (mayActB k nd m ok ov ot os oa oc f n pn l px) with hM | hM
    · by_cases h7 : k = 7
      · subst h7
        obtain ⟨hn, rfl, rfl, rfl, rfl, rfl, rfl, rfl, rfl, rfl, rfl, rfl⟩ := lead_form nd m ok ov ot os oa oc D n q l f P pn pq px C.o.len C.p.len hM
        rcases hn with rfl | rfl
        · cases f
          · exact deeds_7_0f D P q pq x w C h3
          · exact deeds_7_0t D P q pq x w C h3
        · cases f
          · exact deeds_7_1f D P q pq x w C h3
          · exact deeds_7_1t D P q pq x w C h3
      · exact deeds_else k nd m ok ov ot os oa oc D n q l f P pn pq px x w C h1 h3 hM h7
    · exact deeds_not k nd m ok ov ot os oa oc D n q l f P pn pq px x w C h1 h3 hM
end Go.Proofs.YtgjdgafoidppaaaGreatDoor
