/- An act that came in, opened. Conditions: none. Acts, and a script, that came in, opened. Conditions: none. Rows of acts in memory, and the reference's Much. Conditions: what is read stands in memory. Two stages compared. Conditions: none. The reference's Same, script.Same: two scripts compared. Conditions: what is read stands in memory. 'known' of layer 26: the chapter's rows. Conditions: strconv's table stands. The walk of ScriptWhole: it returns true. Conditions: the tables stand. slices.EqualFunc at acts, script.Same. Conditions: what is read stands in memory. The walk of ScriptTwins: it returns true. Conditions: the tables stand. -/
import Derived.Test.YtgjdgafoidppaaaGreatDoorQ13
import Derived.Test.YtgjdgafoidppaaaGreatDoorQ11
import Derived.Test.YtgjdgafoidppaaaGreatDoorQ09
namespace Go.Proofs.YtgjdgafoidppaaaGreatDoor
open Go.RowKit Go.ChangeShapes Go.WideShapes
set_option linter.unusedVariables false
set_option linter.unusedSimpArgs false
set_option linter.unnecessarySimpa false
structure CameN (W : World) (D : Option Addr) (n q : Nat) (l : List Int) : Prop where
 len : l.length = n
 cap : n ≤ q
 big : n ≤ 9223372036854775807
 pk : Pk l
 row : Row (Value.int .i64) W D l
structure CameA (W : World) (k nd m ok ov ot os oa oc : Int) (D : Option Addr) (n q : Nat) (l : List UInt8) (f : Bool) (P : Option Addr) (pn pq : Nat) (px : List Int) : Prop where
 n0 : -9223372036854775808 ≤ nd
 n1 : nd ≤ 9223372036854775807
 m0 : -9223372036854775808 ≤ m
 m1 : m ≤ 9223372036854775807
 o : Came W ok ov ot os oa oc D n q l
 p : CameN W P pn pq px
section
variable {H : Type} {enc : TypeId × Value → H}
theorem i64_wf {z : Int} (h : (Lit.int .i64 z).wf = true) : -9223372036854775808 ≤ z ∧ z ≤ 9223372036854775807 := by
 simp [Lit.wf, IntKind.min, IntKind.max, IntKind.bits, IntKind.signed] at h
 omega
set_option maxRecDepth 100000 in
theorem open_act {W : World} {base : Nat} {v : Value} {d : DataW H} {p : List MemPlace} (hv : Value.okWide Tryz.prog W .any base 42 v) (h : DataW.Trod enc Tryz.prog W 0 (fun _ => true) true 42 v d p) :
  ∃ k nd m ok ov ot os oa oc D n q l f P pn pq px, v = .agg #[.int .i64 k, .int .i64 nd, .int .i64 m, .int .i64 ok, .int .u64 ov, .int .u64 ot, .int .i64 os, .int .i64 oa, .int .i64 oc, .slice D n q, .bool f, .slice P pn pq] ∧ CameA W k nd m ok ov ot os oa oc D n q l f P pn pq px := by
 obtain ⟨cs, rfl, hl, hc⟩ := open_cells [39, 3, 3, 22, 23, 23, 3, 3, 3, 24, 4, 40] Tryz.underlying42 (by kernel_rfl) (by kernel_rfl) hv
 obtain ⟨fuel, hd⟩ := h
 have hd : DataW.trod enc Tryz.prog W 0 (fun _ => true) true fuel 42 cs = some (d, p) := by simpa [Value.cells] using hd
 match cs, hl with
 | [c0, c1, c2, c3, c4, c5, c6, c7, c8, c9, c10, c11], _ =>
  obtain ⟨k, rfl, _⟩ := cell_int Tryz.underlying39 (hc 0 c0 _ rfl rfl)
  obtain ⟨nd, rfl, hnd⟩ := cell_int Tryz.underlying3 (hc 1 c1 _ rfl rfl)
  obtain ⟨m, rfl, hm⟩ := cell_int Tryz.underlying3 (hc 2 c2 _ rfl rfl)
  obtain ⟨f, rfl⟩ := cell_bool Tryz.underlying4 (hc 10 c10 _ rfl rfl)
  obtain ⟨xs, n0, _, _, _, hlen, hf⟩ := DataW.trod_struct Tryz.underlying42 hd
  obtain ⟨y3, hy3⟩ : ∃ y, xs[3]? = some y := ⟨xs[3]'(by rw [hlen]; decide), List.getElem?_eq_getElem _⟩
  obtain ⟨y5, hy5⟩ : ∃ y, xs[5]? = some y := ⟨xs[5]'(by rw [hlen]; decide), List.getElem?_eq_getElem _⟩
  have h3 := hf 3 _ rfl
  have h5 := hf 5 _ rfl
  rw [hy3] at h3
  rw [hy5] at h5
  obtain ⟨ok, ov, ot, os, oa, oc, D, n, q, l, he, hC⟩ := open_op_cells (base := base) (cs := [c3, c4, c5, c6, c7, c8, c9]) rfl (fun i c u h1 h2 => by
   match i, h1, h2 with
   | 0, h1, h2 => exact hc 3 c u h1 h2
   | 1, h1, h2 => exact hc 4 c u h1 h2
   | 2, h1, h2 => exact hc 5 c u h1 h2
   | 3, h1, h2 => exact hc 6 c u h1 h2
   | 4, h1, h2 => exact hc 7 c u h1 h2
   | 5, h1, h2 => exact hc 8 c u h1 h2
   | 6, h1, h2 => exact hc 9 c u h1 h2
   | i + 7, h1, h2 => simp at h1) h3
  obtain ⟨P, pq, px, zs, rfl, hq, hmx, hr, rfl, hz, _⟩ := open_nums (Value.int .i64) (fun z => z) Tryz.underlying40 Tryz.underlying3 (by kernel_rfl) (fun z hz => rfl) (c := c11) h5
  simp only [List.cons.injEq] at he
  obtain ⟨rfl, rfl, rfl, rfl, rfl, rfl, rfl, _⟩ := he
  have := has_i64 hnd
  have := has_i64 hm
  unfold maxLen at hmx
  rw [List.map_id'] at hr hq ⊢
  exact ⟨k, nd, m, ok, ov, ot, os, oa, oc, D, n, q, l, f, P, zs.length, pq, zs, rfl, by omega, by omega, by omega, by omega, hC, rfl, hq, by omega, ⟨fun z h => (i64_wf (hz z h)).1, fun z h => (i64_wf (hz z h)).2⟩, hr⟩
end
end Go.Proofs.YtgjdgafoidppaaaGreatDoor
namespace Go.Proofs.YtgjdgafoidppaaaGreatDoor
open Go.RowKit Go.ChangeShapes Go.WideShapes
set_option linter.unusedVariables false
set_option linter.unusedSimpArgs false
set_option linter.unnecessarySimpa false
section
variable {H : Type} {enc : TypeId × Value → H}
theorem u64_wf {z : Int} (h : (Lit.int .u64 z).wf = true) : 0 ≤ z ∧ z ≤ 18446744073709551615 := by
 simp [Lit.wf, IntKind.min, IntKind.max, IntKind.bits, IntKind.signed] at h
 omega
theorem got {α : Type} {l : List α} {n : Nat} (h : l.length = n) (i : Nat) (hi : i < n) : ∃ y, l[i]? = some y := ⟨l[i]'(by rw [h]; exact hi), List.getElem?_eq_getElem _⟩
set_option maxRecDepth 100000 in
theorem op_trod {W : World} {cs : List Value} {fuel : Nat} {x : DataW H × List MemPlace} (hl : cs.length = 7)
  (h : DataW.trod enc Tryz.prog W 0 (fun _ => true) true fuel 26 cs = some x) :
  ∃ k v t s a c D n q l, cs = [.int .i64 k, .int .u64 v, .int .u64 t, .int .i64 s, .int .i64 a, .int .i64 c, .slice D n q] ∧ Came W k v t s a c D n q l := by
 match cs, hl with
 | [c0, c1, c2, c3, c4, c5, c6], _ =>
  obtain ⟨xs, n0, _, _, _, hlen, hf⟩ := DataW.trod_struct Tryz.underlying26 h
  have hlen : xs.length = 7 := hlen
  obtain ⟨y0, e0⟩ := got hlen 0 (by decide)
  obtain ⟨y1, e1⟩ := got hlen 1 (by decide)
  obtain ⟨y2, e2⟩ := got hlen 2 (by decide)
  obtain ⟨y3, e3⟩ := got hlen 3 (by decide)
  obtain ⟨y4, e4⟩ := got hlen 4 (by decide)
  obtain ⟨y5, e5⟩ := got hlen 5 (by decide)
  obtain ⟨y6, e6⟩ := got hlen 6 (by decide)
  have h0 := hf 0 _ rfl; have h1 := hf 1 _ rfl; have h2 := hf 2 _ rfl; have h3 := hf 3 _ rfl; have h4 := hf 4 _ rfl; have h5 := hf 5 _ rfl; have h6 := hf 6 _ rfl
  rw [e0] at h0; rw [e1] at h1; rw [e2] at h2; rw [e3] at h3; rw [e4] at h4; rw [e5] at h5; rw [e6] at h6
  obtain ⟨k, q0, _, w0⟩ := DataW.trod_int Tryz.underlying22 h0
  obtain ⟨v, q1, _, w1⟩ := DataW.trod_int Tryz.underlying23 h1
  obtain ⟨t, q2, _, w2⟩ := DataW.trod_int Tryz.underlying23 h2
  obtain ⟨s, q3, _, w3⟩ := DataW.trod_int Tryz.underlying3 h3
  obtain ⟨a, q4, _, w4⟩ := DataW.trod_int Tryz.underlying3 h4
  obtain ⟨c, q5, _, w5⟩ := DataW.trod_int Tryz.underlying3 h5
  obtain ⟨D, q, l, zs, rfl, hq, hm, hr, _, _, _⟩ := open_nums bv (fun z => UInt8.ofNat z.toNat) Tryz.underlying24 Tryz.underlying5 (by kernel_rfl) (fun z hz => u8_of hz) (c := c6) h6
  obtain rfl : c0 = .int .i64 k := List.head_eq_of_cons_eq q0
  obtain rfl : c1 = .int .u64 v := List.head_eq_of_cons_eq q1
  obtain rfl : c2 = .int .u64 t := List.head_eq_of_cons_eq q2
  obtain rfl : c3 = .int .i64 s := List.head_eq_of_cons_eq q3
  obtain rfl : c4 = .int .i64 a := List.head_eq_of_cons_eq q4
  obtain rfl : c5 = .int .i64 c := List.head_eq_of_cons_eq q5
  have := u64_wf w1; have := u64_wf w2; have := i64_wf w3; have := i64_wf w4; have := i64_wf w5
  unfold maxLen at hm
  exact ⟨k, v, t, s, a, c, D, l.length, q, l, rfl, ⟨⟨by omega, by omega, by omega, by omega, by omega, by omega, by omega, by omega, by omega, by omega⟩, rfl, hq, by omega, hr⟩⟩
structure ActT (W : World) (cs : List Value) (a : ActV) (Ad : Option Addr) (qd : Nat) (Av : Option Addr) (qv : Nat) : Prop where
 cs : cs = (actB a Ad qd Av qv).toList
 m : ∀ b p, (∀ i v, (actB a Ad qd Av qv)[i]? = some v → W.cell? ⟨b, p + i, none⟩ = some v) → ActM W b p a Ad qd Av qv
set_option maxRecDepth 100000 in
theorem act_trod {W : World} {cs : List Value} {fuel : Nat} {x : DataW H × List MemPlace} (hl : cs.length = 12)
  (h : DataW.trod enc Tryz.prog W 0 (fun _ => true) true fuel 42 cs = some x) : ∃ a Ad qd Av qv, ActT W cs a Ad qd Av qv := by
 match cs, hl with
 | [c0, c1, c2, c3, c4, c5, c6, c7, c8, c9, c10, c11], _ =>
  obtain ⟨xs, n0, _, _, _, hlen, hf⟩ := DataW.trod_struct Tryz.underlying42 h
  have hlen : xs.length = 6 := hlen
  obtain ⟨y0, e0⟩ := got hlen 0 (by decide)
  obtain ⟨y1, e1⟩ := got hlen 1 (by decide)
  obtain ⟨y2, e2⟩ := got hlen 2 (by decide)
  obtain ⟨y3, e3⟩ := got hlen 3 (by decide)
  obtain ⟨y4, e4⟩ := got hlen 4 (by decide)
  obtain ⟨y5, e5⟩ := got hlen 5 (by decide)
  have h0 := hf 0 _ rfl; have h1 := hf 1 _ rfl; have h2 := hf 2 _ rfl; have h3 := hf 3 _ rfl; have h4 := hf 4 _ rfl; have h5 := hf 5 _ rfl
  rw [e0] at h0; rw [e1] at h1; rw [e2] at h2; rw [e3] at h3; rw [e4] at h4; rw [e5] at h5
  obtain ⟨k, q0, _, w0⟩ := DataW.trod_int Tryz.underlying39 h0
  obtain ⟨nd, q1, _, w1⟩ := DataW.trod_int Tryz.underlying3 h1
  obtain ⟨m, q2, _, w2⟩ := DataW.trod_int Tryz.underlying3 h2
  obtain ⟨f, q4, _⟩ := DataW.trod_bool Tryz.underlying4 h4
  obtain ⟨ok, ov, ot, os, oa, oc, D, n, q, l, he, hC⟩ := op_trod (cs := [c3, c4, c5, c6, c7, c8, c9]) rfl h3
  obtain ⟨P, pq, px, zs, rfl, hq, hmx, hr, rfl, hz, _⟩ := open_nums (Value.int .i64) (fun z => z) Tryz.underlying40 Tryz.underlying3 (by kernel_rfl) (fun z hz => rfl) (c := c11) h5
  obtain rfl : c0 = .int .i64 k := List.head_eq_of_cons_eq q0
  obtain rfl : c1 = .int .i64 nd := List.head_eq_of_cons_eq q1
  obtain rfl : c2 = .int .i64 m := List.head_eq_of_cons_eq q2
  obtain rfl : c10 = .bool f := List.head_eq_of_cons_eq q4
  simp only [List.cons.injEq] at he
  obtain ⟨rfl, rfl, rfl, rfl, rfl, rfl, rfl, _⟩ := he
  have z1 := i64_wf w1; have z2 := i64_wf w2
  unfold maxLen at hmx
  rw [List.map_id'] at hr hq ⊢
  obtain ⟨B, hn, hnq, hnb, hrow⟩ := hC
  subst hn
  have hzl : zs.length ≤ 9223372036854775807 := by omega
  exact ⟨⟨k, nd, m, ⟨ok, ov, ot, os, oa, oc, l⟩, f, zs⟩, D, q, P, pq, rfl, fun b p hc => ⟨hc, B, z1.1, z1.2, z2.1, z2.2, hnq, hnb, hrow, hq, hzl, ⟨fun z h => (i64_wf (hz z h)).1, fun z h => (i64_wf (hz z h)).2⟩, hr⟩⟩
structure CameL (W : World) (A : Option Addr) (n q : Nat) (l : List ActV) : Prop where
 len : l.length = n
 cap : n ≤ q
 big : n ≤ 9223372036854775807
 nil : A = none → q = 0
 row : RowA W A l
set_option maxRecDepth 100000 in
theorem acts_trod {W : World} {c : Value} {fuel : Nat} {x : DataW H × List MemPlace} (h : DataW.trod enc Tryz.prog W 0 (fun _ => true) true fuel 56 [c] = some x) : ∃ A n q l, c = .slice A n q ∧ CameL W A n q l := by
 rcases DataW.trod_slice Tryz.underlying56 h with ⟨h0, _⟩ | ⟨ad, len, cap, elems, rest, n0, _, h0, _, _, hlc, hcm, hel, hget, _, _⟩
 ·obtain rfl : c = .slice none 0 0 := List.head_eq_of_cons_eq h0
  exact ⟨none, 0, 0, [], rfl, rfl, Nat.le_refl _, Nat.zero_le _, fun _ => rfl, RowA.nil⟩
 ·obtain rfl : c = .slice (some ad) len cap := List.head_eq_of_cons_eq h0
  have hco : Tryz.prog.cellsOf 42 = 12 := by kernel_rfl
  rw [hco] at hget
  have hone : ∀ i, i < len → ∃ cs, W.cells? 0 (ad.add (i * 12)) 12 = some cs ∧ ∃ a Ad qd Av qv, ActT W cs a Ad qd Av qv := fun i hi => by
   obtain ⟨y, hy⟩ := got hel i hi
   have h1 := hget i hi
   rw [hy] at h1
   obtain ⟨cs, hcs, ht⟩ := Option.bind_eq_some_iff.1 h1
   obtain ⟨_, hlen, _⟩ := World.cells?_some hcs
   exact ⟨cs, hcs, act_trod hlen ht⟩
  have hsp : 0 < len → ∃ b o, ad = ⟨b, o, none⟩ ∧ b < W.heap.size := fun hpos => by
   obtain ⟨cs, hcs, _⟩ := hone 0 hpos
   obtain ⟨_, hlen, hc⟩ := World.cells?_some hcs
   have hlt := World.cells?_block hcs (by decide)
   obtain ⟨b, o, sp⟩ := ad
   obtain ⟨c0, hc0⟩ := got hlen 0 (by decide)
   have g0 := hc 0 (by decide)
   rw [hc0] at g0
   have hspot : sp = none := by simpa [Addr.add] using World.cell?_spot g0
   subst hspot
   rw [Go.ChangeShapes.block_add] at hlt
   exact ⟨b, o, rfl, hlt⟩
  have hex : ∃ f : Nat → ActV, ∀ i, i < len → ∃ cs, W.cells? 0 (ad.add (i * 12)) 12 = some cs ∧ ∃ Ad qd Av qv, ActT W cs (f i) Ad qd Av qv := by
   refine ⟨fun i => if h : i < len then Classical.choose (Classical.choose_spec (hone i h)).2 else zA, fun i hi => ?_⟩
   simp only [dif_pos hi]
   exact ⟨_, (Classical.choose_spec (hone i hi)).1, Classical.choose_spec (Classical.choose_spec (hone i hi)).2⟩
  obtain ⟨f, hf⟩ := hex
  refine ⟨some ad, len, cap, (List.range len).map f, rfl, by simp, hlc, by unfold maxLen at hcm; omega, fun h => by (cases h), ⟨fun hne => ?_⟩⟩
  have hpos : 0 < len := by
   rcases Nat.eq_zero_or_pos len with h | h
   ·subst h; simp at hne
   ·exact h
  obtain ⟨b, o, rfl, hlt⟩ := hsp hpos
  refine ⟨b, o, rfl, hlt, fun j a hj => ?_⟩
  have hjl : j < len := by
   have := (List.getElem?_eq_some_iff.1 hj).1
   simpa using this
  rw [List.getElem?_map, List.getElem?_range hjl] at hj
  simp only [Option.map_some, Option.some.injEq] at hj
  subst hj
  obtain ⟨cs, hcs, Ad, qd, Av, qv, hT⟩ := hf j hjl
  obtain ⟨_, hlen, hc⟩ := World.cells?_some hcs
  refine ⟨Ad, qd, Av, qv, hT.m b _ fun i v hv => ?_⟩
  have hi : i < 12 := (Array.getElem?_eq_some_iff.1 hv).1
  have h1 := hc i hi
  rw [add_plain, add_plain] at h1
  rw [h1, hT.cs, Array.getElem?_toList]
  exact hv
set_option maxRecDepth 100000 in
theorem open_script {W : World} {base : Nat} {v : Value} {d : DataW H} {p : List MemPlace} (hv : Value.okWide Tryz.prog W .any base 58 v) (h : DataW.Trod enc Tryz.prog W 0 (fun _ => true) true 58 v d p) :
  ∃ m0 m1 d0 d1 g A n q l, v = .agg #[.int .i64 m0, .int .i64 m1, .int .i64 d0, .int .i64 d1, .int .i64 g, .slice A n q] ∧ CameL W A n q l := by
 obtain ⟨cs, rfl, hl, hc⟩ := open_cells [3, 3, 3, 3, 3, 56] Tryz.underlying58 (by kernel_rfl) (by kernel_rfl) hv
 obtain ⟨fuel, hd⟩ := h
 have hd : DataW.trod enc Tryz.prog W 0 (fun _ => true) true fuel 58 cs = some (d, p) := by simpa [Value.cells] using hd
 match cs, hl with
 | [c0, c1, c2, c3, c4, c5], _ =>
  obtain ⟨m0, rfl, _⟩ := cell_int Tryz.underlying3 (hc 0 c0 _ rfl rfl)
  obtain ⟨m1, rfl, _⟩ := cell_int Tryz.underlying3 (hc 1 c1 _ rfl rfl)
  obtain ⟨d0, rfl, _⟩ := cell_int Tryz.underlying3 (hc 2 c2 _ rfl rfl)
  obtain ⟨d1, rfl, _⟩ := cell_int Tryz.underlying3 (hc 3 c3 _ rfl rfl)
  obtain ⟨g, rfl, _⟩ := cell_int Tryz.underlying3 (hc 4 c4 _ rfl rfl)
  obtain ⟨xs, n0, _, _, _, hlen, hf⟩ := DataW.trod_struct Tryz.underlying58 hd
  have hlen : xs.length = 2 := hlen
  obtain ⟨y1, e1⟩ := got hlen 1 (by decide)
  have h1 := hf 1 _ rfl
  rw [e1] at h1
  obtain ⟨A, n, q, l, rfl, hL⟩ := acts_trod (c := c5) h1
  exact ⟨m0, m1, d0, d1, g, A, n, q, l, rfl, hL⟩
end
end Go.Proofs.YtgjdgafoidppaaaGreatDoor
namespace Go.Proofs.YtgjdgafoidppaaaGreatDoor
open Go.RowKit
set_option linter.unusedVariables false
set_option linter.unusedSimpArgs false
set_option linter.unnecessarySimpa false
set_option maxRecDepth 100000 in
set_option maxHeartbeats 4000000 in
theorem much26_any (m0 m1 d0 d1 g : Int) (A : Option Addr) (n q : Nat) (l : List ActV) (w : World) (hl : l.length = n) (hn : n ≤ 9223372036854775807) (h : RowA w A l) :
  Calls Tryz.prog 25 #[.agg #[.int .i64 m0, .int .i64 m1, .int .i64 d0, .int .i64 d1, .int .i64 g, .slice A n q]] w fun e w' => e = .returned (.bool (muchB l)) ∧ Gr w w' := by
 have HL := Lib.hid hl; have H := Lib.hid h; clear hl h
 have HB := Lib.hid (fun k nd m ok ov ot os oa oc (D P : Option Addr) n q pn pq f W => big26_any k nd m ok ov ot os oa oc D P n q pn pq f W)
 go_enter Tryz.func25, Tryz.ntmps25
 go_wp2
 go_loopw [3] (fun iv wr => ∃ j : Nat, iv = .int .i64 j ∧ j ≤ n ∧ j ≤ 31 ∧ (l.take j).any bigA = false ∧ Gr (w.alloc (.cells #[.int .i64 m0, .int .i64 m1, .int .i64 d0, .int .i64 d1, .int .i64 g, .slice A n q] 58)) wr) (fun iv _ => n - (intOf iv).toNat)
 case atStart => exact ⟨0, rfl, Nat.zero_le _, Nat.zero_le _, rfl, Gr.refl _⟩
 case round =>
  obtain ⟨j, rfl, hj, hj31, hany, hgr⟩ := hrel
  obtain ⟨gj, rfl⟩ := hgr
  have HANY := Lib.hid hany; clear hany
  by_cases hlt : j < n
  ·by_cases h30 : j ≤ 30
   ·have hjl : j < l.length := by have := HL.out; omega
    have hgj := List.getElem?_eq_getElem hjl
    obtain ⟨b, o, rfl, hb, hc⟩ := H.out.at_ (by rintro rfl; simp at hjl)
    obtain ⟨Ad, qd, Av, qv, hm⟩ := hc j _ hgj
    generalize l[j] = a at *
    have hta := take_any bigA l j a hgj
    obtain ⟨k, nd, m, ⟨ok, ov, ot, os, oa, oc, od⟩, f, pk⟩ := a
    have x0 : w.cell? ⟨b, o + j * 12, none⟩ = some (.int .i64 k) := hm.c 0 _ rfl
    have x1 : w.cell? ⟨b, o + j * 12 + 1, none⟩ = some (.int .i64 nd) := hm.c 1 _ rfl
    have x2 : w.cell? ⟨b, o + j * 12 + 2, none⟩ = some (.int .i64 m) := hm.c 2 _ rfl
    have x3 : w.cell? ⟨b, o + j * 12 + 3, none⟩ = some (.int .i64 ok) := hm.c 3 _ rfl
    have x4 : w.cell? ⟨b, o + j * 12 + 4, none⟩ = some (.int .u64 ov) := hm.c 4 _ rfl
    have x5 : w.cell? ⟨b, o + j * 12 + 5, none⟩ = some (.int .u64 ot) := hm.c 5 _ rfl
    have x6 : w.cell? ⟨b, o + j * 12 + 6, none⟩ = some (.int .i64 os) := hm.c 6 _ rfl
    have x7 : w.cell? ⟨b, o + j * 12 + 7, none⟩ = some (.int .i64 oa) := hm.c 7 _ rfl
    have x8 : w.cell? ⟨b, o + j * 12 + 8, none⟩ = some (.int .i64 oc) := hm.c 8 _ rfl
    have x9 : w.cell? ⟨b, o + j * 12 + 9, none⟩ = some (.slice Ad od.length qd) := hm.c 9 _ rfl
    have x10 : w.cell? ⟨b, o + j * 12 + 10, none⟩ = some (.bool f) := hm.c 10 _ rfl
    have x11 : w.cell? ⟨b, o + j * 12 + 11, none⟩ = some (.slice Av pk.length qv) := hm.c 11 _ rfl
    haveI : Old b w := ⟨hb⟩
    have hji : (j : Int) < (n : Int) := by omega
    have h3i : (j : Int) ≤ 30 := by omega
    have HB1 := Lib.hid (fun W => HB.out k nd m ok ov ot os oa oc Ad Av od.length qd pk.length qv f W)
    rcases Bool.eq_false_or_eq_true (decide (300 < pk.length) || decide (9000 < od.length)) with hb | hb
    ·have e : muchB l = true := by
      have h1 : (l.take (j + 1)).any bigA = true := by rw [hta, HANY.out]; exact hb
      have h2 : (l.take 31).any bigA = true := by
       rw [List.any_eq_true] at h1 ⊢
       obtain ⟨y, hy, hy2⟩ := h1
       exact ⟨y, (List.take_subset_take_left l (by omega)) hy, hy2⟩
      rw [muchB, h2, Bool.true_or]
     rw [hb] at HB1
     have HE := Lib.hid e; clear e hb hta hm hc hgj
     go_wp2_with ((go_at_call 18; ((with_reducible refine (HB1.out _).mono ?_); rintro _ _ ⟨rfl, g1, rfl⟩)))
     go_ret
     exact ⟨by rw [HE.out]; rfl, gri⟩
    ·have e : (l.take (j + 1)).any bigA = false := by rw [hta, HANY.out]; exact hb
     rw [hb] at HB1
     have HE := Lib.hid e; clear e hb hta hm hc hgj
     go_wp2_with ((go_at_call 18; ((with_reducible refine (HB1.out _).mono ?_); rintro _ _ ⟨rfl, g1, rfl⟩)))
     go_roundw
     case rel => exact ⟨j + 1, by go_num, by omega, by omega, HE.out, gri⟩
     case measure => simp [intOf]; omega
   ·have e : muchB l = true := by
     have h1 : decide (30 < l.length) = true := by have := HL.out; simp; omega
     rw [muchB, h1, Bool.or_true]
    have HE := Lib.hid e
    have hji : (j : Int) < (n : Int) := by omega
    have h3i : ¬ (j : Int) ≤ 30 := by omega
    have h4i : (30 : Int) < (n : Int) := by omega
    clear e
    go_wp2
    go_ret
    exact ⟨by rw [HE.out]; rfl, gri⟩
  ·have hjn : j = n := by omega
   have e : muchB l = decide ((30 : Int) < (n : Int)) := by
    have h1 : l.take j = l := List.take_of_length_le (by have := HL.out; omega)
    have h2 : (l.take 31).any bigA = false := by
     have h3 := HANY.out
     rw [h1] at h3
     rw [List.any_eq_false] at h3 ⊢
     exact fun y hy => h3 y (List.mem_of_mem_take hy)
    rw [muchB, h2, Bool.false_or, HL.out]
    exact decide_eq_decide.2 (by omega)
   have HE := Lib.hid e
   have hji : ¬ (j : Int) < (n : Int) := by omega
   clear e
   go_wp2
   go_ret
   exact ⟨by rw [HE.out]; rfl, gri⟩
def st5 (a b c d e a2 b2 c2 d2 e2 : Int) : Bool := (a == a2 && b == b2) && ((c == c2 && d == d2) && e == e2)
theorem eql_pair (w : World) (a b c d : Int) : (Op.equalIn 9999 53 (.agg #[.int .i64 a, .int .i64 b]) (.agg #[.int .i64 c, .int .i64 d])).run Tryz.prog w = .ok (a == c && b == d) w := by
 unfold Op.equalIn
 by_cases h : a = c
 ·subst h
  by_cases h2 : b = d
  ·subst h2; simp [go_sem, List.range']
  ·simp [go_sem, List.range', h2]
 ·simp [go_sem, List.range', h]
@[go_sem ↓] theorem eql_stage (w : World) (a b c d e a2 b2 c2 d2 e2 : Int) : (Op.equalIn 10000 55 (.agg #[.int .i64 a, .int .i64 b, .int .i64 c, .int .i64 d, .int .i64 e]) (.agg #[.int .i64 a2, .int .i64 b2, .int .i64 c2, .int .i64 d2, .int .i64 e2])).run Tryz.prog w = .ok (st5 a b c d e a2 b2 c2 d2 e2) w := by
 have h1 := eql_pair w a b a2 b2
 have h2 := eql_pair w c d c2 d2
 unfold Op.equalIn
 unfold st5
 generalize (a == a2 && b == b2) = x at *
 generalize (c == c2 && d == d2) = y at *
 cases x <;> cases y <;> simp [go_sem, h1, h2]
 by_cases h : e = e2
 ·subst h; simp
 ·simp [h]
def sameA (a b : ActV) : Bool := sameActB a.k a.nd a.m a.o.k a.o.v a.o.t a.o.s a.o.a a.o.c b.k b.nd b.m b.o.k b.o.v b.o.t b.o.s b.o.a b.o.c a.f b.f a.o.d b.o.d a.pk b.pk
def sameL (l r : List ActV) : Bool := (l.length == r.length) && (List.zipWith sameA l r).all id
theorem sameA_refl (a : ActV) : sameA a a = true := by simp [sameA, sameActB, sameB]
theorem sameA_eq {a b : ActV} (h : sameA a b = true) : a = b := by
 obtain ⟨k, nd, m, ⟨ok, ov, ot, os, oa, oc, od⟩, f, pk⟩ := a
 obtain ⟨k2, nd2, m2, ⟨ok2, ov2, ot2, os2, oa2, oc2, od2⟩, f2, pk2⟩ := b
 simp only [sameA, sameActB, sameB, Bool.and_eq_true, beq_iff_eq, decide_eq_true_eq] at h
 simp_all
theorem sameL_refl (l : List ActV) : sameL l l = true := by
 have h : ∀ l : List ActV, (List.zipWith sameA l l).all id = true := by
  intro l
  induction l with
  | nil => rfl
  | cons a l ih => simp [sameA_refl, ih]
 rw [sameL, h]; simp
theorem sameL_eq {l r : List ActV} (h : sameL l r = true) : l = r := by
 simp only [sameL, Bool.and_eq_true, beq_iff_eq] at h
 obtain ⟨h1, h2⟩ := h
 induction l generalizing r with
 | nil => exact (List.eq_nil_of_length_eq_zero h1.symm).symm
 | cons a l ih =>
  cases r with
  | nil => simp at h1
  | cons b r =>
   simp only [List.zipWith_cons_cons, List.all_cons, id, Bool.and_eq_true] at h2
   rw [sameA_eq h2.1, ih (by simpa using h1) h2.2]
theorem zip_take (l r : List ActV) (j : Nat) (x y : ActV) (hx : l[j]? = some x) (hy : r[j]? = some y) : ((List.zipWith sameA l r).take (j + 1)).all id = (((List.zipWith sameA l r).take j).all id && sameA x y) := by
 have h : (List.zipWith sameA l r)[j]? = some (sameA x y) := by simp [List.getElem?_zipWith, hx, hy]
 rw [List.take_add_one, h]; simp
theorem zip_stop {l r : List ActV} {j : Nat} (h : ((List.zipWith sameA l r).take (j + 1)).all id = false) : sameL l r = false := by
 have h1 : (List.zipWith sameA l r).all id = false := by
  rw [List.all_eq_false] at h ⊢
  obtain ⟨y, hy, hy2⟩ := h
  exact ⟨y, List.mem_of_mem_take hy, hy2⟩
 rw [sameL, h1, Bool.and_false]
set_option maxRecDepth 100000 in
set_option maxHeartbeats 4000000 in
theorem same26S_any (m0 m1 d0 d1 g m0' m1' d0' d1' g' : Int) (A A' : Option Addr) (n q n' q' : Nat) (l r : List ActV) (w : World) (hl : l.length = n) (hr : r.length = n') (hn : n ≤ 9223372036854775807) (hn' : n' ≤ 9223372036854775807) (h1 : RowA w A l) (h2 : RowA w A' r) :
  Calls Tryz.prog 28 #[.agg #[.int .i64 m0, .int .i64 m1, .int .i64 d0, .int .i64 d1, .int .i64 g, .slice A n q], .agg #[.int .i64 m0', .int .i64 m1', .int .i64 d0', .int .i64 d1', .int .i64 g', .slice A' n' q']] w fun e w' => e = .returned (.bool (st5 m0 m1 d0 d1 g m0' m1' d0' d1' g' && sameL l r)) ∧ Gr w w' := by
 have HL := Lib.hid hl; have HR := Lib.hid hr; have H1 := Lib.hid h1; have H2 := Lib.hid h2; clear hl hr h1 h2
 rcases Bool.eq_false_or_eq_true (st5 m0 m1 d0 d1 g m0' m1' d0' d1' g') with hs | hs
 ·rw [hs, Bool.true_and]
  by_cases hnn : n = n'
  ·subst hnn
   go_enter Tryz.func28, Tryz.ntmps28
   go_wp2
   go_loopw [5] (fun iv wr => ∃ j : Nat, iv = .int .i64 j ∧ j ≤ n ∧ ((List.zipWith sameA l r).take j).all id = true ∧ Gr ((w.alloc (.cells #[.int .i64 m0, .int .i64 m1, .int .i64 d0, .int .i64 d1, .int .i64 g, .slice A n q] 58)).alloc (.cells #[.int .i64 m0', .int .i64 m1', .int .i64 d0', .int .i64 d1', .int .i64 g', .slice A' n q'] 58)) wr) (fun iv _ => n - (intOf iv).toNat)
   case atStart => exact ⟨0, rfl, Nat.zero_le _, rfl, Gr.refl _⟩
   case round =>
    obtain ⟨j, rfl, hj, hany, hgr⟩ := hrel
    have hgw : Gr w wr := Gr.trans (Gr.of (below_alloc (below_alloc (Below.refl _ _) _) _)) hgr
    obtain ⟨gj, rfl⟩ := hgr
    have HANY := Lib.hid hany; have HGW := Lib.hid hgw; clear hany hgw
    by_cases hlt : j < n
    ·
     have hjl : j < l.length := by have := HL.out; omega
     have hjr : j < r.length := by have := HR.out; omega
     have hgj := List.getElem?_eq_getElem hjl
     have hrj := List.getElem?_eq_getElem hjr
     obtain ⟨b, o, rfl, hb, hc⟩ := H1.out.at_ (by rintro rfl; simp at hjl)
     obtain ⟨b2, o2, rfl, hb2, hc2⟩ := H2.out.at_ (by rintro rfl; simp at hjr)
     obtain ⟨Ad, qd, Av, qv, hm⟩ := hc j _ hgj
     obtain ⟨Ad2, qd2, Av2, qv2, hm2⟩ := hc2 j _ hrj
     have hta := zip_take l r j _ _ hgj hrj
     generalize l[j] = a at *
     generalize r[j] = a2 at *
     obtain ⟨k, nd, m, ⟨ok, ov, ot, os, oa, oc, od⟩, f, pk⟩ := a
     obtain ⟨k2, nd2, m2, ⟨ok2, ov2, ot2, os2, oa2, oc2, od2⟩, f2, pk2⟩ := a2
     have x0 : w.cell? ⟨b, o + j * 12, none⟩ = some (.int .i64 k) := hm.c 0 _ rfl
     have x1 : w.cell? ⟨b, o + j * 12 + 1, none⟩ = some (.int .i64 nd) := hm.c 1 _ rfl
     have x2 : w.cell? ⟨b, o + j * 12 + 2, none⟩ = some (.int .i64 m) := hm.c 2 _ rfl
     have x3 : w.cell? ⟨b, o + j * 12 + 3, none⟩ = some (.int .i64 ok) := hm.c 3 _ rfl
     have x4 : w.cell? ⟨b, o + j * 12 + 4, none⟩ = some (.int .u64 ov) := hm.c 4 _ rfl
     have x5 : w.cell? ⟨b, o + j * 12 + 5, none⟩ = some (.int .u64 ot) := hm.c 5 _ rfl
     have x6 : w.cell? ⟨b, o + j * 12 + 6, none⟩ = some (.int .i64 os) := hm.c 6 _ rfl
     have x7 : w.cell? ⟨b, o + j * 12 + 7, none⟩ = some (.int .i64 oa) := hm.c 7 _ rfl
     have x8 : w.cell? ⟨b, o + j * 12 + 8, none⟩ = some (.int .i64 oc) := hm.c 8 _ rfl
     have x9 : w.cell? ⟨b, o + j * 12 + 9, none⟩ = some (.slice Ad od.length qd) := hm.c 9 _ rfl
     have x10 : w.cell? ⟨b, o + j * 12 + 10, none⟩ = some (.bool f) := hm.c 10 _ rfl
     have x11 : w.cell? ⟨b, o + j * 12 + 11, none⟩ = some (.slice Av pk.length qv) := hm.c 11 _ rfl
     have y0 : w.cell? ⟨b2, o2 + j * 12, none⟩ = some (.int .i64 k2) := hm2.c 0 _ rfl
     have y1 : w.cell? ⟨b2, o2 + j * 12 + 1, none⟩ = some (.int .i64 nd2) := hm2.c 1 _ rfl
     have y2 : w.cell? ⟨b2, o2 + j * 12 + 2, none⟩ = some (.int .i64 m2) := hm2.c 2 _ rfl
     have y3 : w.cell? ⟨b2, o2 + j * 12 + 3, none⟩ = some (.int .i64 ok2) := hm2.c 3 _ rfl
     have y4 : w.cell? ⟨b2, o2 + j * 12 + 4, none⟩ = some (.int .u64 ov2) := hm2.c 4 _ rfl
     have y5 : w.cell? ⟨b2, o2 + j * 12 + 5, none⟩ = some (.int .u64 ot2) := hm2.c 5 _ rfl
     have y6 : w.cell? ⟨b2, o2 + j * 12 + 6, none⟩ = some (.int .i64 os2) := hm2.c 6 _ rfl
     have y7 : w.cell? ⟨b2, o2 + j * 12 + 7, none⟩ = some (.int .i64 oa2) := hm2.c 7 _ rfl
     have y8 : w.cell? ⟨b2, o2 + j * 12 + 8, none⟩ = some (.int .i64 oc2) := hm2.c 8 _ rfl
     have y9 : w.cell? ⟨b2, o2 + j * 12 + 9, none⟩ = some (.slice Ad2 od2.length qd2) := hm2.c 9 _ rfl
     have y10 : w.cell? ⟨b2, o2 + j * 12 + 10, none⟩ = some (.bool f2) := hm2.c 10 _ rfl
     have y11 : w.cell? ⟨b2, o2 + j * 12 + 11, none⟩ = some (.slice Av2 pk2.length qv2) := hm2.c 11 _ rfl
     haveI : Old b w := ⟨hb⟩
     haveI : Old b2 w := ⟨hb2⟩
     have hji : (j : Int) < (n : Int) := by omega
     have HSA := Lib.hid (fun W (hW : Gr w W) => (show Calls Tryz.prog 21 #[.agg #[.int .i64 k, .int .i64 nd, .int .i64 m, .int .i64 ok, .int .u64 ov, .int .u64 ot, .int .i64 os, .int .i64 oa, .int .i64 oc, .slice Ad od.length qd, .bool f, .slice Av pk.length qv], .agg #[.int .i64 k2, .int .i64 nd2, .int .i64 m2, .int .i64 ok2, .int .u64 ov2, .int .u64 ot2, .int .i64 os2, .int .i64 oa2, .int .i64 oc2, .slice Ad2 od2.length qd2, .bool f2, .slice Av2 pk2.length qv2]] W (fun e w' => e = .returned (.bool (sameA ⟨k, nd, m, ⟨ok, ov, ot, os, oa, oc, od⟩, f, pk⟩ ⟨k2, nd2, m2, ⟨ok2, ov2, ot2, os2, oa2, oc2, od2⟩, f2, pk2⟩)) ∧ Gr W w') from sameAct26_any k nd m ok ov ot os oa oc k2 nd2 m2 ok2 ov2 ot2 os2 oa2 oc2 Ad Ad2 Av Av2 od.length qd od2.length qd2 pk.length qv pk2.length qv2 f f2 od od2 pk pk2 W rfl rfl (hm.d.gr hW) (hm2.d.gr hW) rfl rfl hm.bv (hm.v.gr hW) (hm2.v.gr hW)))
     clear hc hc2 hgj hrj hm hm2
     generalize sameA _ _ = bb at *
     go_wp2
     refine wp_region_grow (by kernel_rfl) (by kernel_rfl) ?_
     repeat (go_big_quiet_step ((go_at_call 21; with_reducible exact grow_call (HSA.out _ (HGW.out.trans gri)))))
     refine wpQuiet_nil ?_
     intro g9
     cases bb
     ·have e : sameL l r = false := zip_stop (j := j) (by rw [hta, Bool.and_false])
      have HE := Lib.hid e; clear e
      go_wp2
      go_ret
      exact ⟨by rw [HE.out]; rfl, gri⟩
     ·have e : ((List.zipWith sameA l r).take (j + 1)).all id = true := by rw [hta, HANY.out]; rfl
      have HE := Lib.hid e; clear e hta
      go_wp2
      go_roundw
      case rel => exact ⟨j + 1, by go_num, by omega, HE.out, gri⟩
      case measure => simp [intOf]; omega
    ·have e : sameL l r = true := by
      have h1 : (List.zipWith sameA l r).take j = List.zipWith sameA l r := List.take_of_length_le (by have := HL.out; have := HR.out; simp; omega)
      have h2 := HANY.out
      rw [h1] at h2
      rw [sameL, h2, HL.out, HR.out]; simp
     have HE := Lib.hid e; clear e
     have hji : ¬ (j : Int) < (n : Int) := by omega
     go_wp2
     go_ret
     exact ⟨by rw [HE.out]; rfl, gri⟩
  ·have e : sameL l r = false := by
    have h1 : (l.length == r.length) = false := by rw [HL.out, HR.out]; simpa using hnn
    rw [sameL, h1, Bool.false_and]
   have HE := Lib.hid e; clear e
   have hne : ((n : Int) == (n' : Int)) = false := by simp; omega
   have hne2 : ((n : Int) != (n' : Int)) = true := by simp; omega
   have hne3 : ¬ (n : Int) = (n' : Int) := by omega
   go_enter Tryz.func28, Tryz.ntmps28
   go_wp2
   go_ret
   exact ⟨by rw [HE.out]; rfl, gri⟩
 ·rw [hs, Bool.false_and]
  go_enter Tryz.func28, Tryz.ntmps28
  go_wp2
  go_ret
  exact ⟨rfl, gri⟩
theorem num26_any (n : Int) (w : World) : Calls Tryz.prog 13 #[.int .i64 n] w fun e w' => e = .returned (.int .i64 n) ∧ w = w' := by
 go_enter Tryz.func13, Tryz.ntmps13
 go_wp2
 go_ret
 exact ⟨rfl, rfl⟩
theorem dec_small (u : Nat) (h : u < 10) : Lib.decDigits u = [UInt8.ofNat (48 + u)] := by rw [Lib.decDigits, dif_pos h]
theorem itoa_small (u : Nat) (h : u < 10) : Lib.itoa (u : Int) = [UInt8.ofNat (48 + u)] := by rw [Lib.itoa_nonneg, dec_small u h]
theorem known_text1 : actTextL 4 1 0 0 0 0 0 0 0 false [] [0, 2] = [111, 102, 102, 32, 49, 32, 48, 44, 50] := by
 have e0 : Lib.itoa 0 = [48] := itoa_small 0 (by omega)
 have e1 : Lib.itoa 1 = [49] := itoa_small 1 (by omega)
 have e2 : Lib.itoa 2 = [50] := itoa_small 2 (by omega)
 simp [actTextL, actPieces, rowL, pickT, e0, e1, e2, Lib.join, List.intercalate]
def blk7 : List UInt8 := 7 :: List.replicate 127 0
theorem known_data : dataL blk7 = [48, 55, 44, 45] := by decide +kernel
theorem known_text2 : actTextL 1 0 0 5 3 0 0 5 0 false blk7 [] = [97, 115, 107, 32, 48, 32, 119, 114, 105, 116, 101, 32, 51, 32, 53, 32, 48, 55, 44, 45] := by
 have e0 : Lib.itoa 0 = [48] := itoa_small 0 (by omega)
 have e5 : Lib.itoa 5 = [53] := itoa_small 5 (by omega)
 have e3 : Lib.decDigits 3 = [51] := dec_small 3 (by omega)
 simp [actTextL, actPieces, opTextL, opPieces, known_data, e0, e3, e5, Lib.join, List.intercalate]
theorem known_may1 : mayActB 4 1 0 0 0 0 0 0 0 false 0 2 [] [0, 2] = true := by decide
theorem known_may2 : mayActB 1 0 0 5 3 0 0 5 0 false 128 0 blk7 [] = true := by decide +kernel
theorem bd0 : Bd 0 0 0 0 0 := ⟨by omega, by omega, by omega, by omega, by omega, by omega, by omega, by omega, by omega, by omega⟩
theorem bd1 : Bd 3 0 0 5 0 := ⟨by omega, by omega, by omega, by omega, by omega, by omega, by omega, by omega, by omega, by omega⟩
theorem known_call1 (b : Nat) (W : World) [hk : Tb W] (hb : b < W.heap.size) (c0 : W.cell? ⟨b, 0, none⟩ = some (.int .i64 0)) (c1 : W.cell? ⟨b, 1, none⟩ = some (.int .i64 2)) :
  Calls Tryz.prog 15 #[(Value.agg #[.int .i64 4, .int .i64 1, .int .i64 0, .int .i64 0, .int .u64 0, .int .u64 0, .int .i64 0, .int .i64 0, .int .i64 0, .slice none 0 0, .bool false, .slice (some ⟨b, 0, none⟩) 2 2])] W fun e w' => e = .returned (.tuple #[.string ⟨#[111, 102, 102, 32, 49, 32, 48, 44, 50]⟩, .int .i64 0]) ∧ Gr W w' := by
 have h := ActText_any 4 1 0 0 0 0 0 0 0 none (some ⟨b, 0, none⟩) 0 0 2 2 false [] [0, 2] W (by omega) (by omega) (by omega) (by omega) bd0 rfl (by omega) Row.nil rfl (by omega) ⟨by intro n hn; simp at hn; omega, by intro n hn; simp at hn; omega⟩ ⟨fun _ => ⟨b, 0, rfl, hb, fun j x hx => by
  match j, hx with
  | 0, hx => simp at hx; subst hx; exact c0
  | 1, hx => simp at hx; subst hx; exact c1⟩⟩ (by omega) (by omega)
 rw [known_may1, known_text1] at h
 exact h
theorem known_call2 (b : Nat) (W : World) [hk : Tb W] (hr : Row bv W (some ⟨b, 0, none⟩) blk7) :
  Calls Tryz.prog 15 #[(Value.agg #[.int .i64 1, .int .i64 0, .int .i64 0, .int .i64 5, .int .u64 3, .int .u64 0, .int .i64 0, .int .i64 5, .int .i64 0, .slice (some ⟨b, 0, none⟩) 128 128, .bool false, .slice none 0 0])] W fun e w' => e = .returned (.tuple #[.string ⟨#[97, 115, 107, 32, 48, 32, 119, 114, 105, 116, 101, 32, 51, 32, 53, 32, 48, 55, 44, 45]⟩, .int .i64 0]) ∧ Gr W w' := by
 have h := ActText_any 1 0 0 5 3 0 0 5 0 (some ⟨b, 0, none⟩) none 128 128 0 0 false blk7 [] W (by omega) (by omega) (by omega) (by omega) bd1 rfl (by omega) hr rfl (by omega) ⟨by intro n hn; simp at hn, by intro n hn; simp at hn⟩ Row.nil (by omega) (by omega)
 rw [known_may2, known_text2] at h
 exact h
def zeros128 : Array Value := Array.replicate 128 (.int .u8 0)
theorem make128 (W : World) : (Instr.makeSlice 24 (.int .i64 128) (.int .i64 128)).run Tryz.prog W = .ok (.slice (some ⟨W.heap.size, 0, none⟩) 128 128) (W.alloc (.cells zeros128 5)) := by kernel_rfl
theorem zeros128_at (j : Nat) (h : j < 128) : zeros128[j]? = some (.int .u8 0) := by
 unfold zeros128; rw [Array.getElem?_replicate, if_pos h]
theorem blk7_at (j : Nat) (x : UInt8) (h : blk7[j]? = some x) : j < 128 ∧ (j = 0 ∧ x = 7 ∨ j ≠ 0 ∧ x = 0) := by
 have hl : j < 128 := by
  have := (List.getElem?_eq_some_iff.1 h).1
  simpa [blk7] using this
 refine ⟨hl, ?_⟩
 cases j with
 | zero => left; simp [blk7] at h; exact ⟨rfl, h.symm⟩
 | succ j =>
  right
  have h2 : j < 127 := by omega
  have h3 : (List.replicate 127 (0 : UInt8))[j]? = some x := h
  rw [List.getElem?_replicate, if_pos h2] at h3
  exact ⟨by omega, (Option.some.inj h3).symm⟩
set_option maxRecDepth 100000 in
set_option maxHeartbeats 2000000 in
theorem known26_any (w : World) [hk : Tb w] : Calls Tryz.prog 9 #[] w fun e w' => e = .returned (.bool true) ∧ Gr w w' := by
 have C1 := Lib.hid (fun b W (_ : Tb W) hb c0 c1 => known_call1 b W hb c0 c1)
 have C2 := Lib.hid (fun b W (_ : Tb W) hr => known_call2 b W hr)
 go_enter Tryz.func9, Tryz.ntmps9
 go_wp2_with (go_at_call 15; ((with_reducible refine (C1.out w.heap.size _ inferInstance ?h1 ?h2 ?h3).mono ?_)))
 case h1 => exact (inferInstance : Old _ _).lt
 case h2 => simp [go_sem]
 case h3 => simp [go_sem]
 rintro _ _ ⟨rfl, g, rfl⟩
 clear C1
 have hmk := fun W => make128 W
 have z0 : ∀ W : World, (W.alloc (.cells zeros128 5)).cell? ⟨W.heap.size, 0, none⟩ = some (.int .u8 0) := fun W => by rw [World.cell?_alloc_new]; exact zeros128_at 0 (by omega)
 go_wp2_with (go_at_call 15; ((with_reducible refine (C2.out _ _ inferInstance ?h4).mono ?_)))
 case h4 =>
  refine ⟨fun _ => ⟨_, 0, rfl, (inferInstance : Old _ _).lt, fun j x hx => ?_⟩⟩
  obtain ⟨hj, h5⟩ := blk7_at j x hx
  have hs : zeros128.size = 128 := by unfold zeros128; simp
  rw [Nat.zero_add, World.cell?_alloc_new, Array.getElem?_setIfInBounds]
  rcases h5 with ⟨rfl, rfl⟩ | ⟨h6, rfl⟩
  ·simp [hs]; rfl
  ·rw [if_neg (fun e => h6 e.symm)]
   exact zeros128_at j hj
 rintro _ _ ⟨rfl, g2, rfl⟩
 go_wp2_with (go_at_call 13; ((with_reducible refine (num26_any _ _).mono ?_); rintro _ _ ⟨rfl, rfl⟩))
 go_ret
 exact ⟨rfl, gri⟩
theorem rowA_bd {W : World} {A : Option Addr} {l : List ActV} (h : RowA W A l) : ∀ a ∈ l, ABd a := by
 intro a ha
 obtain ⟨j, hj, he⟩ := List.getElem_of_mem ha
 obtain ⟨b, o, rfl, hb, hc⟩ := h.at_ (by rintro rfl; cases ha)
 obtain ⟨Ad, qd, Av, qv, hm⟩ := hc j a (by rw [List.getElem?_eq_getElem hj, he])
 exact ⟨hm.bd, hm.n0, hm.n1, hm.m0, hm.m1, hm.bq, hm.bv, hm.pk⟩
theorem much_no {l : List ActV} (h : muchB l = false) : l.length ≤ 30 := by
 unfold muchB at h
 have := (Bool.or_eq_false_iff.1 h).2
 simpa using this
theorem st5_refl (a b c d e : Int) : st5 a b c d e a b c d e = true := by simp [st5]
set_option maxRecDepth 100000 in
set_option maxHeartbeats 4000000 in
theorem equalFuncA_any (A A' : Option Addr) (n q n' q' : Nat) (l r : List ActV) (w : World) (hl : l.length = n) (hr : r.length = n') (hn : n ≤ 9223372036854775807) (hn' : n' ≤ 9223372036854775807) (h1 : RowA w A l) (h2 : RowA w A' r) :
  Calls Tryz.prog 78 #[.slice A n q, .slice A' n' q', .func (.func 34) #[] #[]] w fun e w' => e = .returned (.bool (sameL l r)) ∧ Gr w w' := by
 have HL := Lib.hid hl; have HR := Lib.hid hr; have H1 := Lib.hid h1; have H2 := Lib.hid h2; clear hl hr h1 h2
 by_cases hnn : n = n'
 ·subst hnn
  have hne : ((n : Int) != (n : Int)) = false := by simp
  go_enter Tryz.func78, Tryz.ntmps78
  go_wp2
  go_loopw [17] (fun iv wr => ∃ j : Nat, iv = .int .i64 j ∧ j ≤ n ∧ ((List.zipWith sameA l r).take j).all id = true ∧ Gr w wr) (fun iv _ => n - (intOf iv).toNat)
  case atStart => exact ⟨0, rfl, Nat.zero_le _, rfl, gri⟩
  case round =>
   obtain ⟨j, rfl, hj, hany, hgr⟩ := hrel
   have hgw : Gr w wr := hgr
   obtain ⟨gj, rfl⟩ := hgr
   have HANY := Lib.hid hany; have HGW := Lib.hid hgw; clear hany hgw
   by_cases hlt : j < n
   ·
    have hjl : j < l.length := by have := HL.out; omega
    have hjr : j < r.length := by have := HR.out; omega
    have hgj := List.getElem?_eq_getElem hjl
    have hrj := List.getElem?_eq_getElem hjr
    obtain ⟨b, o, rfl, hb, hc⟩ := H1.out.at_ (by rintro rfl; simp at hjl)
    obtain ⟨b2, o2, rfl, hb2, hc2⟩ := H2.out.at_ (by rintro rfl; simp at hjr)
    obtain ⟨Ad, qd, Av, qv, hm⟩ := hc j _ hgj
    obtain ⟨Ad2, qd2, Av2, qv2, hm2⟩ := hc2 j _ hrj
    have hta := zip_take l r j _ _ hgj hrj
    generalize l[j] = a at *
    generalize r[j] = a2 at *
    obtain ⟨k, nd, m, ⟨ok, ov, ot, os, oa, oc, od⟩, f, pk⟩ := a
    obtain ⟨k2, nd2, m2, ⟨ok2, ov2, ot2, os2, oa2, oc2, od2⟩, f2, pk2⟩ := a2
    have x0 : w.cell? ⟨b, o + j * 12, none⟩ = some (.int .i64 k) := hm.c 0 _ rfl
    have x1 : w.cell? ⟨b, o + j * 12 + 1, none⟩ = some (.int .i64 nd) := hm.c 1 _ rfl
    have x2 : w.cell? ⟨b, o + j * 12 + 2, none⟩ = some (.int .i64 m) := hm.c 2 _ rfl
    have x3 : w.cell? ⟨b, o + j * 12 + 3, none⟩ = some (.int .i64 ok) := hm.c 3 _ rfl
    have x4 : w.cell? ⟨b, o + j * 12 + 4, none⟩ = some (.int .u64 ov) := hm.c 4 _ rfl
    have x5 : w.cell? ⟨b, o + j * 12 + 5, none⟩ = some (.int .u64 ot) := hm.c 5 _ rfl
    have x6 : w.cell? ⟨b, o + j * 12 + 6, none⟩ = some (.int .i64 os) := hm.c 6 _ rfl
    have x7 : w.cell? ⟨b, o + j * 12 + 7, none⟩ = some (.int .i64 oa) := hm.c 7 _ rfl
    have x8 : w.cell? ⟨b, o + j * 12 + 8, none⟩ = some (.int .i64 oc) := hm.c 8 _ rfl
    have x9 : w.cell? ⟨b, o + j * 12 + 9, none⟩ = some (.slice Ad od.length qd) := hm.c 9 _ rfl
    have x10 : w.cell? ⟨b, o + j * 12 + 10, none⟩ = some (.bool f) := hm.c 10 _ rfl
    have x11 : w.cell? ⟨b, o + j * 12 + 11, none⟩ = some (.slice Av pk.length qv) := hm.c 11 _ rfl
    have y0 : w.cell? ⟨b2, o2 + j * 12, none⟩ = some (.int .i64 k2) := hm2.c 0 _ rfl
    have y1 : w.cell? ⟨b2, o2 + j * 12 + 1, none⟩ = some (.int .i64 nd2) := hm2.c 1 _ rfl
    have y2 : w.cell? ⟨b2, o2 + j * 12 + 2, none⟩ = some (.int .i64 m2) := hm2.c 2 _ rfl
    have y3 : w.cell? ⟨b2, o2 + j * 12 + 3, none⟩ = some (.int .i64 ok2) := hm2.c 3 _ rfl
    have y4 : w.cell? ⟨b2, o2 + j * 12 + 4, none⟩ = some (.int .u64 ov2) := hm2.c 4 _ rfl
    have y5 : w.cell? ⟨b2, o2 + j * 12 + 5, none⟩ = some (.int .u64 ot2) := hm2.c 5 _ rfl
    have y6 : w.cell? ⟨b2, o2 + j * 12 + 6, none⟩ = some (.int .i64 os2) := hm2.c 6 _ rfl
    have y7 : w.cell? ⟨b2, o2 + j * 12 + 7, none⟩ = some (.int .i64 oa2) := hm2.c 7 _ rfl
    have y8 : w.cell? ⟨b2, o2 + j * 12 + 8, none⟩ = some (.int .i64 oc2) := hm2.c 8 _ rfl
    have y9 : w.cell? ⟨b2, o2 + j * 12 + 9, none⟩ = some (.slice Ad2 od2.length qd2) := hm2.c 9 _ rfl
    have y10 : w.cell? ⟨b2, o2 + j * 12 + 10, none⟩ = some (.bool f2) := hm2.c 10 _ rfl
    have y11 : w.cell? ⟨b2, o2 + j * 12 + 11, none⟩ = some (.slice Av2 pk2.length qv2) := hm2.c 11 _ rfl
    haveI : Old b w := ⟨hb⟩
    haveI : Old b2 w := ⟨hb2⟩
    have hji : (j : Int) < (n : Int) := by omega
    have HSA := Lib.hid (fun W (hW : Gr w W) => (show Calls Tryz.prog 34 #[.agg #[.int .i64 k, .int .i64 nd, .int .i64 m, .int .i64 ok, .int .u64 ov, .int .u64 ot, .int .i64 os, .int .i64 oa, .int .i64 oc, .slice Ad od.length qd, .bool f, .slice Av pk.length qv], .agg #[.int .i64 k2, .int .i64 nd2, .int .i64 m2, .int .i64 ok2, .int .u64 ov2, .int .u64 ot2, .int .i64 os2, .int .i64 oa2, .int .i64 oc2, .slice Ad2 od2.length qd2, .bool f2, .slice Av2 pk2.length qv2]] W (fun e w' => e = .returned (.bool (sameA ⟨k, nd, m, ⟨ok, ov, ot, os, oa, oc, od⟩, f, pk⟩ ⟨k2, nd2, m2, ⟨ok2, ov2, ot2, os2, oa2, oc2, od2⟩, f2, pk2⟩)) ∧ Gr W w') from sameAct_any k nd m ok ov ot os oa oc k2 nd2 m2 ok2 ov2 ot2 os2 oa2 oc2 Ad Ad2 Av Av2 od.length qd od2.length qd2 pk.length qv pk2.length qv2 f f2 od od2 pk pk2 W rfl rfl hm.bq (hm.d.gr hW) (hm2.d.gr hW) rfl rfl hm.bv hm2.bv (hm.v.gr hW) (hm2.v.gr hW)))
    clear hc hc2 hgj hrj hm hm2
    generalize sameA _ _ = bb at *
    cases bb
    ·have e : sameL l r = false := zip_stop (j := j) (by rw [hta, Bool.and_false])
     have HE := Lib.hid e; clear e
     go_wp2_with ((go_at_call 34; ((with_reducible refine (HSA.out _ (HGW.out.trans gri)).mono ?_); rintro _ _ ⟨rfl, g9, rfl⟩)))
     go_ret
     exact ⟨by rw [HE.out]; rfl, gri⟩
    ·have e : ((List.zipWith sameA l r).take (j + 1)).all id = true := by rw [hta, HANY.out]; rfl
     have HE := Lib.hid e; clear e hta
     go_wp2_with ((go_at_call 34; ((with_reducible refine (HSA.out _ (HGW.out.trans gri)).mono ?_); rintro _ _ ⟨rfl, g9, rfl⟩)))
     go_roundw
     case rel => exact ⟨j + 1, by go_num, by omega, HE.out, gri⟩
     case measure => simp [intOf]; omega
   ·have e : sameL l r = true := by
     have h1 : (List.zipWith sameA l r).take j = List.zipWith sameA l r := List.take_of_length_le (by have := HL.out; have := HR.out; simp; omega)
     have h2 := HANY.out
     rw [h1] at h2
     rw [sameL, h2, HL.out, HR.out]; simp
    have HE := Lib.hid e; clear e
    have hji : ¬ (j : Int) < (n : Int) := by omega
    go_wp2
    go_ret
    exact ⟨by rw [HE.out]; rfl, gri⟩
 ·have e : sameL l r = false := by
   have h1 : (l.length == r.length) = false := by rw [HL.out, HR.out]; simpa using hnn
   rw [sameL, h1, Bool.false_and]
  have HE := Lib.hid e; clear e
  have hne : ((n : Int) == (n' : Int)) = false := by simp; omega
  have hne2 : ((n : Int) != (n' : Int)) = true := by simp; omega
  have hne3 : ¬ (n : Int) = (n' : Int) := by omega
  go_enter Tryz.func78, Tryz.ntmps78
  go_wp2
  go_ret
  exact ⟨by rw [HE.out]; rfl, gri⟩
set_option maxRecDepth 100000 in
set_option maxHeartbeats 4000000 in
theorem sameS_any (m0 m1 d0 d1 g m0' m1' d0' d1' g' : Int) (A A' : Option Addr) (n q n' q' : Nat) (l r : List ActV) (w : World) (hl : l.length = n) (hr : r.length = n') (hn : n ≤ 9223372036854775807) (hn' : n' ≤ 9223372036854775807) (h1 : RowA w A l) (h2 : RowA w A' r) :
  Calls Tryz.prog 35 #[.agg #[.int .i64 m0, .int .i64 m1, .int .i64 d0, .int .i64 d1, .int .i64 g, .slice A n q], .agg #[.int .i64 m0', .int .i64 m1', .int .i64 d0', .int .i64 d1', .int .i64 g', .slice A' n' q']] w fun e w' => e = .returned (.bool (st5 m0 m1 d0 d1 g m0' m1' d0' d1' g' && sameL l r)) ∧ Gr w w' := by
 have HEQ := Lib.hid (fun W (hW : Gr w W) => equalFuncA_any A A' n q n' q' l r W hl hr hn hn' (h1.gr hW) (h2.gr hW))
 clear hl hr h1 h2
 rcases Bool.eq_false_or_eq_true (st5 m0 m1 d0 d1 g m0' m1' d0' d1' g') with hs | hs
 ·rw [hs, Bool.true_and]
  go_enter Tryz.func35, Tryz.ntmps35
  go_wp2_with ((go_at_call 78; ((with_reducible refine (HEQ.out _ gri).mono ?_); rintro _ _ ⟨rfl, g1, rfl⟩)))
  go_ret
  exact ⟨rfl, gri⟩
 ·rw [hs, Bool.false_and]
  go_enter Tryz.func35, Tryz.ntmps35
  go_wp2
  go_ret
  exact ⟨rfl, gri⟩
theorem st5_eq {a b c d e a2 b2 c2 d2 e2 : Int} (h : st5 a b c d e a2 b2 c2 d2 e2 = true) : a = a2 ∧ b = b2 ∧ c = c2 ∧ d = d2 ∧ e = e2 := by
 simp only [st5, Bool.and_eq_true, beq_iff_eq] at h
 exact ⟨h.1.1, h.1.2, h.2.1.1, h.2.1.2, h.2.2⟩
theorem beq_of {x y : ByteArray} {B : Bool} (h : x = y ↔ B = true) : (x.toList == y.toList) = B := by
 rw [Lib.toList_data, Lib.toList_data]
 cases B
 ·have : x.data.toList ≠ y.data.toList := fun e => by
   have h2 : x = y := by cases x; cases y; simp_all
   exact absurd (h.1 h2) (by simp)
  simpa using this
 ·rw [h.2 rfl]; simp
theorem twoActs {a b : ActV} (ha : a.may = true) (hb : b.may = true) : (({ data := a.text.toArray } : ByteArray).toList == ({ data := b.text.toArray } : ByteArray).toList) = sameA a b :=
 beq_of ⟨fun h => by
  have h2 : a.text = b.text := by simpa using h
  rw [actText_inj ha hb h2]; exact sameA_refl b, fun h => by rw [sameA_eq h]⟩
set_option maxRecDepth 100000 in
set_option maxHeartbeats 16000000 in
theorem twins_walk (xk xn xm xOk xOv xOt xOs xOa xOc : Int) (xD xP : Option Addr) (xN xQ xpn xpq : Nat) (xl : List UInt8) (xp : List Int) (xf : Bool) (yk yn ym yOk yOv yOt yOs yOa yOc : Int) (yD yP : Option Addr) (yN yQ ypn ypq : Nat) (yl : List UInt8) (yp : List Int) (yf : Bool)
  (m0 m1 d0 d1 g m0' m1' d0' d1' g' : Int) (A A' : Option Addr) (n q n' q' : Nat) (l l' : List ActV) (w : World) [hk : Tb w] [hml : Ml w] (hX : CameA w xk xn xm xOk xOv xOt xOs xOa xOc xD xN xQ xl xf xP xpn xpq xp) (hY : CameA w yk yn ym yOk yOv yOt yOs yOa yOc yD yN yQ yl yf yP ypn ypq yp) (hC : CameL w A n q l) (hC' : CameL w A' n' q' l') :
  Calls Tryz.prog 7 #[.agg #[.int .i64 xk, .int .i64 xn, .int .i64 xm, .int .i64 xOk, .int .u64 xOv, .int .u64 xOt, .int .i64 xOs, .int .i64 xOa, .int .i64 xOc, .slice xD xN xQ, .bool xf, .slice xP xpn xpq], .agg #[.int .i64 yk, .int .i64 yn, .int .i64 ym, .int .i64 yOk, .int .u64 yOv, .int .u64 yOt, .int .i64 yOs, .int .i64 yOa, .int .i64 yOc, .slice yD yN yQ, .bool yf, .slice yP ypn ypq], .agg #[.int .i64 m0, .int .i64 m1, .int .i64 d0, .int .i64 d1, .int .i64 g, .slice A n q], .agg #[.int .i64 m0', .int .i64 m1', .int .i64 d0', .int .i64 d1', .int .i64 g', .slice A' n' q']] w fun e w' => e = .returned (.bool true) ∧ Gr w w' := by
 have HX := Lib.hid hX; have HY := Lib.hid hY; have HC := Lib.hid hC; have HC' := Lib.hid hC'; clear hX hY hC hC'
 have HK := Lib.hid (fun W (_ : Tb W) => known26_any W)
 obtain ⟨ba, hba⟩ : ∃ b, (decide (300 < xpn) || decide (9000 < xN)) = b := ⟨_, rfl⟩
 obtain ⟨bb, hbb⟩ : ∃ b, (decide (300 < ypn) || decide (9000 < yN)) = b := ⟨_, rfl⟩
 obtain ⟨ms, hms⟩ : ∃ b, muchB l = b := ⟨_, rfl⟩
 obtain ⟨mo, hmo⟩ : ∃ b, muchB l' = b := ⟨_, rfl⟩
 have HBa := Lib.hid (fun W => (show Calls Tryz.prog 18 #[.agg #[.int .i64 xk, .int .i64 xn, .int .i64 xm, .int .i64 xOk, .int .u64 xOv, .int .u64 xOt, .int .i64 xOs, .int .i64 xOa, .int .i64 xOc, .slice xD xN xQ, .bool xf, .slice xP xpn xpq]] W (fun e w' => e = .returned (.bool ba) ∧ Gr W w') from hba ▸ big26_any xk xn xm xOk xOv xOt xOs xOa xOc xD xP xN xQ xpn xpq xf W))
 have HBb := Lib.hid (fun W => (show Calls Tryz.prog 18 #[.agg #[.int .i64 yk, .int .i64 yn, .int .i64 ym, .int .i64 yOk, .int .u64 yOv, .int .u64 yOt, .int .i64 yOs, .int .i64 yOa, .int .i64 yOc, .slice yD yN yQ, .bool yf, .slice yP ypn ypq]] W (fun e w' => e = .returned (.bool bb) ∧ Gr W w') from hbb ▸ big26_any yk yn ym yOk yOv yOt yOs yOa yOc yD yP yN yQ ypn ypq yf W))
 have HMs := Lib.hid (fun W (hW : Gr w W) => (show Calls Tryz.prog 25 #[.agg #[.int .i64 m0, .int .i64 m1, .int .i64 d0, .int .i64 d1, .int .i64 g, .slice A n q]] W (fun e w' => e = .returned (.bool ms) ∧ Gr W w') from hms ▸ much26_any m0 m1 d0 d1 g A n q l W HC.out.len HC.out.big (HC.out.row.gr hW)))
 have HMo := Lib.hid (fun W (hW : Gr w W) => (show Calls Tryz.prog 25 #[.agg #[.int .i64 m0', .int .i64 m1', .int .i64 d0', .int .i64 d1', .int .i64 g', .slice A' n' q']] W (fun e w' => e = .returned (.bool mo) ∧ Gr W w') from hmo ▸ much26_any m0' m1' d0' d1' g' A' n' q' l' W HC'.out.len HC'.out.big (HC'.out.row.gr hW)))
 clear hba hbb
 have HMS := Lib.hid hms; have HMO := Lib.hid hmo; clear hms hmo
 cases ba
 rotate_left
 ·as_aux_lemma =>
   go_enter Tryz.func7, Tryz.ntmps7
   go_wp2_with (first | (go_at_call 9; ((with_reducible refine (HK.out _ inferInstance).mono ?_); rintro _ _ ⟨rfl, g1, rfl⟩)) | (go_at_call 18; ((with_reducible refine (HBa.out _).mono ?_); rintro _ _ ⟨rfl, g2, rfl⟩)) | (go_at_call 18; ((with_reducible refine (HBb.out _).mono ?_); rintro _ _ ⟨rfl, g3, rfl⟩)) | (go_at_call 25; ((with_reducible refine (HMs.out _ gri).mono ?_); rintro _ _ ⟨rfl, g4, rfl⟩)) | (go_at_call 25; ((with_reducible refine (HMo.out _ gri).mono ?_); rintro _ _ ⟨rfl, g5, rfl⟩)))
   go_ret
   exact ⟨rfl, gri⟩
 cases bb
 rotate_left
 ·as_aux_lemma =>
   go_enter Tryz.func7, Tryz.ntmps7
   go_wp2_with (first | (go_at_call 9; ((with_reducible refine (HK.out _ inferInstance).mono ?_); rintro _ _ ⟨rfl, g1, rfl⟩)) | (go_at_call 18; ((with_reducible refine (HBa.out _).mono ?_); rintro _ _ ⟨rfl, g2, rfl⟩)) | (go_at_call 18; ((with_reducible refine (HBb.out _).mono ?_); rintro _ _ ⟨rfl, g3, rfl⟩)) | (go_at_call 25; ((with_reducible refine (HMs.out _ gri).mono ?_); rintro _ _ ⟨rfl, g4, rfl⟩)) | (go_at_call 25; ((with_reducible refine (HMo.out _ gri).mono ?_); rintro _ _ ⟨rfl, g5, rfl⟩)))
   go_ret
   exact ⟨rfl, gri⟩
 cases ms
 rotate_left
 ·as_aux_lemma =>
   go_enter Tryz.func7, Tryz.ntmps7
   go_wp2_with (first | (go_at_call 9; ((with_reducible refine (HK.out _ inferInstance).mono ?_); rintro _ _ ⟨rfl, g1, rfl⟩)) | (go_at_call 18; ((with_reducible refine (HBa.out _).mono ?_); rintro _ _ ⟨rfl, g2, rfl⟩)) | (go_at_call 18; ((with_reducible refine (HBb.out _).mono ?_); rintro _ _ ⟨rfl, g3, rfl⟩)) | (go_at_call 25; ((with_reducible refine (HMs.out _ gri).mono ?_); rintro _ _ ⟨rfl, g4, rfl⟩)) | (go_at_call 25; ((with_reducible refine (HMo.out _ gri).mono ?_); rintro _ _ ⟨rfl, g5, rfl⟩)))
   go_ret
   exact ⟨rfl, gri⟩
 cases mo
 rotate_left
 ·as_aux_lemma =>
   go_enter Tryz.func7, Tryz.ntmps7
   go_wp2_with (first | (go_at_call 9; ((with_reducible refine (HK.out _ inferInstance).mono ?_); rintro _ _ ⟨rfl, g1, rfl⟩)) | (go_at_call 18; ((with_reducible refine (HBa.out _).mono ?_); rintro _ _ ⟨rfl, g2, rfl⟩)) | (go_at_call 18; ((with_reducible refine (HBb.out _).mono ?_); rintro _ _ ⟨rfl, g3, rfl⟩)) | (go_at_call 25; ((with_reducible refine (HMs.out _ gri).mono ?_); rintro _ _ ⟨rfl, g4, rfl⟩)) | (go_at_call 25; ((with_reducible refine (HMo.out _ gri).mono ?_); rintro _ _ ⟨rfl, g5, rfl⟩)))
   go_ret
   exact ⟨rfl, gri⟩
 have hn30 := much_no HMS.out
 have hn30' := much_no HMO.out
 have HN := Lib.hid hn30; have HN' := Lib.hid hn30'; clear hn30 hn30'
 have hTa := fun W (_ : Tb W) (hW : Gr w W) => ActText_any xk xn xm xOk xOv xOt xOs xOa xOc xD xP xN xQ xpn xpq xf xl xp W HX.out.n0 HX.out.n1 HX.out.m0 HX.out.m1 HX.out.o.b HX.out.o.len HX.out.o.cap (HX.out.o.row.gr hW) HX.out.p.len HX.out.p.cap HX.out.p.pk (HX.out.p.row.gr hW) HX.out.o.big HX.out.p.big
 have hTb := fun W (_ : Tb W) (hW : Gr w W) => ActText_any yk yn ym yOk yOv yOt yOs yOa yOc yD yP yN yQ ypn ypq yf yl yp W HY.out.n0 HY.out.n1 HY.out.m0 HY.out.m1 HY.out.o.b HY.out.o.len HY.out.o.cap (HY.out.o.row.gr hW) HY.out.p.len HY.out.p.cap HY.out.p.pk (HY.out.p.row.gr hW) HY.out.o.big HY.out.p.big
 obtain ⟨Ba, hBa⟩ : ∃ b, mayActB xk xn xm xOk xOv xOt xOs xOa xOc xf xN xpn xl xp = b := ⟨_, rfl⟩
 obtain ⟨Bb, hBb⟩ : ∃ b, mayActB yk yn ym yOk yOv yOt yOs yOa yOc yf yN ypn yl yp = b := ⟨_, rfl⟩
 have hXY : Ba = true → Bb = true → (({ data := (actTextL xk xn xm xOk xOv xOt xOs xOa xOc xf xl xp).toArray } : ByteArray).toList == ({ data := (actTextL yk yn ym yOk yOv yOt yOs yOa yOc yf yl yp).toArray } : ByteArray).toList) = sameA ⟨xk, xn, xm, ⟨xOk, xOv, xOt, xOs, xOa, xOc, xl⟩, xf, xp⟩ ⟨yk, yn, ym, ⟨yOk, yOv, yOt, yOs, yOa, yOc, yl⟩, yf, yp⟩ := fun h1 h2 => by
  have e1 : xl.length = xN := HX.out.o.len
  have e2 : xp.length = xpn := HX.out.p.len
  have e3 : yl.length = yN := HY.out.o.len
  have e4 : yp.length = ypn := HY.out.p.len
  subst e1 e2 e3 e4 h1 h2
  exact twoActs (a := ⟨xk, xn, xm, ⟨xOk, xOv, xOt, xOs, xOa, xOc, xl⟩, xf, xp⟩) (b := ⟨yk, yn, ym, ⟨yOk, yOv, yOt, yOs, yOa, yOc, yl⟩, yf, yp⟩) hBa hBb
 rw [hBa] at hTa
 rw [hBb] at hTb
 clear hBa hBb
 generalize actTextL xk xn xm xOk xOv xOt xOs xOa xOc xf xl xp = Ta at hTa hXY
 generalize actTextL yk yn ym yOk yOv yOt yOs yOa yOc yf yl yp = Tb' at hTb hXY
 have hC1 := fun W (hW : Gr w W) => sameAct_any xk xn xm xOk xOv xOt xOs xOa xOc yk yn ym yOk yOv yOt yOs yOa yOc xD yD xP yP xN xQ yN yQ xpn xpq ypn ypq xf yf xl yl xp yp W HX.out.o.len HY.out.o.len HX.out.o.big (HX.out.o.row.gr hW) (HY.out.o.row.gr hW) HX.out.p.len HY.out.p.len HX.out.p.big HY.out.p.big (HX.out.p.row.gr hW) (HY.out.p.row.gr hW)
 have hC2 := fun W (hW : Gr w W) => sameAct26_any xk xn xm xOk xOv xOt xOs xOa xOc yk yn ym yOk yOv yOt yOs yOa yOc xD yD xP yP xN xQ yN yQ xpn xpq ypn ypq xf yf xl yl xp yp W HX.out.o.len HY.out.o.len (HX.out.o.row.gr hW) (HY.out.o.row.gr hW) HX.out.p.len HY.out.p.len HX.out.p.big (HX.out.p.row.gr hW) (HY.out.p.row.gr hW)
 have eS : sameActB xk xn xm xOk xOv xOt xOs xOa xOc yk yn ym yOk yOv yOt yOs yOa yOc xf yf xl yl xp yp = sameA ⟨xk, xn, xm, ⟨xOk, xOv, xOt, xOs, xOa, xOc, xl⟩, xf, xp⟩ ⟨yk, yn, ym, ⟨yOk, yOv, yOt, yOs, yOa, yOc, yl⟩, yf, yp⟩ := rfl
 rw [eS] at hC1 hC2
 clear eS
 generalize sameA ⟨xk, xn, xm, ⟨xOk, xOv, xOt, xOs, xOa, xOc, xl⟩, xf, xp⟩ ⟨yk, yn, ym, ⟨yOk, yOv, yOt, yOs, yOa, yOc, yl⟩, yf, yp⟩ = S1 at hC1 hC2 hXY
 obtain ⟨XA, hXA⟩ : ∃ x, ({ data := (if Ba = true then Ta else []).toArray } : ByteArray) = x := ⟨_, rfl⟩
 obtain ⟨XB, hXB⟩ : ∃ x, ({ data := (if Bb = true then Tb' else []).toArray } : ByteArray) = x := ⟨_, rfl⟩
 obtain ⟨EA, hEA⟩ : ∃ x : Int, (if Ba = true then 0 else 2) = x := ⟨_, rfl⟩
 obtain ⟨EB, hEB⟩ : ∃ x : Int, (if Bb = true then 0 else 2) = x := ⟨_, rfl⟩
 rw [hXA, hEA] at hTa
 rw [hXB, hEB] at hTb
 have hAB : (EA = 0 ∧ EB = 0 ∧ (XA.toList == XB.toList) = S1) ∨ ((EA + EB == 0) = false ∧ 0 ≤ EA ∧ EA ≤ 2 ∧ 0 ≤ EB ∧ EB ≤ 2) := by
  cases Ba
  ·subst hEA; cases Bb <;> (subst hEB; exact .inr (by decide))
  ·cases Bb
   ·subst hEA hEB; exact .inr (by decide)
   ·subst hEA hEB hXA hXB; exact .inl ⟨rfl, rfl, hXY rfl rfl⟩
 clear hXA hXB hEA hEB hXY
 have HTa := Lib.hid hTa; have HTb := Lib.hid hTb
 clear hTa hTb
 have HC1 := Lib.hid hC1; have HC2 := Lib.hid hC2
 clear hC1 hC2
 have hC3 := fun W (hW : Gr w W) => sameS_any m0 m1 d0 d1 g m0' m1' d0' d1' g' A A' n q n' q' l l' W HC.out.len HC'.out.len HC.out.big HC'.out.big (HC.out.row.gr hW) (HC'.out.row.gr hW)
 have hSo := fun W (hW : Gr w W) => same26S_any m0 m1 d0 d1 g m0' m1' d0' d1' g' A A' n q n' q' l l' W HC.out.len HC'.out.len HC.out.big HC'.out.big (HC.out.row.gr hW) (HC'.out.row.gr hW)
 obtain ⟨S2, hS2⟩ : ∃ b, (st5 m0 m1 d0 d1 g m0' m1' d0' d1' g' && sameL l l') = b := ⟨_, rfl⟩
 rw [hS2] at hC3 hSo
 have hlen : mayStB m0 m1 d0 d1 g = true → noMay l = false → n ≤ 5000 → (scTextL m0 m1 d0 d1 g l).length ≤ 16777216 := fun h1 h2 _ => Nat.le_trans (script_small m0 m1 d0 d1 g l h1 (noMay_no h2) (rowA_bd HC.out.row) HN.out) (by omega)
 have hlen' : mayStB m0' m1' d0' d1' g' = true → noMay l' = false → n' ≤ 5000 → (scTextL m0' m1' d0' d1' g' l').length ≤ 16777216 := fun h1 h2 _ => Nat.le_trans (script_small m0' m1' d0' d1' g' l' h1 (noMay_no h2) (rowA_bd HC'.out.row) HN'.out) (by omega)
 have hTs := fun W (_ : Tb W) (hW : Gr w W) => text_any m0 m1 d0 d1 g A n q l W HC.out.len HC.out.big (HC.out.row.gr hW) hlen
 have hTo := fun W (_ : Tb W) (hW : Gr w W) => text_any m0' m1' d0' d1' g' A' n' q' l' W HC'.out.len HC'.out.big (HC'.out.row.gr hW) hlen'
 have h5 : ¬ 5000 < l.length := by have := HN.out; omega
 have h5' : ¬ 5000 < l'.length := by have := HN'.out; omega
 obtain ⟨Es, hEs⟩ : ∃ b, (mayStB m0 m1 d0 d1 g && !noMay l) = b := ⟨_, rfl⟩
 obtain ⟨Eo, hEo⟩ : ∃ b, (mayStB m0' m1' d0' d1' g' && !noMay l') = b := ⟨_, rfl⟩
 have htE : tE m0 m1 d0 d1 g l = if Es then 0 else 2 := by rw [tE, hEs, if_neg h5]
 have htE' : tE m0' m1' d0' d1' g' l' = if Eo then 0 else 2 := by rw [tE, hEo, if_neg h5']
 have hPQ : Es = true → Eo = true → ((tS m0 m1 d0 d1 g l).toList == (tS m0' m1' d0' d1' g' l').toList) = S2 := fun h1 h2 => by
  subst h1 h2
  simp only [Bool.and_eq_true, Bool.not_eq_true'] at hEs hEo
  have e1 : tS m0 m1 d0 d1 g l = ⟨(scTextL m0 m1 d0 d1 g l).toArray⟩ := by simp [tS, htE]
  have e2 : tS m0' m1' d0' d1' g' l' = ⟨(scTextL m0' m1' d0' d1' g' l').toArray⟩ := by simp [tS, htE']
  rw [e1, e2, ← hS2]
  refine beq_of ⟨fun h => ?_, fun h => ?_⟩
  ·have h3 : scTextL m0 m1 d0 d1 g l = scTextL m0' m1' d0' d1' g' l' := by simpa using h
   obtain ⟨⟨rfl, rfl, rfl, rfl, rfl⟩, rfl⟩ := scText_inj hEs.1 (noMay_no hEs.2) (by omega) hEo.1 (noMay_no hEo.2) (by omega) h3
   rw [st5_refl, sameL_refl]; rfl
  ·obtain ⟨h3, h4⟩ := Bool.and_eq_true_iff.1 h
   obtain ⟨rfl, rfl, rfl, rfl, rfl⟩ := st5_eq h3
   rw [sameL_eq h4]
 have hback : Es = true → BackS (tS m0 m1 d0 d1 g l) m0 m1 d0 d1 g l ∧ (tS m0 m1 d0 d1 g l).size ≤ 200000 := fun h1 => by
  subst h1
  simp only [Bool.and_eq_true, Bool.not_eq_true'] at hEs
  have e1 : tS m0 m1 d0 d1 g l = ⟨(scTextL m0 m1 d0 d1 g l).toArray⟩ := by simp [tS, htE]
  rw [e1]
  refine ⟨script_back _ _ _ _ _ _ _ hEs.1 (noMay_no hEs.2) (by omega) (by simp), ?_⟩
  have := script_small m0 m1 d0 d1 g l hEs.1 (noMay_no hEs.2) (rowA_bd HC.out.row) HN.out
  show (scTextL m0 m1 d0 d1 g l).length ≤ 200000
  omega
 have hTr := fun (A1 : Option Addr) (q1 : Nat) W (_ : Tb W) (h1 : RowA W A1 l) => text_any m0 m1 d0 d1 g A1 n q1 l W HC.out.len HC.out.big h1 hlen
 have hSr := fun (A1 : Option Addr) (q1 : Nat) W (h1 : RowA W A1 l) (hW : Gr w W) => same26S_any m0 m1 d0 d1 g m0 m1 d0 d1 g A1 A n q1 n q l l W HC.out.len HC.out.len HC.out.big HC.out.big h1 (HC.out.row.gr hW)
 rw [htE] at hTs hTr
 rw [htE'] at hTo
 simp only [st5_refl, sameL_refl, Bool.and_self] at hSr
 clear htE htE' hS2 hEs hEo hlen hlen' h5 h5'
 obtain ⟨ES, hES⟩ : ∃ x : Int, (if Es = true then 0 else 2) = x := ⟨_, rfl⟩
 obtain ⟨EO, hEO⟩ : ∃ x : Int, (if Eo = true then 0 else 2) = x := ⟨_, rfl⟩
 rw [hES] at hTs hTr
 rw [hEO] at hTo
 generalize tS m0 m1 d0 d1 g l = X at *
 generalize tS m0' m1' d0' d1' g' l' = Z at *
 have HC3 := Lib.hid hC3; have HSo := Lib.hid hSo; have HTs := Lib.hid hTs; have HTo := Lib.hid hTo; have HBK := Lib.hid hback; have HTr := Lib.hid hTr; have HSr := Lib.hid hSr; have HPQ := Lib.hid hPQ
 clear hC3 hSo hTs hTo hback hTr hSr hPQ
 have hSO : (ES = 0 ∧ EO = 0 ∧ (X.toList == Z.toList) = S2 ∧ BackS X m0 m1 d0 d1 g l ∧ X.size ≤ 200000) ∨ (ES = 0 ∧ EO = 2 ∧ BackS X m0 m1 d0 d1 g l ∧ X.size ≤ 200000) ∨ (ES = 2 ∧ (2 + EO == 0) = false ∧ 0 ≤ EO ∧ EO ≤ 2) := by
  cases Es
  ·subst hES; cases Eo <;> (subst hEO; exact .inr (.inr (by decide)))
  ·have := HBK.out rfl
   cases Eo
   ·subst hES hEO; exact .inr (.inl ⟨rfl, rfl, this.1, this.2⟩)
   ·subst hES hEO; exact .inl ⟨rfl, rfl, HPQ.out rfl rfl, this.1, this.2⟩
 clear hES hEO HBK HPQ
 rcases hSO with ⟨rfl, rfl, hXZ, hBX, hXs⟩ | ⟨rfl, rfl, hBX, hXs⟩ | ⟨rfl, hsum, hs1, hs2⟩
 ·have HBX := Lib.hid hBX; have HXs := Lib.hid hXs; clear hBX hXs
  have HPX := Lib.hid (fun V (h1 : Tb V) (h2 : Ml V) => (show Calls Tryz.prog 26 #[.string X] V (fun e w' => ∃ A9 q9, e = .returned (.tuple #[.agg #[.int .i64 m0, .int .i64 m1, .int .i64 d0, .int .i64 d1, .int .i64 g, .slice A9 n q9], .int .i64 0, .int .i64 0]) ∧ RowA w' A9 l ∧ Gr V w') from by
   refine (parse_any X HXs.out V).mono ?_
   rintro e w' ⟨A9, q9, rfl, _, hr, hg⟩
   obtain ⟨p1, p2, p3, p4, p5⟩ := HBX.out.st
   have hgd := HBX.out.good
   rw [HBX.out.acts] at hr
   refine ⟨A9, q9, ?_, hr, hg⟩
   simp only [pS, hgd, if_true, p1, p2, p3, p4, p5, HBX.out.acts, HBX.out.at_, HBX.out.e, HC.out.len]; rfl))
  rcases hAB with ⟨rfl, rfl, hxy⟩ | ⟨hab, ha1, ha2, hb1, hb2⟩
  ·as_aux_lemma =>
    go_enter Tryz.func7, Tryz.ntmps7
    go_wp2_with (first | (go_at_call 9; ((with_reducible refine (HK.out _ inferInstance).mono ?_); rintro _ _ ⟨rfl, g1, rfl⟩)) | (go_at_call 18; ((with_reducible refine (HBa.out _).mono ?_); rintro _ _ ⟨rfl, g2, rfl⟩)) | (go_at_call 18; ((with_reducible refine (HBb.out _).mono ?_); rintro _ _ ⟨rfl, g3, rfl⟩)) | (go_at_call 25; ((with_reducible refine (HMs.out _ gri).mono ?_); rintro _ _ ⟨rfl, g4, rfl⟩)) | (go_at_call 25; ((with_reducible refine (HMo.out _ gri).mono ?_); rintro _ _ ⟨rfl, g5, rfl⟩)) | (go_at_call 15; ((with_reducible refine (HTa.out _ inferInstance gri).mono ?_); rintro _ _ ⟨rfl, g6, rfl⟩)) | (go_at_call 15; ((with_reducible refine (HTb.out _ inferInstance gri).mono ?_); rintro _ _ ⟨rfl, g7, rfl⟩)) | (go_at_call 29; ((with_reducible refine (HTs.out _ inferInstance gri).mono ?_); rintro _ _ ⟨rfl, g8, rfl⟩)) | (go_at_call 29; ((with_reducible refine (HTo.out _ inferInstance gri).mono ?_); rintro _ _ ⟨rfl, g9, rfl⟩)) | (go_at_call 13; ((with_reducible refine (num26_any _ _).mono ?_); rintro _ _ ⟨rfl, rfl⟩)) | (go_at_call 28; ((with_reducible refine (HSo.out _ gri).mono ?_); rintro _ _ ⟨rfl, g10, rfl⟩)))
    refine wp_region_grow (by kernel_rfl) (by kernel_rfl) ?_
    repeat (go_big_quiet_step ((first | (go_at_call 34; with_reducible exact grow_call (HC1.out _ gri)) | (go_at_call 21; with_reducible exact grow_call (HC2.out _ gri)) | (go_at_call 35; with_reducible exact grow_call (HC3.out _ gri)) | (go_at_call 28; with_reducible exact grow_call (HSo.out _ gri)) | (go_at_call 13; exact grow_call_same (num26_any _ _)))))
    refine wpQuiet_nil ?_
    intro g20
    go_wp2_with (first | (go_at_call 9; ((with_reducible refine (HK.out _ inferInstance).mono ?_); rintro _ _ ⟨rfl, g1, rfl⟩)) | (go_at_call 18; ((with_reducible refine (HBa.out _).mono ?_); rintro _ _ ⟨rfl, g2, rfl⟩)) | (go_at_call 18; ((with_reducible refine (HBb.out _).mono ?_); rintro _ _ ⟨rfl, g3, rfl⟩)) | (go_at_call 25; ((with_reducible refine (HMs.out _ gri).mono ?_); rintro _ _ ⟨rfl, g4, rfl⟩)) | (go_at_call 25; ((with_reducible refine (HMo.out _ gri).mono ?_); rintro _ _ ⟨rfl, g5, rfl⟩)) | (go_at_call 15; ((with_reducible refine (HTa.out _ inferInstance gri).mono ?_); rintro _ _ ⟨rfl, g6, rfl⟩)) | (go_at_call 15; ((with_reducible refine (HTb.out _ inferInstance gri).mono ?_); rintro _ _ ⟨rfl, g7, rfl⟩)) | (go_at_call 29; ((with_reducible refine (HTs.out _ inferInstance gri).mono ?_); rintro _ _ ⟨rfl, g8, rfl⟩)) | (go_at_call 29; ((with_reducible refine (HTo.out _ inferInstance gri).mono ?_); rintro _ _ ⟨rfl, g9, rfl⟩)) | (go_at_call 13; ((with_reducible refine (num26_any _ _).mono ?_); rintro _ _ ⟨rfl, rfl⟩)) | (go_at_call 28; ((with_reducible refine (HSo.out _ gri).mono ?_); rintro _ _ ⟨rfl, g10, rfl⟩)) | (go_at_call 26; ((with_reducible refine (HPX.out _ inferInstance inferInstance).mono ?_); rintro _ _ ⟨A9, q9, rfl, hr9, g30, rfl⟩; have HR9 := Lib.hid hr9; clear hr9)) | (go_at_call 29; ((with_reducible refine (HTr.out _ _ _ inferInstance (HR9.out.gr gri)).mono ?_); rintro _ _ ⟨rfl, g31, rfl⟩)) | (go_at_call 28; ((with_reducible refine (HSr.out _ _ _ (HR9.out.gr gri) gri).mono ?_); rintro _ _ ⟨rfl, g32, rfl⟩)))
    go_ret
    exact ⟨rfl, gri⟩
  ·as_aux_lemma =>
    go_enter Tryz.func7, Tryz.ntmps7
    go_wp2_with (first | (go_at_call 9; ((with_reducible refine (HK.out _ inferInstance).mono ?_); rintro _ _ ⟨rfl, g1, rfl⟩)) | (go_at_call 18; ((with_reducible refine (HBa.out _).mono ?_); rintro _ _ ⟨rfl, g2, rfl⟩)) | (go_at_call 18; ((with_reducible refine (HBb.out _).mono ?_); rintro _ _ ⟨rfl, g3, rfl⟩)) | (go_at_call 25; ((with_reducible refine (HMs.out _ gri).mono ?_); rintro _ _ ⟨rfl, g4, rfl⟩)) | (go_at_call 25; ((with_reducible refine (HMo.out _ gri).mono ?_); rintro _ _ ⟨rfl, g5, rfl⟩)) | (go_at_call 15; ((with_reducible refine (HTa.out _ inferInstance gri).mono ?_); rintro _ _ ⟨rfl, g6, rfl⟩)) | (go_at_call 15; ((with_reducible refine (HTb.out _ inferInstance gri).mono ?_); rintro _ _ ⟨rfl, g7, rfl⟩)) | (go_at_call 29; ((with_reducible refine (HTs.out _ inferInstance gri).mono ?_); rintro _ _ ⟨rfl, g8, rfl⟩)) | (go_at_call 29; ((with_reducible refine (HTo.out _ inferInstance gri).mono ?_); rintro _ _ ⟨rfl, g9, rfl⟩)) | (go_at_call 13; ((with_reducible refine (num26_any _ _).mono ?_); rintro _ _ ⟨rfl, rfl⟩)) | (go_at_call 28; ((with_reducible refine (HSo.out _ gri).mono ?_); rintro _ _ ⟨rfl, g10, rfl⟩)))
    refine wp_region_grow (by kernel_rfl) (by kernel_rfl) ?_
    repeat (go_big_quiet_step ((first | (go_at_call 34; with_reducible exact grow_call (HC1.out _ gri)) | (go_at_call 21; with_reducible exact grow_call (HC2.out _ gri)) | (go_at_call 35; with_reducible exact grow_call (HC3.out _ gri)) | (go_at_call 28; with_reducible exact grow_call (HSo.out _ gri)) | (go_at_call 13; exact grow_call_same (num26_any _ _)))))
    refine wpQuiet_nil ?_
    intro g20
    go_wp2_with (first | (go_at_call 9; ((with_reducible refine (HK.out _ inferInstance).mono ?_); rintro _ _ ⟨rfl, g1, rfl⟩)) | (go_at_call 18; ((with_reducible refine (HBa.out _).mono ?_); rintro _ _ ⟨rfl, g2, rfl⟩)) | (go_at_call 18; ((with_reducible refine (HBb.out _).mono ?_); rintro _ _ ⟨rfl, g3, rfl⟩)) | (go_at_call 25; ((with_reducible refine (HMs.out _ gri).mono ?_); rintro _ _ ⟨rfl, g4, rfl⟩)) | (go_at_call 25; ((with_reducible refine (HMo.out _ gri).mono ?_); rintro _ _ ⟨rfl, g5, rfl⟩)) | (go_at_call 15; ((with_reducible refine (HTa.out _ inferInstance gri).mono ?_); rintro _ _ ⟨rfl, g6, rfl⟩)) | (go_at_call 15; ((with_reducible refine (HTb.out _ inferInstance gri).mono ?_); rintro _ _ ⟨rfl, g7, rfl⟩)) | (go_at_call 29; ((with_reducible refine (HTs.out _ inferInstance gri).mono ?_); rintro _ _ ⟨rfl, g8, rfl⟩)) | (go_at_call 29; ((with_reducible refine (HTo.out _ inferInstance gri).mono ?_); rintro _ _ ⟨rfl, g9, rfl⟩)) | (go_at_call 13; ((with_reducible refine (num26_any _ _).mono ?_); rintro _ _ ⟨rfl, rfl⟩)) | (go_at_call 28; ((with_reducible refine (HSo.out _ gri).mono ?_); rintro _ _ ⟨rfl, g10, rfl⟩)) | (go_at_call 26; ((with_reducible refine (HPX.out _ inferInstance inferInstance).mono ?_); rintro _ _ ⟨A9, q9, rfl, hr9, g30, rfl⟩; have HR9 := Lib.hid hr9; clear hr9)) | (go_at_call 29; ((with_reducible refine (HTr.out _ _ _ inferInstance (HR9.out.gr gri)).mono ?_); rintro _ _ ⟨rfl, g31, rfl⟩)) | (go_at_call 28; ((with_reducible refine (HSr.out _ _ _ (HR9.out.gr gri) gri).mono ?_); rintro _ _ ⟨rfl, g32, rfl⟩)))
    go_ret
    exact ⟨rfl, gri⟩
 ·have HBX := Lib.hid hBX; have HXs := Lib.hid hXs; clear hBX hXs
  have HPX := Lib.hid (fun V (h1 : Tb V) (h2 : Ml V) => (show Calls Tryz.prog 26 #[.string X] V (fun e w' => ∃ A9 q9, e = .returned (.tuple #[.agg #[.int .i64 m0, .int .i64 m1, .int .i64 d0, .int .i64 d1, .int .i64 g, .slice A9 n q9], .int .i64 0, .int .i64 0]) ∧ RowA w' A9 l ∧ Gr V w') from by
   refine (parse_any X HXs.out V).mono ?_
   rintro e w' ⟨A9, q9, rfl, _, hr, hg⟩
   obtain ⟨p1, p2, p3, p4, p5⟩ := HBX.out.st
   have hgd := HBX.out.good
   rw [HBX.out.acts] at hr
   refine ⟨A9, q9, ?_, hr, hg⟩
   simp only [pS, hgd, if_true, p1, p2, p3, p4, p5, HBX.out.acts, HBX.out.at_, HBX.out.e, HC.out.len]; rfl))
  rcases hAB with ⟨rfl, rfl, hxy⟩ | ⟨hab, ha1, ha2, hb1, hb2⟩
  ·as_aux_lemma =>
    go_enter Tryz.func7, Tryz.ntmps7
    go_wp2_with (first | (go_at_call 9; ((with_reducible refine (HK.out _ inferInstance).mono ?_); rintro _ _ ⟨rfl, g1, rfl⟩)) | (go_at_call 18; ((with_reducible refine (HBa.out _).mono ?_); rintro _ _ ⟨rfl, g2, rfl⟩)) | (go_at_call 18; ((with_reducible refine (HBb.out _).mono ?_); rintro _ _ ⟨rfl, g3, rfl⟩)) | (go_at_call 25; ((with_reducible refine (HMs.out _ gri).mono ?_); rintro _ _ ⟨rfl, g4, rfl⟩)) | (go_at_call 25; ((with_reducible refine (HMo.out _ gri).mono ?_); rintro _ _ ⟨rfl, g5, rfl⟩)) | (go_at_call 15; ((with_reducible refine (HTa.out _ inferInstance gri).mono ?_); rintro _ _ ⟨rfl, g6, rfl⟩)) | (go_at_call 15; ((with_reducible refine (HTb.out _ inferInstance gri).mono ?_); rintro _ _ ⟨rfl, g7, rfl⟩)) | (go_at_call 29; ((with_reducible refine (HTs.out _ inferInstance gri).mono ?_); rintro _ _ ⟨rfl, g8, rfl⟩)) | (go_at_call 29; ((with_reducible refine (HTo.out _ inferInstance gri).mono ?_); rintro _ _ ⟨rfl, g9, rfl⟩)) | (go_at_call 13; ((with_reducible refine (num26_any _ _).mono ?_); rintro _ _ ⟨rfl, rfl⟩)) | (go_at_call 28; ((with_reducible refine (HSo.out _ gri).mono ?_); rintro _ _ ⟨rfl, g10, rfl⟩)))
    refine wp_region_grow (by kernel_rfl) (by kernel_rfl) ?_
    repeat (go_big_quiet_step ((first | (go_at_call 34; with_reducible exact grow_call (HC1.out _ gri)) | (go_at_call 21; with_reducible exact grow_call (HC2.out _ gri)) | (go_at_call 35; with_reducible exact grow_call (HC3.out _ gri)) | (go_at_call 28; with_reducible exact grow_call (HSo.out _ gri)) | (go_at_call 13; exact grow_call_same (num26_any _ _)))))
    refine wpQuiet_nil ?_
    intro g20
    go_wp2_with (first | (go_at_call 9; ((with_reducible refine (HK.out _ inferInstance).mono ?_); rintro _ _ ⟨rfl, g1, rfl⟩)) | (go_at_call 18; ((with_reducible refine (HBa.out _).mono ?_); rintro _ _ ⟨rfl, g2, rfl⟩)) | (go_at_call 18; ((with_reducible refine (HBb.out _).mono ?_); rintro _ _ ⟨rfl, g3, rfl⟩)) | (go_at_call 25; ((with_reducible refine (HMs.out _ gri).mono ?_); rintro _ _ ⟨rfl, g4, rfl⟩)) | (go_at_call 25; ((with_reducible refine (HMo.out _ gri).mono ?_); rintro _ _ ⟨rfl, g5, rfl⟩)) | (go_at_call 15; ((with_reducible refine (HTa.out _ inferInstance gri).mono ?_); rintro _ _ ⟨rfl, g6, rfl⟩)) | (go_at_call 15; ((with_reducible refine (HTb.out _ inferInstance gri).mono ?_); rintro _ _ ⟨rfl, g7, rfl⟩)) | (go_at_call 29; ((with_reducible refine (HTs.out _ inferInstance gri).mono ?_); rintro _ _ ⟨rfl, g8, rfl⟩)) | (go_at_call 29; ((with_reducible refine (HTo.out _ inferInstance gri).mono ?_); rintro _ _ ⟨rfl, g9, rfl⟩)) | (go_at_call 13; ((with_reducible refine (num26_any _ _).mono ?_); rintro _ _ ⟨rfl, rfl⟩)) | (go_at_call 28; ((with_reducible refine (HSo.out _ gri).mono ?_); rintro _ _ ⟨rfl, g10, rfl⟩)) | (go_at_call 26; ((with_reducible refine (HPX.out _ inferInstance inferInstance).mono ?_); rintro _ _ ⟨A9, q9, rfl, hr9, g30, rfl⟩; have HR9 := Lib.hid hr9; clear hr9)) | (go_at_call 29; ((with_reducible refine (HTr.out _ _ _ inferInstance (HR9.out.gr gri)).mono ?_); rintro _ _ ⟨rfl, g31, rfl⟩)) | (go_at_call 28; ((with_reducible refine (HSr.out _ _ _ (HR9.out.gr gri) gri).mono ?_); rintro _ _ ⟨rfl, g32, rfl⟩)))
    go_ret
    exact ⟨rfl, gri⟩
  ·as_aux_lemma =>
    go_enter Tryz.func7, Tryz.ntmps7
    go_wp2_with (first | (go_at_call 9; ((with_reducible refine (HK.out _ inferInstance).mono ?_); rintro _ _ ⟨rfl, g1, rfl⟩)) | (go_at_call 18; ((with_reducible refine (HBa.out _).mono ?_); rintro _ _ ⟨rfl, g2, rfl⟩)) | (go_at_call 18; ((with_reducible refine (HBb.out _).mono ?_); rintro _ _ ⟨rfl, g3, rfl⟩)) | (go_at_call 25; ((with_reducible refine (HMs.out _ gri).mono ?_); rintro _ _ ⟨rfl, g4, rfl⟩)) | (go_at_call 25; ((with_reducible refine (HMo.out _ gri).mono ?_); rintro _ _ ⟨rfl, g5, rfl⟩)) | (go_at_call 15; ((with_reducible refine (HTa.out _ inferInstance gri).mono ?_); rintro _ _ ⟨rfl, g6, rfl⟩)) | (go_at_call 15; ((with_reducible refine (HTb.out _ inferInstance gri).mono ?_); rintro _ _ ⟨rfl, g7, rfl⟩)) | (go_at_call 29; ((with_reducible refine (HTs.out _ inferInstance gri).mono ?_); rintro _ _ ⟨rfl, g8, rfl⟩)) | (go_at_call 29; ((with_reducible refine (HTo.out _ inferInstance gri).mono ?_); rintro _ _ ⟨rfl, g9, rfl⟩)) | (go_at_call 13; ((with_reducible refine (num26_any _ _).mono ?_); rintro _ _ ⟨rfl, rfl⟩)) | (go_at_call 28; ((with_reducible refine (HSo.out _ gri).mono ?_); rintro _ _ ⟨rfl, g10, rfl⟩)))
    refine wp_region_grow (by kernel_rfl) (by kernel_rfl) ?_
    repeat (go_big_quiet_step ((first | (go_at_call 34; with_reducible exact grow_call (HC1.out _ gri)) | (go_at_call 21; with_reducible exact grow_call (HC2.out _ gri)) | (go_at_call 35; with_reducible exact grow_call (HC3.out _ gri)) | (go_at_call 28; with_reducible exact grow_call (HSo.out _ gri)) | (go_at_call 13; exact grow_call_same (num26_any _ _)))))
    refine wpQuiet_nil ?_
    intro g20
    go_wp2_with (first | (go_at_call 9; ((with_reducible refine (HK.out _ inferInstance).mono ?_); rintro _ _ ⟨rfl, g1, rfl⟩)) | (go_at_call 18; ((with_reducible refine (HBa.out _).mono ?_); rintro _ _ ⟨rfl, g2, rfl⟩)) | (go_at_call 18; ((with_reducible refine (HBb.out _).mono ?_); rintro _ _ ⟨rfl, g3, rfl⟩)) | (go_at_call 25; ((with_reducible refine (HMs.out _ gri).mono ?_); rintro _ _ ⟨rfl, g4, rfl⟩)) | (go_at_call 25; ((with_reducible refine (HMo.out _ gri).mono ?_); rintro _ _ ⟨rfl, g5, rfl⟩)) | (go_at_call 15; ((with_reducible refine (HTa.out _ inferInstance gri).mono ?_); rintro _ _ ⟨rfl, g6, rfl⟩)) | (go_at_call 15; ((with_reducible refine (HTb.out _ inferInstance gri).mono ?_); rintro _ _ ⟨rfl, g7, rfl⟩)) | (go_at_call 29; ((with_reducible refine (HTs.out _ inferInstance gri).mono ?_); rintro _ _ ⟨rfl, g8, rfl⟩)) | (go_at_call 29; ((with_reducible refine (HTo.out _ inferInstance gri).mono ?_); rintro _ _ ⟨rfl, g9, rfl⟩)) | (go_at_call 13; ((with_reducible refine (num26_any _ _).mono ?_); rintro _ _ ⟨rfl, rfl⟩)) | (go_at_call 28; ((with_reducible refine (HSo.out _ gri).mono ?_); rintro _ _ ⟨rfl, g10, rfl⟩)) | (go_at_call 26; ((with_reducible refine (HPX.out _ inferInstance inferInstance).mono ?_); rintro _ _ ⟨A9, q9, rfl, hr9, g30, rfl⟩; have HR9 := Lib.hid hr9; clear hr9)) | (go_at_call 29; ((with_reducible refine (HTr.out _ _ _ inferInstance (HR9.out.gr gri)).mono ?_); rintro _ _ ⟨rfl, g31, rfl⟩)) | (go_at_call 28; ((with_reducible refine (HSr.out _ _ _ (HR9.out.gr gri) gri).mono ?_); rintro _ _ ⟨rfl, g32, rfl⟩)))
    go_ret
    exact ⟨rfl, gri⟩
 ·rcases hAB with ⟨rfl, rfl, hxy⟩ | ⟨hab, ha1, ha2, hb1, hb2⟩
  ·as_aux_lemma =>
    go_enter Tryz.func7, Tryz.ntmps7
    go_wp2_with (first | (go_at_call 9; ((with_reducible refine (HK.out _ inferInstance).mono ?_); rintro _ _ ⟨rfl, g1, rfl⟩)) | (go_at_call 18; ((with_reducible refine (HBa.out _).mono ?_); rintro _ _ ⟨rfl, g2, rfl⟩)) | (go_at_call 18; ((with_reducible refine (HBb.out _).mono ?_); rintro _ _ ⟨rfl, g3, rfl⟩)) | (go_at_call 25; ((with_reducible refine (HMs.out _ gri).mono ?_); rintro _ _ ⟨rfl, g4, rfl⟩)) | (go_at_call 25; ((with_reducible refine (HMo.out _ gri).mono ?_); rintro _ _ ⟨rfl, g5, rfl⟩)) | (go_at_call 15; ((with_reducible refine (HTa.out _ inferInstance gri).mono ?_); rintro _ _ ⟨rfl, g6, rfl⟩)) | (go_at_call 15; ((with_reducible refine (HTb.out _ inferInstance gri).mono ?_); rintro _ _ ⟨rfl, g7, rfl⟩)) | (go_at_call 29; ((with_reducible refine (HTs.out _ inferInstance gri).mono ?_); rintro _ _ ⟨rfl, g8, rfl⟩)) | (go_at_call 29; ((with_reducible refine (HTo.out _ inferInstance gri).mono ?_); rintro _ _ ⟨rfl, g9, rfl⟩)) | (go_at_call 13; ((with_reducible refine (num26_any _ _).mono ?_); rintro _ _ ⟨rfl, rfl⟩)) | (go_at_call 28; ((with_reducible refine (HSo.out _ gri).mono ?_); rintro _ _ ⟨rfl, g10, rfl⟩)))
    refine wp_region_grow (by kernel_rfl) (by kernel_rfl) ?_
    repeat (go_big_quiet_step ((first | (go_at_call 34; with_reducible exact grow_call (HC1.out _ gri)) | (go_at_call 21; with_reducible exact grow_call (HC2.out _ gri)) | (go_at_call 35; with_reducible exact grow_call (HC3.out _ gri)) | (go_at_call 28; with_reducible exact grow_call (HSo.out _ gri)) | (go_at_call 13; exact grow_call_same (num26_any _ _)))))
    refine wpQuiet_nil ?_
    intro g20
    go_wp2_with (first | (go_at_call 9; ((with_reducible refine (HK.out _ inferInstance).mono ?_); rintro _ _ ⟨rfl, g1, rfl⟩)) | (go_at_call 18; ((with_reducible refine (HBa.out _).mono ?_); rintro _ _ ⟨rfl, g2, rfl⟩)) | (go_at_call 18; ((with_reducible refine (HBb.out _).mono ?_); rintro _ _ ⟨rfl, g3, rfl⟩)) | (go_at_call 25; ((with_reducible refine (HMs.out _ gri).mono ?_); rintro _ _ ⟨rfl, g4, rfl⟩)) | (go_at_call 25; ((with_reducible refine (HMo.out _ gri).mono ?_); rintro _ _ ⟨rfl, g5, rfl⟩)) | (go_at_call 15; ((with_reducible refine (HTa.out _ inferInstance gri).mono ?_); rintro _ _ ⟨rfl, g6, rfl⟩)) | (go_at_call 15; ((with_reducible refine (HTb.out _ inferInstance gri).mono ?_); rintro _ _ ⟨rfl, g7, rfl⟩)) | (go_at_call 29; ((with_reducible refine (HTs.out _ inferInstance gri).mono ?_); rintro _ _ ⟨rfl, g8, rfl⟩)) | (go_at_call 29; ((with_reducible refine (HTo.out _ inferInstance gri).mono ?_); rintro _ _ ⟨rfl, g9, rfl⟩)) | (go_at_call 13; ((with_reducible refine (num26_any _ _).mono ?_); rintro _ _ ⟨rfl, rfl⟩)) | (go_at_call 28; ((with_reducible refine (HSo.out _ gri).mono ?_); rintro _ _ ⟨rfl, g10, rfl⟩)))
    go_ret
    exact ⟨rfl, gri⟩
  ·as_aux_lemma =>
    go_enter Tryz.func7, Tryz.ntmps7
    go_wp2_with (first | (go_at_call 9; ((with_reducible refine (HK.out _ inferInstance).mono ?_); rintro _ _ ⟨rfl, g1, rfl⟩)) | (go_at_call 18; ((with_reducible refine (HBa.out _).mono ?_); rintro _ _ ⟨rfl, g2, rfl⟩)) | (go_at_call 18; ((with_reducible refine (HBb.out _).mono ?_); rintro _ _ ⟨rfl, g3, rfl⟩)) | (go_at_call 25; ((with_reducible refine (HMs.out _ gri).mono ?_); rintro _ _ ⟨rfl, g4, rfl⟩)) | (go_at_call 25; ((with_reducible refine (HMo.out _ gri).mono ?_); rintro _ _ ⟨rfl, g5, rfl⟩)) | (go_at_call 15; ((with_reducible refine (HTa.out _ inferInstance gri).mono ?_); rintro _ _ ⟨rfl, g6, rfl⟩)) | (go_at_call 15; ((with_reducible refine (HTb.out _ inferInstance gri).mono ?_); rintro _ _ ⟨rfl, g7, rfl⟩)) | (go_at_call 29; ((with_reducible refine (HTs.out _ inferInstance gri).mono ?_); rintro _ _ ⟨rfl, g8, rfl⟩)) | (go_at_call 29; ((with_reducible refine (HTo.out _ inferInstance gri).mono ?_); rintro _ _ ⟨rfl, g9, rfl⟩)) | (go_at_call 13; ((with_reducible refine (num26_any _ _).mono ?_); rintro _ _ ⟨rfl, rfl⟩)) | (go_at_call 28; ((with_reducible refine (HSo.out _ gri).mono ?_); rintro _ _ ⟨rfl, g10, rfl⟩)))
    refine wp_region_grow (by kernel_rfl) (by kernel_rfl) ?_
    repeat (go_big_quiet_step ((first | (go_at_call 34; with_reducible exact grow_call (HC1.out _ gri)) | (go_at_call 21; with_reducible exact grow_call (HC2.out _ gri)) | (go_at_call 35; with_reducible exact grow_call (HC3.out _ gri)) | (go_at_call 28; with_reducible exact grow_call (HSo.out _ gri)) | (go_at_call 13; exact grow_call_same (num26_any _ _)))))
    refine wpQuiet_nil ?_
    intro g20
    go_wp2_with (first | (go_at_call 9; ((with_reducible refine (HK.out _ inferInstance).mono ?_); rintro _ _ ⟨rfl, g1, rfl⟩)) | (go_at_call 18; ((with_reducible refine (HBa.out _).mono ?_); rintro _ _ ⟨rfl, g2, rfl⟩)) | (go_at_call 18; ((with_reducible refine (HBb.out _).mono ?_); rintro _ _ ⟨rfl, g3, rfl⟩)) | (go_at_call 25; ((with_reducible refine (HMs.out _ gri).mono ?_); rintro _ _ ⟨rfl, g4, rfl⟩)) | (go_at_call 25; ((with_reducible refine (HMo.out _ gri).mono ?_); rintro _ _ ⟨rfl, g5, rfl⟩)) | (go_at_call 15; ((with_reducible refine (HTa.out _ inferInstance gri).mono ?_); rintro _ _ ⟨rfl, g6, rfl⟩)) | (go_at_call 15; ((with_reducible refine (HTb.out _ inferInstance gri).mono ?_); rintro _ _ ⟨rfl, g7, rfl⟩)) | (go_at_call 29; ((with_reducible refine (HTs.out _ inferInstance gri).mono ?_); rintro _ _ ⟨rfl, g8, rfl⟩)) | (go_at_call 29; ((with_reducible refine (HTo.out _ inferInstance gri).mono ?_); rintro _ _ ⟨rfl, g9, rfl⟩)) | (go_at_call 13; ((with_reducible refine (num26_any _ _).mono ?_); rintro _ _ ⟨rfl, rfl⟩)) | (go_at_call 28; ((with_reducible refine (HSo.out _ gri).mono ?_); rintro _ _ ⟨rfl, g10, rfl⟩)))
    go_ret
    exact ⟨rfl, gri⟩
end Go.Proofs.YtgjdgafoidppaaaGreatDoor
