/- script.Parse. Conditions: a text of at most 200000 bytes; the tables stand. A row of bytes as a string; the reference's Same. Conditions: what is read stands in memory. The reference's Hex, digit, Unhex, row, DataText, data. Conditions: what is read stands in memory; at most 10^6 bytes. The reference's DataText. Conditions: what is read stands in memory; at most 60000 bytes. The reference's digit, Unhex. Conditions: a text of at most 10^6 bytes. The reference's place, Kinds. Conditions: the words stand in memory. The reference's data: whole sectors that are read. Conditions: a text of at most 200000 bytes. The reference's OpText. Conditions: an operation that may be; what is read stands in memory. The reference of layer 13: Names, has, in, May, Same, Much. Conditions: what is read stands in memory. The reference's SameAct, Big. Conditions: what is read stands in memory. The reference's MayAct. Conditions: what is read stands in memory. A region that draws its order, among whose operations are some that read, compute, or call functions that only make new memory and hand back one value whatever the world, and some others, one forced behind the other, of any effect: one walk, the others last. Conditions: each step of the others is known. The reference's opOf. Conditions: the words, four at least, stand in memory; words of at most 200000 bytes. The reference's OpOf. Conditions: a text of at most 200000 bytes; the tables stand. The reference's ActText, of an act that may be told. Conditions: what is read stands in memory. The reference's ActText, of any act that may be told. Conditions: what is read stands in memory. An act that may be told, told as x, is read back (no program in sight). Conditions: none. The reference's ActOf. Conditions: a text of at most 200000 bytes; the tables stand. The reference's Parse. Conditions: a text of at most 200000 bytes; the tables stand. slices.IndexFunc, slices.ContainsFunc at acts, with 'it may not be told'. Conditions: what is read stands in memory. script.Text. Conditions: what is read stands in memory; the tables stand; what is told is at most 16 MiB. Bytes of a string, as a slice of the call's own, and appends onto it. Conditions: at most 10^8 bytes. The reference's Text. Conditions: what is read stands in memory; what is told is at most 16 MiB. Arguments that hold slices, opened: an operation, an act. Conditions: none. -/
import Derived.Test.YtgjdgafoidppaaaGreatDoorQ12
import Derived.Test.YtgjdgafoidppaaaGreatDoorQ03
import Derived.Laws.BytesArg
import Derived.Test.YtgjdgafoidppaaaGreatDoorQ10
import Derived.Test.YtgjdgafoidppaaaGreatDoorQ04
import Derived.Test.YtgjdgafoidppaaaGreatDoorQ09
import Derived.Test.YtgjdgafoidppaaaGreatDoorQ11
import Derived.Test.YtgjdgafoidppaaaGreatDoorQ01
import Derived.Test.YtgjdgafoidppaaaGreatDoorQ02
import Derived.Laws.IdiomStrings
import Derived.ArgAppend
import Derived.Lib.AppendStr
import Derived.Test.YtgjdgafoidppaaaGreatDoorQ07
import Derived.ChangeSlices
namespace Go.Proofs.YtgjdgafoidppaaaGreatDoor
open Go.RowKit
set_option linter.unusedVariables false
set_option linter.unusedSimpArgs false
set_option linter.unnecessarySimpa false
def pS (t : ByteArray) (i : Nat) : Int := if pGood t then (nW (hdW (linesB t)) i : Nat) else 0
theorem actRes_bd (x : ByteArray) (hx : x.size ≤ 200000) : ABd (actRes x) := by
 unfold actRes
 split
 ·have hw : ∀ y ∈ wordsB 32 x, y.size ≤ 200000 := fun y hy => Nat.le_trans (wordsB_each 32 x y hy) hx
  obtain ⟨h1, h2, h3, h4, h5, h6⟩ := acV_bd (aKOf (hdW (wordsB 32 x))) (aKOf_le _) (isForce (hdW (wordsB 32 x))) (wordsB 32 x) hw
  exact ⟨h1, by unfold acX; omega, by unfold acX; omega, by unfold acX; omega, by unfold acX; omega, Nat.le_trans h4 (by omega), Nat.le_trans h5 (by omega), ⟨fun n hn => by have := h6 n hn; omega, fun n hn => by have := h6 n hn; omega⟩⟩
 ·exact ⟨⟨by decide, by decide, by decide, by decide, by decide, by decide, by decide, by decide, by decide, by decide⟩, by decide, by decide, by decide, by decide, by decide, by decide, ⟨fun n hn => by simp [zA] at hn, fun n hn => by simp [zA] at hn⟩⟩
theorem stageOf_row (s : ByteArray) (hs : s.size ≤ 800000) (G : Bool) (hG : goodSt s = G) (m0 m1 d0 d1 g E : Int) (h0 : (if G then (nW s 1 : Int) else 0) = m0) (h1 : (if G then (nW s 3 : Int) else 0) = m1) (h2 : (if G then (nW s 2 : Int) else 0) = d0) (h3 : (if G then (nW s 4 : Int) else 0) = d1) (h4 : (if G then (nW s 5 : Int) else 0) = g) (hE : (if G then (0 : Int) else 4) = E) (w : World) [hk : Tb w] [hm : Ml w] :
  Calls Tryz.prog 65 #[.string s] w fun e w' => e = .returned (.tuple #[.agg #[.int .i64 m0, .int .i64 m1, .int .i64 d0, .int .i64 d1, .int .i64 g], .int .i64 E]) ∧ Gr w w' := by
 have h := stageOf_any s (by omega) w
 subst hG h0 h1 h2 h3 h4 hE
 cases hg : goodSt s
 ·rw [← st_no hg] at h; simpa [hg] using h
 ·rw [← st_yes hg] at h; simpa [hg] using h
theorem hdW_app {p q : List ByteArray} (h : p ≠ []) : hdW (p ++ q) = hdW p := by
 cases p with
 | nil => exact absurd rfl h
 | cons x p => rfl
structure RA (base : Nat) (W : World) (v : Value) (xs : List AM) : Prop where
 own : OwnA base W v xs
 oks : ∀ x ∈ xs, x.Ok W
theorem RA.set_ {base : Nat} {W : World} {v : Value} {xs : List AM} (h : RA base W v xs) (B o : Nat) (u : Value) {cs : Array Value} [hB : BlockAt W B cs 58] : RA base (W.setCell ⟨B, o, none⟩ u) v xs :=
 ⟨h.own.set_ B o u (by decide), fun x hx => by
  obtain ⟨bd, n0, n1, m0, m1, ld, bq, d, lv, bv, pk, vv⟩ := h.oks x hx
  exact ⟨bd, n0, n1, m0, m1, ld, bq, d.imp fun _ z => z.set_ B o u (by decide), lv, bv, pk, vv.imp fun _ z => z.set_ B o u (by decide)⟩⟩
theorem RA.gr {base : Nat} {W W' : World} {v : Value} {xs : List AM} (h : RA base W v xs) (g : Gr W W') : RA base W' v xs := ⟨h.own.gr g, fun x hx => (h.oks x hx).gr g⟩
theorem RA.row {base : Nat} {W : World} {A : Option Addr} {n c : Nat} {xs : List AM} (h : RA base W (.slice A n c) xs) : RowA W A (xs.map (·.a)) := by
 obtain ⟨A2, c2, e, _, hr⟩ := h.own.row h.oks
 cases e
 exact hr
theorem RA.put {base : Nat} {W W' : World} {v v' : Value} {xs : List AM} {y : AM} (h : RA base W v xs) (hy : y.Ok W) (a : AppA base W xs y v' W') : RA base W' v' (xs ++ [y]) :=
 ⟨a.own, fun x hx => by
  rcases List.mem_append.1 hx with hx | hx
  ·exact (h.oks x hx).keep a.keep
  ·obtain rfl : x = y := by simpa using hx
   exact hy.keep a.keep⟩
set_option maxRecDepth 100000 in
set_option maxHeartbeats 8000000 in
theorem parse_any (t : ByteArray) (ht : t.size ≤ 200000) (w : World) [hk : Tb w] [hml : Ml w] : Calls Tryz.prog 26 #[.string t] w fun e w' => ∃ A q, e = .returned (.tuple #[.agg #[.int .i64 (pS t 1), .int .i64 (pS t 3), .int .i64 (pS t 2), .int .i64 (pS t 4), .int .i64 (pS t 5), .slice A (pActs t).length q], .int .i64 (pAt t), .int .i64 (pE t)]) ∧ (pActs t).length ≤ q ∧ RowA w' A (pActs t) ∧ Gr w w' := by
 have hsz : ¬ (16777216 : Int) < (t.size : Int) := by omega
 have hno : pGood t = false → pS t 1 = 0 ∧ pS t 3 = 0 ∧ pS t 2 = 0 ∧ pS t 4 = 0 ∧ pS t 5 = 0 ∧ pActs t = [] ∧ pE t = 4 := fun h => by simp [pS, pActs, pAt, pE, h]
 have hyes : pGood t = true → pS t 1 = (nW (hdW (linesB t)) 1 : Nat) ∧ pS t 3 = (nW (hdW (linesB t)) 3 : Nat) ∧ pS t 2 = (nW (hdW (linesB t)) 2 : Nat) ∧ pS t 4 = (nW (hdW (linesB t)) 4 : Nat) ∧ pS t 5 = (nW (hdW (linesB t)) 5 : Nat) ∧ pActs t = (linesB t).tail.map actRes ∧ pAt t = 0 ∧ pE t = 0 := fun h => by simp [pS, pActs, pAt, pE, h]
 have HNO := Lib.hid hno; have HYES := Lib.hid hyes; have HT := Lib.hid ht
 clear hno hyes ht
 obtain ⟨W1, hW1⟩ : ∃ W1, w.alloc (.cells #[.int .i64 0, .int .i64 0, .int .i64 0, .int .i64 0, .int .i64 0, .slice none 0 0] 58) = W1 := ⟨_, rfl⟩
 have hn1 : W1.heap.size = w.heap.size + 1 := by rw [← hW1]; simp
 go_enter Tryz.func26, Tryz.ntmps26
 go_wp2
 go_step3
 go_wp2
 go_step3
 go_wp2
 have HN1 := Lib.hid hn1; have HW1 := Lib.hid hW1
 have hgw : Gr w W1 := by rw [← hW1]; exact gri
 haveI htb1 : Tb W1 := by rw [← hW1]; infer_instance
 haveI hml1 : Ml W1 := by rw [← hW1]; infer_instance
 have HTB := Lib.hid (fun W (h : Gr W1 W) => (htb1.of_below h.below : Tb W))
 have HML := Lib.hid (fun W (h : Gr W1 W) => (hml1.keep (h.below.block _ (by have := htb1.size; omega)) : Ml W))
 go_loopw [6, 7, 8] (fun nv ev rv wr => ∃ (i : Nat) (pre : List ByteArray) (r : ByteArray) (m0 m1 d0 d1 g : Int) (xs : List AM) (v : Value), nv = .int .i64 i ∧ ev = .int .i64 0 ∧ rv = .string r ∧ pre.length = i ∧ LSt t pre r ∧ (0 < i → m0 = (nW (hdW pre) 1 : Nat) ∧ m1 = (nW (hdW pre) 3 : Nat) ∧ d0 = (nW (hdW pre) 2 : Nat) ∧ d1 = (nW (hdW pre) 4 : Nat) ∧ g = (nW (hdW pre) 5 : Nat)) ∧ BlockAt wr (w.heap.size + 1) #[.int .i64 m0, .int .i64 m1, .int .i64 d0, .int .i64 d1, .int .i64 g, v] 58 ∧ OwnA (w.heap.size + 2) wr v xs ∧ (∀ x ∈ xs, x.Ok wr) ∧ xs.map (·.a) = pre.tail.map actRes ∧ Gr W1 wr ∧ w.heap.size + 2 ≤ wr.heap.size) (fun _ _ rv _ => strLen rv)
 case atStart => exact ⟨0, [], t, 0, 0, 0, 0, 0, [], .slice none 0 0, rfl, rfl, rfl, rfl, LSt.start t, fun h => absurd h (Nat.lt_irrefl _), by rw [← hn1]; infer_instance, OwnA.nil _ _, (fun x hx => by simp at hx), rfl, gri, by simp [hn1]⟩
 case round =>
  obtain ⟨i, pre, r, m0, m1, d0, d1, g, xs, v, rfl, rfl, rfl, hpl, hst, hnum, bX, hown, hoks, hmap, hgr, hsz2⟩ := hrel
  have HGR := Lib.hid hgr; have HOW := Lib.hid hown; have HOK := Lib.hid hoks; have HMAP := Lib.hid hmap; have HST := Lib.hid hst; have HNUM := Lib.hid hnum; have HSZ := Lib.hid hsz2; have HPL := Lib.hid hpl
  clear hgr hown hoks hmap hst hnum hsz2 hpl
  haveI : Tb wr := HTB.out _ HGR.out
  haveI : Ml wr := HML.out _ HGR.out
  haveI : Old (w.heap.size + 1) wr := bX.old
  haveI : Old w.heap.size wr := ⟨by have := HSZ.out; omega⟩
  have HCUT := Lib.hid (fun W (hm : Ml W) => (show Calls Tryz.prog 64 #[.string r, .string ⟨#[10]⟩] W (fun e w' => e = .returned (.tuple #[.string (cutX r), .string (cutM r), .bool (cutB r)]) ∧ Gr W w') from cut_any r W (by have := HST.out.size; have := HT.out; omega)))
  have hrs : r.size ≤ 200000 := Nat.le_trans HST.out.size HT.out
  have hxs : (cutX r).size ≤ 200000 := Nat.le_trans (cutX_le r) hrs
  have HRS := Lib.hid hrs; have HXS := Lib.hid hxs; clear hrs hxs
  have bR : BlockAt wr w.heap.size #[.int .i64 0, .int .i64 0, .int .i64 0, .int .i64 0, .int .i64 0, .slice none 0 0] 58 := by
   have h1 : BlockAt W1 w.heap.size #[.int .i64 0, .int .i64 0, .int .i64 0, .int .i64 0, .int .i64 0, .slice none 0 0] 58 := by rw [← HW1.out]; infer_instance
   exact h1.gr HGR.out
  have y0 : wr.cell? ⟨w.heap.size, 0, none⟩ = some (.int .i64 0) := (@block_cells _ _ 0 _ _ bR).trans rfl
  have y1 : wr.cell? ⟨w.heap.size, 1, none⟩ = some (.int .i64 0) := (@block_cells _ _ 1 _ _ bR).trans rfl
  have y2 : wr.cell? ⟨w.heap.size, 2, none⟩ = some (.int .i64 0) := (@block_cells _ _ 2 _ _ bR).trans rfl
  have y3 : wr.cell? ⟨w.heap.size, 3, none⟩ = some (.int .i64 0) := (@block_cells _ _ 3 _ _ bR).trans rfl
  have y4 : wr.cell? ⟨w.heap.size, 4, none⟩ = some (.int .i64 0) := (@block_cells _ _ 4 _ _ bR).trans rfl
  have y5 : wr.cell? ⟨w.heap.size, 5, none⟩ = some (.slice none 0 0) := (@block_cells _ _ 5 _ _ bR).trans rfl
  have z0 : wr.frozen? ⟨w.heap.size, 0, none⟩ = false := @block_frozen _ _ 0 _ _ bR
  have z1 : wr.frozen? ⟨w.heap.size, 1, none⟩ = false := @block_frozen _ _ 1 _ _ bR
  have z2 : wr.frozen? ⟨w.heap.size, 2, none⟩ = false := @block_frozen _ _ 2 _ _ bR
  have z3 : wr.frozen? ⟨w.heap.size, 3, none⟩ = false := @block_frozen _ _ 3 _ _ bR
  have z4 : wr.frozen? ⟨w.heap.size, 4, none⟩ = false := @block_frozen _ _ 4 _ _ bR
  have z5 : wr.frozen? ⟨w.heap.size, 5, none⟩ = false := @block_frozen _ _ 5 _ _ bR
  obtain ⟨Av, cv, rfl, hcv, hrow⟩ := HOW.out.row HOK.out
  have x0 : wr.cell? ⟨w.heap.size + 1, 0, none⟩ = some (.int .i64 m0) := (@block_cells _ _ 0 _ _ bX).trans rfl
  have x1 : wr.cell? ⟨w.heap.size + 1, 1, none⟩ = some (.int .i64 m1) := (@block_cells _ _ 1 _ _ bX).trans rfl
  have x2 : wr.cell? ⟨w.heap.size + 1, 2, none⟩ = some (.int .i64 d0) := (@block_cells _ _ 2 _ _ bX).trans rfl
  have x3 : wr.cell? ⟨w.heap.size + 1, 3, none⟩ = some (.int .i64 d1) := (@block_cells _ _ 3 _ _ bX).trans rfl
  have x4 : wr.cell? ⟨w.heap.size + 1, 4, none⟩ = some (.int .i64 g) := (@block_cells _ _ 4 _ _ bX).trans rfl
  have x5 : wr.cell? ⟨w.heap.size + 1, 5, none⟩ = some (.slice Av xs.length cv) := (@block_cells _ _ 5 _ _ bX).trans rfl
  have u0 : wr.frozen? ⟨w.heap.size + 1, 0, none⟩ = false := @block_frozen _ _ 0 _ _ bX
  have u1 : wr.frozen? ⟨w.heap.size + 1, 1, none⟩ = false := @block_frozen _ _ 1 _ _ bX
  have u2 : wr.frozen? ⟨w.heap.size + 1, 2, none⟩ = false := @block_frozen _ _ 2 _ _ bX
  have u3 : wr.frozen? ⟨w.heap.size + 1, 3, none⟩ = false := @block_frozen _ _ 3 _ _ bX
  have u4 : wr.frozen? ⟨w.heap.size + 1, 4, none⟩ = false := @block_frozen _ _ 4 _ _ bX
  have u5 : wr.frozen? ⟨w.heap.size + 1, 5, none⟩ = false := @block_frozen _ _ 5 _ _ bX
  have BR := Lib.hid bR; have BX := Lib.hid bX; have HROW := Lib.hid hrow; have HCV := Lib.hid hcv
  clear bR bX hrow hcv
  haveI : GrC w wr := ⟨(Gr.trans (by rw [← HW1.out]; exact gri) HGR.out).below⟩
  by_cases hr0 : r.data.toList = []
  ·have hre : r.toList.isEmpty = true := by rw [Lib.toList_data, hr0]; rfl
   have hr1 : r = ⟨#[]⟩ := by cases r; simp_all
   have hst9 : LSt t pre ⟨#[]⟩ := by rw [← hr1]; exact HST.out
   have HST9 := Lib.hid hst9
   clear hr0 hr1 hst9 HST
   rcases Nat.eq_zero_or_pos i with hi | hi
   ·subst hi
    obtain rfl : pre = [] := List.eq_nil_of_length_eq_zero HPL.out
    have HG := Lib.hid HST9.out.none
    go_wp2
    rw [Exit.noGoto_ret]
    (try rw [Exit.noGoto_ret]); exact bodyPost_ret (v := .tuple #[.agg #[.int .i64 0, .int .i64 0, .int .i64 0, .int .i64 0, .int .i64 0, .slice none 0 0], .int .i64 0, .int .i64 4]) (by simp [results, Tryz.results26, go_sem, x0, x1, x2, x3, x4, x5, y0, y1, y2, y3, y4, y5, z0, z1, z2, z3, z4, z5, u0, u1, u2, u3, u4, u5]) rfl ⟨none, 0, by obtain ⟨h1, h2, h3, h4, h5, h6, h7⟩ := HNO.out HG.out.1; rw [h1, h2, h3, h4, h5, h6, h7, HG.out.2]; first | rfl | (rw [HPL.out]; rfl), Nat.le_trans (by rw [(HNO.out HG.out.1).2.2.2.2.2.1]; exact Nat.le_refl _) (Nat.le_refl _), by rw [(HNO.out HG.out.1).2.2.2.2.2.1]; exact RowA.nil, gri⟩
   ·have hi9 : ((i : Int) == 0) = false := by simp; omega
    have hne : pre ≠ [] := by rintro rfl; have := HPL.out; simp at this; omega
    have HG := Lib.hid (HST9.out.done hne)
    have hf : pS t 1 = m0 ∧ pS t 3 = m1 ∧ pS t 2 = d0 ∧ pS t 4 = d1 ∧ pS t 5 = g ∧ pActs t = xs.map (·.a) ∧ pAt t = 0 ∧ pE t = 0 := by
     obtain ⟨h1, h2, h3, h4, h5, h6, h7, h8⟩ := HYES.out HG.out.1
     obtain ⟨n1, n2, n3, n4, n5⟩ := HNUM.out hi
     rw [h1, h2, h3, h4, h5, h6, HG.out.2, HMAP.out]
     exact ⟨n1.symm, n2.symm, n3.symm, n4.symm, n5.symm, rfl, h7, h8⟩
    have HF := Lib.hid hf; clear hf hne
    haveI := BR.out
    go_wp2
    rw [Exit.noGoto_ret]
    exact bodyPost_ret (v := .tuple #[.agg #[.int .i64 m0, .int .i64 m1, .int .i64 d0, .int .i64 d1, .int .i64 g, .slice Av xs.length cv], .int .i64 0, .int .i64 0]) (by simp [results, Tryz.results26, go_sem, x0, x1, x2, x3, x4, x5, y0, y1, y2, y3, y4, y5, z0, z1, z2, z3, z4, z5, u0, u1, u2, u3, u4, u5]) rfl ⟨Av, cv, by obtain ⟨h1, h2, h3, h4, h5, h6, h7, h8⟩ := HF.out; rw [h1, h2, h3, h4, h5, h6, h7, h8, List.length_map]; rfl, by rw [HF.out.2.2.2.2.2.1, List.length_map]; exact HCV.out, by rw [HF.out.2.2.2.2.2.1]; exact RA.row ((((((RA.set_ ⟨HOW.out, HOK.out⟩ w.heap.size 0 _).set_ w.heap.size 1 _).set_ w.heap.size 2 _).set_ w.heap.size 3 _).set_ w.heap.size 4 _).set_ w.heap.size 5 _), gri⟩
  ·have hre : r.toList.isEmpty = false := by
    rw [Lib.toList_data]
    cases hd : r.data.toList with
    | nil => exact absurd hd hr0
    | cons => rfl
   have HR0 := Lib.hid hr0; clear hr0
   rcases Nat.eq_zero_or_pos i with hi | hi
   ·subst hi
    obtain rfl : pre = [] := List.eq_nil_of_length_eq_zero HPL.out
    obtain rfl : xs = [] := by have := HMAP.out; simpa using this
    obtain ⟨a1, ha1⟩ : ∃ a : Int, ((nW (cutX r) 1 : Nat) : Int) = a := ⟨_, rfl⟩
    obtain ⟨a2, ha2⟩ : ∃ a : Int, ((nW (cutX r) 2 : Nat) : Int) = a := ⟨_, rfl⟩
    obtain ⟨a3, ha3⟩ : ∃ a : Int, ((nW (cutX r) 3 : Nat) : Int) = a := ⟨_, rfl⟩
    obtain ⟨a4, ha4⟩ : ∃ a : Int, ((nW (cutX r) 4 : Nat) : Int) = a := ⟨_, rfl⟩
    obtain ⟨a5, ha5⟩ : ∃ a : Int, ((nW (cutX r) 5 : Nat) : Int) = a := ⟨_, rfl⟩
    have HA := Lib.hid (And.intro ha1 (And.intro ha2 (And.intro ha3 (And.intro ha4 ha5))))
    rcases Bool.eq_false_or_eq_true (goodSt (cutX r)) with hG | hG
    ·have HSO := Lib.hid (fun W (_ : Tb W) (_ : Ml W) => stageOf_row (cutX r) (by have := HXS.out; omega) true hG a1 a3 a2 a4 a5 0 ha1 ha3 ha2 ha4 ha5 rfl W)
     clear ha1 ha2 ha3 ha4 ha5
     rcases Bool.eq_false_or_eq_true (cutB r) with hC | hC
     ·rw [hC] at HCUT
      have HNX := Lib.hid (HST.out.next hC hG)
      go_wp2_with (first | (go_at_call 64; ((with_reducible refine (HCUT.out _ inferInstance).mono ?_); rintro _ _ ⟨rfl, g1, rfl⟩)) | (go_at_call 65; ((with_reducible refine (HSO.out _ inferInstance inferInstance).mono ?_); rintro _ _ ⟨rfl, g2, rfl⟩)))
      go_roundw
      case rel => exact ⟨1, [cutX r], cutM r, a1, a3, a2, a4, a5, [], .slice Av 0 cv, by go_num, rfl, rfl, rfl, HNX.out, fun _ => ⟨HA.out.1.symm, HA.out.2.2.1.symm, HA.out.2.1.symm, HA.out.2.2.2.1.symm, HA.out.2.2.2.2.symm⟩, by haveI := BX.out; show BlockAt _ _ #[.int .i64 a1, .int .i64 a3, .int .i64 a2, .int .i64 a4, .int .i64 a5, .slice Av 0 cv] _; infer_instance, (by haveI := BX.out; exact ((((((RA.gr ⟨HOW.out, HOK.out⟩ gri).set_ (w.heap.size + 1) 0 _).set_ (w.heap.size + 1) 1 _).set_ (w.heap.size + 1) 2 _).set_ (w.heap.size + 1) 3 _).set_ (w.heap.size + 1) 4 _).own), (fun x hx => by simp at hx), rfl, Gr.of (by have hz := HN1.out; (with_reducible repeat (first | exact HGR.out.below | apply below_alloc | refine below_set_le ?_ (by omega) _ | refine below_trans ?_ (grown_below _ _) | apply Below.drew))), (inferInstance : Old (w.heap.size + 1) _).lt⟩
      case measure => exact cutM_lt hC
     ·rw [hC] at HCUT
      have HG := Lib.hid (HST.out.open_ HR0.out hC)
      go_wp2_with (first | (go_at_call 64; ((with_reducible refine (HCUT.out _ inferInstance).mono ?_); rintro _ _ ⟨rfl, g1, rfl⟩)) | (go_at_call 65; ((with_reducible refine (HSO.out _ inferInstance inferInstance).mono ?_); rintro _ _ ⟨rfl, g2, rfl⟩)))
      (try rw [Exit.noGoto_ret]); exact bodyPost_ret (v := .tuple #[.agg #[.int .i64 0, .int .i64 0, .int .i64 0, .int .i64 0, .int .i64 0, .slice none 0 0], .int .i64 0, .int .i64 4]) (by simp [results, Tryz.results26, go_sem, x0, x1, x2, x3, x4, x5, y0, y1, y2, y3, y4, y5, z0, z1, z2, z3, z4, z5, u0, u1, u2, u3, u4, u5]) rfl ⟨none, 0, by obtain ⟨h1, h2, h3, h4, h5, h6, h7⟩ := HNO.out HG.out.1; rw [h1, h2, h3, h4, h5, h6, h7, HG.out.2]; first | rfl | (rw [HPL.out]; rfl), Nat.le_trans (by rw [(HNO.out HG.out.1).2.2.2.2.2.1]; exact Nat.le_refl _) (Nat.le_refl _), by rw [(HNO.out HG.out.1).2.2.2.2.2.1]; exact RowA.nil, gri⟩
    ·have HSO := Lib.hid (fun W (_ : Tb W) (_ : Ml W) => stageOf_row (cutX r) (by have := HXS.out; omega) false hG 0 0 0 0 0 4 rfl rfl rfl rfl rfl rfl W)
     clear ha1 ha2 ha3 ha4 ha5
     rcases Bool.eq_false_or_eq_true (cutB r) with hC | hC
     ·rw [hC] at HCUT
      have HG := Lib.hid (HST.out.bad hC hG)
      go_wp2_with (first | (go_at_call 64; ((with_reducible refine (HCUT.out _ inferInstance).mono ?_); rintro _ _ ⟨rfl, g1, rfl⟩)) | (go_at_call 65; ((with_reducible refine (HSO.out _ inferInstance inferInstance).mono ?_); rintro _ _ ⟨rfl, g2, rfl⟩)))
      (try rw [Exit.noGoto_ret]); exact bodyPost_ret (v := .tuple #[.agg #[.int .i64 0, .int .i64 0, .int .i64 0, .int .i64 0, .int .i64 0, .slice none 0 0], .int .i64 0, .int .i64 4]) (by simp [results, Tryz.results26, go_sem, x0, x1, x2, x3, x4, x5, y0, y1, y2, y3, y4, y5, z0, z1, z2, z3, z4, z5, u0, u1, u2, u3, u4, u5]) rfl ⟨none, 0, by obtain ⟨h1, h2, h3, h4, h5, h6, h7⟩ := HNO.out HG.out.1; rw [h1, h2, h3, h4, h5, h6, h7, HG.out.2]; first | rfl | (rw [HPL.out]; rfl), Nat.le_trans (by rw [(HNO.out HG.out.1).2.2.2.2.2.1]; exact Nat.le_refl _) (Nat.le_refl _), by rw [(HNO.out HG.out.1).2.2.2.2.2.1]; exact RowA.nil, gri⟩
     ·rw [hC] at HCUT
      have HG := Lib.hid (HST.out.open_ HR0.out hC)
      go_wp2_with (first | (go_at_call 64; ((with_reducible refine (HCUT.out _ inferInstance).mono ?_); rintro _ _ ⟨rfl, g1, rfl⟩)) | (go_at_call 65; ((with_reducible refine (HSO.out _ inferInstance inferInstance).mono ?_); rintro _ _ ⟨rfl, g2, rfl⟩)))
      (try rw [Exit.noGoto_ret]); exact bodyPost_ret (v := .tuple #[.agg #[.int .i64 0, .int .i64 0, .int .i64 0, .int .i64 0, .int .i64 0, .slice none 0 0], .int .i64 0, .int .i64 4]) (by simp [results, Tryz.results26, go_sem, x0, x1, x2, x3, x4, x5, y0, y1, y2, y3, y4, y5, z0, z1, z2, z3, z4, z5, u0, u1, u2, u3, u4, u5]) rfl ⟨none, 0, by obtain ⟨h1, h2, h3, h4, h5, h6, h7⟩ := HNO.out HG.out.1; rw [h1, h2, h3, h4, h5, h6, h7, HG.out.2]; first | rfl | (rw [HPL.out]; rfl), Nat.le_trans (by rw [(HNO.out HG.out.1).2.2.2.2.2.1]; exact Nat.le_refl _) (Nat.le_refl _), by rw [(HNO.out HG.out.1).2.2.2.2.2.1]; exact RowA.nil, gri⟩
   ·have hi9 : ((i : Int) == 0) = false := by simp; omega
    have HI := Lib.hid hi
    have hne : pre ≠ [] := by rintro rfl; have := HPL.out; simp at this; omega
    have HNE := Lib.hid hne; clear hi hne
    have HAO := Lib.hid (fun W (_ : Tb W) (_ : Ml W) => actOf_own (cutX r) HXS.out W)
    have hle : i ≤ 200001 := by have := HST.out.short; have := HPL.out; have := HT.out; omega
    have hlen : xs.length + 1 = i := by
     have h1 := congrArg List.length HMAP.out
     have h2 := HPL.out
     have h3 := HI.out
     simp only [List.length_map, List.length_tail] at h1
     omega
    have hbd := actRes_bd (cutX r) HXS.out
    have hgl : goodL pre.length (cutX r) = (decide (i ≤ 5000) && goodA (cutX r)) := by rw [goodL, if_neg (by have := HPL.out; have := HI.out; omega), HPL.out]
    obtain ⟨a9, hA9⟩ : ∃ a9, actRes (cutX r) = a9 := ⟨_, rfl⟩
    obtain ⟨E9, hE9⟩ : ∃ E9, actE (cutX r) = E9 := ⟨_, rfl⟩
    rw [hA9, hE9] at HAO
    rw [hA9] at hbd
    obtain ⟨ak, an, am, ⟨ok, ov, ot, os, oa, oc, od⟩, af, ap⟩ := a9
    have HAO := Lib.hid (fun W (h1 : Tb W) (h2 : Ml W) => (show Calls Tryz.prog 19 #[.string (cutX r)] W (fun e w' => ∃ Ad qd Av qv, e = .returned (.tuple #[.agg #[.int .i64 ak, .int .i64 an, .int .i64 am, .int .i64 ok, .int .u64 ov, .int .u64 ot, .int .i64 os, .int .i64 oa, .int .i64 oc, .slice Ad od.length qd, .bool af, .slice Av ap.length qv], .int .i64 E9]) ∧ od.length ≤ qd ∧ (∃ b, OwnR bv 5 b w' (.slice Ad od.length qd) od) ∧ ap.length ≤ qv ∧ (∃ b, OwnR (Value.int .i64) 3 b w' (.slice Av ap.length qv) ap) ∧ Gr W w') from HAO.out W h1 h2))
    have HLE := Lib.hid hle; have HLN := Lib.hid hlen; have HBD := Lib.hid hbd; have HGL := Lib.hid hgl; have HA9 := Lib.hid hA9
    clear hle hlen hbd hgl hA9
    have hE0 : goodA (cutX r) = true → E9 = 0 := fun h => by rw [← hE9, actE, if_pos h]
    have hE4 : goodA (cutX r) = false → E9 = 4 := fun h => by rw [← hE9, actE, h]; rfl
    clear hE9
    rcases Bool.eq_false_or_eq_true (goodA (cutX r)) with hG | hG
    ·obtain rfl := hE0 hG
     clear hE0 hE4
     go_wp2_with (first | (go_at_call 64; ((with_reducible refine (HCUT.out _ inferInstance).mono ?_); rintro _ _ ⟨rfl, g1, rfl⟩)) | (go_at_call 19; ((with_reducible refine (HAO.out _ inferInstance inferInstance).mono ?_); rintro _ _ ⟨Ad, qd, Ap, qp, rfl, hd1, hd2, hp1, hp2, g2, rfl⟩; have HD1 := Lib.hid hd1; have HD2 := Lib.hid hd2; have HP1 := Lib.hid hp1; have HP2 := Lib.hid hp2; clear hd1 hd2 hp1 hp2)) | (at_builtin; refine wp_append_act rfl _ _ rfl (w.heap.size + 2) (.slice Av xs.length cv) xs ?hs1 ?own1 ⟨⟨ak, an, am, ⟨ok, ov, ot, os, oa, oc, od⟩, af, ap⟩, Ad, qd, Ap, qp⟩ _ rfl ?hc1 ?len1 ?base1 ?_))
     case hs1 => rfl
     case own1 => exact HOW.out.gr gri
     case hc1 => show BlockAt _ _ #[.int .i64 ak, .int .i64 an, .int .i64 am, .int .i64 ok, .int .u64 ov, .int .u64 ot, .int .i64 os, .int .i64 oa, .int .i64 oc, .slice Ad od.length qd, .bool af, .slice Ap ap.length qp] 42; infer_instance
     case len1 => have := HLE.out; have := HLN.out; omega
     case base1 => exact Nat.le_trans HSZ.out (gri : Gr wr _).below.size
     intro v4 W4 a4
     have hy : AM.Ok (grown (grown wr g1) g2) ⟨⟨ak, an, am, ⟨ok, ov, ot, os, oa, oc, od⟩, af, ap⟩, Ad, qd, Ap, qp⟩ := ⟨HBD.out.bd, HBD.out.n0, HBD.out.n1, HBD.out.m0, HBD.out.m1, HD1.out, HBD.out.bq, HD2.out, HP1.out, HBD.out.bv, HBD.out.pk, HP2.out⟩
     have hra := RA.put (RA.gr (W := wr) ⟨HOW.out, HOK.out⟩ gri) (hy.gr gri) a4
     obtain ⟨A4, c4, rfl, hc4, _⟩ := hra.own.row hra.oks
     have hl4 : (xs ++ [(⟨⟨ak, an, am, ⟨ok, ov, ot, os, oa, oc, od⟩, af, ap⟩, Ad, qd, Ap, qp⟩ : AM)]).length = i := by have := HLN.out; simpa using this
     have bX4 : BlockAt W4 (w.heap.size + 1) #[.int .i64 m0, .int .i64 m1, .int .i64 d0, .int .i64 d1, .int .i64 g, (.slice Av xs.length cv)] 58 := a4.keep _ _ _ (BX.out.gr gri) (by decide)
     have bR4 : BlockAt W4 w.heap.size #[.int .i64 0, .int .i64 0, .int .i64 0, .int .i64 0, .int .i64 0, .slice none 0 0] 58 := a4.keep _ _ _ (BR.out.gr gri) (by decide)
     haveI : GrC w W4 := ⟨(show GrC w _ from inferInstance).b.trans (a4.below.mono (by omega))⟩
     have hw4 : Gr W1 W4 := Gr.of (((HGR.out.trans gri : Gr W1 _)).below.trans (a4.below.mono (by have := HN1.out; omega)))
     rw [hl4] at hc4
     have hsz4 : w.heap.size + 2 ≤ W4.heap.size := Nat.le_trans (Nat.le_trans HSZ.out (gri : Gr wr _).below.size) a4.size
     have HRA := Lib.hid hra; have HC4 := Lib.hid hc4; have BX4 := Lib.hid bX4; have BR4 := Lib.hid bR4; have HW4 := Lib.hid hw4; have HL4 := Lib.hid hl4; have HSZ4 := Lib.hid hsz4
     rw [hl4]
     haveI : Old (w.heap.size + 1) W4 := bX4.old
     haveI : Old w.heap.size W4 := bR4.old
     clear x0 x1 x2 x3 x4 x5 y0 y1 y2 y3 y4 y5 z0 z1 z2 z3 z4 z5 u0 u1 u2 u3 u4 u5 hy hra a4 hl4 hw4 hsz4 hc4
     have x0 : W4.cell? ⟨w.heap.size + 1, 0, none⟩ = some (.int .i64 m0) := (@block_cells _ _ 0 _ _ bX4).trans rfl
     have u0 : W4.frozen? ⟨w.heap.size + 1, 0, none⟩ = false := @block_frozen _ _ 0 _ _ bX4
     have y0 : W4.cell? ⟨w.heap.size, 0, none⟩ = some (.int .i64 0) := (@block_cells _ _ 0 _ _ bR4).trans rfl
     have z0 : W4.frozen? ⟨w.heap.size, 0, none⟩ = false := @block_frozen _ _ 0 _ _ bR4
     have x1 : W4.cell? ⟨w.heap.size + 1, 1, none⟩ = some (.int .i64 m1) := (@block_cells _ _ 1 _ _ bX4).trans rfl
     have u1 : W4.frozen? ⟨w.heap.size + 1, 1, none⟩ = false := @block_frozen _ _ 1 _ _ bX4
     have y1 : W4.cell? ⟨w.heap.size, 1, none⟩ = some (.int .i64 0) := (@block_cells _ _ 1 _ _ bR4).trans rfl
     have z1 : W4.frozen? ⟨w.heap.size, 1, none⟩ = false := @block_frozen _ _ 1 _ _ bR4
     have x2 : W4.cell? ⟨w.heap.size + 1, 2, none⟩ = some (.int .i64 d0) := (@block_cells _ _ 2 _ _ bX4).trans rfl
     have u2 : W4.frozen? ⟨w.heap.size + 1, 2, none⟩ = false := @block_frozen _ _ 2 _ _ bX4
     have y2 : W4.cell? ⟨w.heap.size, 2, none⟩ = some (.int .i64 0) := (@block_cells _ _ 2 _ _ bR4).trans rfl
     have z2 : W4.frozen? ⟨w.heap.size, 2, none⟩ = false := @block_frozen _ _ 2 _ _ bR4
     have x3 : W4.cell? ⟨w.heap.size + 1, 3, none⟩ = some (.int .i64 d1) := (@block_cells _ _ 3 _ _ bX4).trans rfl
     have u3 : W4.frozen? ⟨w.heap.size + 1, 3, none⟩ = false := @block_frozen _ _ 3 _ _ bX4
     have y3 : W4.cell? ⟨w.heap.size, 3, none⟩ = some (.int .i64 0) := (@block_cells _ _ 3 _ _ bR4).trans rfl
     have z3 : W4.frozen? ⟨w.heap.size, 3, none⟩ = false := @block_frozen _ _ 3 _ _ bR4
     have x4 : W4.cell? ⟨w.heap.size + 1, 4, none⟩ = some (.int .i64 g) := (@block_cells _ _ 4 _ _ bX4).trans rfl
     have u4 : W4.frozen? ⟨w.heap.size + 1, 4, none⟩ = false := @block_frozen _ _ 4 _ _ bX4
     have y4 : W4.cell? ⟨w.heap.size, 4, none⟩ = some (.int .i64 0) := (@block_cells _ _ 4 _ _ bR4).trans rfl
     have z4 : W4.frozen? ⟨w.heap.size, 4, none⟩ = false := @block_frozen _ _ 4 _ _ bR4
     have x5 : W4.cell? ⟨w.heap.size + 1, 5, none⟩ = some (.slice Av xs.length cv) := (@block_cells _ _ 5 _ _ bX4).trans rfl
     have u5 : W4.frozen? ⟨w.heap.size + 1, 5, none⟩ = false := @block_frozen _ _ 5 _ _ bX4
     have y5 : W4.cell? ⟨w.heap.size, 5, none⟩ = some (.slice none 0 0) := (@block_cells _ _ 5 _ _ bR4).trans rfl
     have z5 : W4.frozen? ⟨w.heap.size, 5, none⟩ = false := @block_frozen _ _ 5 _ _ bR4
     clear bX4 bR4
     rcases Bool.eq_false_or_eq_true (cutB r) with hC | hC
     ·by_cases h5 : i ≤ 5000
      ·have hGL : goodL pre.length (cutX r) = true := by rw [HGL.out, hG, decide_eq_true h5]; rfl
       have HNX := Lib.hid (HST.out.next hC hGL)
       have h5i : ¬ (5000 : Int) < (i : Int) := by omega
       go_wp2
       go_roundw
       case rel =>
        haveI := BX4.out
        have hr9 : RA (w.heap.size + 2) W4 (.slice A4 i c4) (xs ++ [⟨⟨ak, an, am, ⟨ok, ov, ot, os, oa, oc, od⟩, af, ap⟩, Ad, qd, Ap, qp⟩]) := by have h := HRA.out; rw [HL4.out] at h; exact h
        have hr8 := hr9.set_ (w.heap.size + 1) 5 (.slice A4 i c4)
        refine ⟨i + 1, pre ++ [cutX r], cutM r, m0, m1, d0, d1, g, xs ++ [⟨⟨ak, an, am, ⟨ok, ov, ot, os, oa, oc, od⟩, af, ap⟩, Ad, qd, Ap, qp⟩], .slice A4 i c4, by go_num, rfl, rfl, by have := HPL.out; simpa using this, HNX.out, fun _ => ?_, by show BlockAt _ _ #[.int .i64 m0, .int .i64 m1, .int .i64 d0, .int .i64 d1, .int .i64 g, .slice A4 i c4] _; infer_instance, hr8.own, hr8.oks, ?_, Gr.of (below_set_le HW4.out.below (by have := HN1.out; omega) _), Nat.le_trans HSZ4.out (by simp [World.setCell])⟩
        ·rw [hdW_app HNE.out]; exact HNUM.out HI.out
        ·rw [List.tail_append_of_ne_nil HNE.out, List.map_append, List.map_append, HMAP.out]
         simp only [List.map_cons, List.map_nil, HA9.out]
       case measure => exact cutM_lt hC
      ·have hGL : goodL pre.length (cutX r) = false := by rw [HGL.out, hG, decide_eq_false h5]; rfl
       have HG := Lib.hid (HST.out.bad hC hGL)
       have h5i : (5000 : Int) < (i : Int) := by omega
       go_wp2
       (try rw [Exit.noGoto_ret]); exact bodyPost_ret (v := .tuple #[.agg #[.int .i64 0, .int .i64 0, .int .i64 0, .int .i64 0, .int .i64 0, .slice none 0 0], .int .i64 i, .int .i64 4]) (by simp [results, Tryz.results26, go_sem, x0, x1, x2, x3, x4, x5, y0, y1, y2, y3, y4, y5, z0, z1, z2, z3, z4, z5, u0, u1, u2, u3, u4, u5]) rfl ⟨none, 0, by obtain ⟨h1, h2, h3, h4, h5, h6, h7⟩ := HNO.out HG.out.1; rw [h1, h2, h3, h4, h5, h6, h7, HG.out.2]; first | rfl | (rw [HPL.out]; rfl), Nat.le_trans (by rw [(HNO.out HG.out.1).2.2.2.2.2.1]; exact Nat.le_refl _) (Nat.le_refl _), by rw [(HNO.out HG.out.1).2.2.2.2.2.1]; exact RowA.nil, gri⟩
     ·have HG := Lib.hid (HST.out.open_ HR0.out hC)
      go_wp2
      (try rw [Exit.noGoto_ret]); exact bodyPost_ret (v := .tuple #[.agg #[.int .i64 0, .int .i64 0, .int .i64 0, .int .i64 0, .int .i64 0, .slice none 0 0], .int .i64 i, .int .i64 4]) (by simp [results, Tryz.results26, go_sem, x0, x1, x2, x3, x4, x5, y0, y1, y2, y3, y4, y5, z0, z1, z2, z3, z4, z5, u0, u1, u2, u3, u4, u5]) rfl ⟨none, 0, by obtain ⟨h1, h2, h3, h4, h5, h6, h7⟩ := HNO.out HG.out.1; rw [h1, h2, h3, h4, h5, h6, h7, HG.out.2]; first | rfl | (rw [HPL.out]; rfl), Nat.le_trans (by rw [(HNO.out HG.out.1).2.2.2.2.2.1]; exact Nat.le_refl _) (Nat.le_refl _), by rw [(HNO.out HG.out.1).2.2.2.2.2.1]; exact RowA.nil, gri⟩
    ·obtain rfl := hE4 hG
     clear hE0 hE4
     have hgood : pGood t = false ∧ pAt t = pre.length := by
      rcases Bool.eq_false_or_eq_true (cutB r) with hC | hC
      ·exact HST.out.bad hC (by rw [HGL.out, hG, Bool.and_false])
      ·exact HST.out.open_ HR0.out hC
     have HG := Lib.hid hgood
     go_wp2_with (first | (go_at_call 64; ((with_reducible refine (HCUT.out _ inferInstance).mono ?_); rintro _ _ ⟨rfl, g1, rfl⟩)) | (go_at_call 19; ((with_reducible refine (HAO.out _ inferInstance inferInstance).mono ?_); rintro _ _ ⟨Ad, qd, Ap, qp, rfl, hd1, hd2, hp1, hp2, g2, rfl⟩; have HD1 := Lib.hid hd1; have HD2 := Lib.hid hd2; have HP1 := Lib.hid hp1; have HP2 := Lib.hid hp2; clear hd1 hd2 hp1 hp2)) | (at_builtin; refine wp_append_act rfl _ _ rfl (w.heap.size + 2) (.slice Av xs.length cv) xs ?hs2 ?own2 ⟨⟨ak, an, am, ⟨ok, ov, ot, os, oa, oc, od⟩, af, ap⟩, Ad, qd, Ap, qp⟩ _ rfl ?hc2 ?len2 ?base2 ?_))
     case hs2 => rfl
     case own2 => exact HOW.out.gr gri
     case hc2 => show BlockAt _ _ #[.int .i64 ak, .int .i64 an, .int .i64 am, .int .i64 ok, .int .u64 ov, .int .u64 ot, .int .i64 os, .int .i64 oa, .int .i64 oc, .slice Ad od.length qd, .bool af, .slice Ap ap.length qp] 42; infer_instance
     case len2 => have := HLE.out; have := HLN.out; omega
     case base2 => exact Nat.le_trans HSZ.out (gri : Gr wr _).below.size
     intro v4 W4 a4
     have hy : AM.Ok (grown (grown wr g1) g2) ⟨⟨ak, an, am, ⟨ok, ov, ot, os, oa, oc, od⟩, af, ap⟩, Ad, qd, Ap, qp⟩ := ⟨HBD.out.bd, HBD.out.n0, HBD.out.n1, HBD.out.m0, HBD.out.m1, HD1.out, HBD.out.bq, HD2.out, HP1.out, HBD.out.bv, HBD.out.pk, HP2.out⟩
     have hra := RA.put (RA.gr (W := wr) ⟨HOW.out, HOK.out⟩ gri) (hy.gr gri) a4
     obtain ⟨A4, c4, rfl, hc4, _⟩ := hra.own.row hra.oks
     have hl4 : (xs ++ [(⟨⟨ak, an, am, ⟨ok, ov, ot, os, oa, oc, od⟩, af, ap⟩, Ad, qd, Ap, qp⟩ : AM)]).length = i := by have := HLN.out; simpa using this
     have bX4 : BlockAt W4 (w.heap.size + 1) #[.int .i64 m0, .int .i64 m1, .int .i64 d0, .int .i64 d1, .int .i64 g, (.slice Av xs.length cv)] 58 := a4.keep _ _ _ (BX.out.gr gri) (by decide)
     have bR4 : BlockAt W4 w.heap.size #[.int .i64 0, .int .i64 0, .int .i64 0, .int .i64 0, .int .i64 0, .slice none 0 0] 58 := a4.keep _ _ _ (BR.out.gr gri) (by decide)
     haveI : GrC w W4 := ⟨(show GrC w _ from inferInstance).b.trans (a4.below.mono (by omega))⟩
     have hw4 : Gr W1 W4 := Gr.of (((HGR.out.trans gri : Gr W1 _)).below.trans (a4.below.mono (by have := HN1.out; omega)))
     rw [hl4] at hc4
     have hsz4 : w.heap.size + 2 ≤ W4.heap.size := Nat.le_trans (Nat.le_trans HSZ.out (gri : Gr wr _).below.size) a4.size
     have HRA := Lib.hid hra; have HC4 := Lib.hid hc4; have BX4 := Lib.hid bX4; have BR4 := Lib.hid bR4; have HW4 := Lib.hid hw4; have HL4 := Lib.hid hl4; have HSZ4 := Lib.hid hsz4
     rw [hl4]
     haveI : Old (w.heap.size + 1) W4 := bX4.old
     haveI : Old w.heap.size W4 := bR4.old
     clear x0 x1 x2 x3 x4 x5 y0 y1 y2 y3 y4 y5 z0 z1 z2 z3 z4 z5 u0 u1 u2 u3 u4 u5 hy hra a4 hl4 hw4 hsz4 hc4
     have x0 : W4.cell? ⟨w.heap.size + 1, 0, none⟩ = some (.int .i64 m0) := (@block_cells _ _ 0 _ _ bX4).trans rfl
     have u0 : W4.frozen? ⟨w.heap.size + 1, 0, none⟩ = false := @block_frozen _ _ 0 _ _ bX4
     have y0 : W4.cell? ⟨w.heap.size, 0, none⟩ = some (.int .i64 0) := (@block_cells _ _ 0 _ _ bR4).trans rfl
     have z0 : W4.frozen? ⟨w.heap.size, 0, none⟩ = false := @block_frozen _ _ 0 _ _ bR4
     have x1 : W4.cell? ⟨w.heap.size + 1, 1, none⟩ = some (.int .i64 m1) := (@block_cells _ _ 1 _ _ bX4).trans rfl
     have u1 : W4.frozen? ⟨w.heap.size + 1, 1, none⟩ = false := @block_frozen _ _ 1 _ _ bX4
     have y1 : W4.cell? ⟨w.heap.size, 1, none⟩ = some (.int .i64 0) := (@block_cells _ _ 1 _ _ bR4).trans rfl
     have z1 : W4.frozen? ⟨w.heap.size, 1, none⟩ = false := @block_frozen _ _ 1 _ _ bR4
     have x2 : W4.cell? ⟨w.heap.size + 1, 2, none⟩ = some (.int .i64 d0) := (@block_cells _ _ 2 _ _ bX4).trans rfl
     have u2 : W4.frozen? ⟨w.heap.size + 1, 2, none⟩ = false := @block_frozen _ _ 2 _ _ bX4
     have y2 : W4.cell? ⟨w.heap.size, 2, none⟩ = some (.int .i64 0) := (@block_cells _ _ 2 _ _ bR4).trans rfl
     have z2 : W4.frozen? ⟨w.heap.size, 2, none⟩ = false := @block_frozen _ _ 2 _ _ bR4
     have x3 : W4.cell? ⟨w.heap.size + 1, 3, none⟩ = some (.int .i64 d1) := (@block_cells _ _ 3 _ _ bX4).trans rfl
     have u3 : W4.frozen? ⟨w.heap.size + 1, 3, none⟩ = false := @block_frozen _ _ 3 _ _ bX4
     have y3 : W4.cell? ⟨w.heap.size, 3, none⟩ = some (.int .i64 0) := (@block_cells _ _ 3 _ _ bR4).trans rfl
     have z3 : W4.frozen? ⟨w.heap.size, 3, none⟩ = false := @block_frozen _ _ 3 _ _ bR4
     have x4 : W4.cell? ⟨w.heap.size + 1, 4, none⟩ = some (.int .i64 g) := (@block_cells _ _ 4 _ _ bX4).trans rfl
     have u4 : W4.frozen? ⟨w.heap.size + 1, 4, none⟩ = false := @block_frozen _ _ 4 _ _ bX4
     have y4 : W4.cell? ⟨w.heap.size, 4, none⟩ = some (.int .i64 0) := (@block_cells _ _ 4 _ _ bR4).trans rfl
     have z4 : W4.frozen? ⟨w.heap.size, 4, none⟩ = false := @block_frozen _ _ 4 _ _ bR4
     have x5 : W4.cell? ⟨w.heap.size + 1, 5, none⟩ = some (.slice Av xs.length cv) := (@block_cells _ _ 5 _ _ bX4).trans rfl
     have u5 : W4.frozen? ⟨w.heap.size + 1, 5, none⟩ = false := @block_frozen _ _ 5 _ _ bX4
     have y5 : W4.cell? ⟨w.heap.size, 5, none⟩ = some (.slice none 0 0) := (@block_cells _ _ 5 _ _ bR4).trans rfl
     have z5 : W4.frozen? ⟨w.heap.size, 5, none⟩ = false := @block_frozen _ _ 5 _ _ bR4
     clear bX4 bR4
     go_wp2
     (try rw [Exit.noGoto_ret]); exact bodyPost_ret (v := .tuple #[.agg #[.int .i64 0, .int .i64 0, .int .i64 0, .int .i64 0, .int .i64 0, .slice none 0 0], .int .i64 i, .int .i64 4]) (by simp [results, Tryz.results26, go_sem, x0, x1, x2, x3, x4, x5, y0, y1, y2, y3, y4, y5, z0, z1, z2, z3, z4, z5, u0, u1, u2, u3, u4, u5]) rfl ⟨none, 0, by obtain ⟨h1, h2, h3, h4, h5, h6, h7⟩ := HNO.out HG.out.1; rw [h1, h2, h3, h4, h5, h6, h7, HG.out.2]; first | rfl | (rw [HPL.out]; rfl), Nat.le_trans (by rw [(HNO.out HG.out.1).2.2.2.2.2.1]; exact Nat.le_refl _) (Nat.le_refl _), by rw [(HNO.out HG.out.1).2.2.2.2.2.1]; exact RowA.nil, gri⟩
theorem strOf_bytes (l : List UInt8) : strOfNums (l.map fun b => ((b.toNat : Nat) : Int)) = ⟨l.toArray⟩ := by
 unfold strOfNums
 congr 2
 rw [List.map_map]
 conv => rhs; rw [← List.map_id l]
 refine List.map_congr_left (fun b _ => ?_)
 show UInt8.ofNat b.toNat = b
 simp
theorem conv_row (A : Option Addr) (n q : Nat) (l : List UInt8) (W : World) (hl : l.length = n) (hr : Row bv W A l) : (convert 24 9 (.slice A n q)).run Tryz.prog W = .ok (.string ⟨l.toArray⟩) W := by
 by_cases h0 : l = []
 ·subst h0
  obtain rfl : n = 0 := by simpa using hl.symm
  cases A with
  | none => exact run_convert_bytes_nil W 24 5 Tryz.underlying24 Tryz.underlying5 0 q 9 Tryz.underlying9
  | some a =>
   rw [run_convert_bytes_string W 24 9 5 (some a) 0 q Tryz.underlying24 Tryz.underlying5 Tryz.underlying9]
   rw [run_bytesToString W a 0 q [] (by simpa using run_loadCells_list (P := Tryz.prog) W a [] (fun j v hj => by simp at hj))]
   rfl
 ·obtain ⟨b, o, rfl, hb, hc⟩ := hr.at_ h0
  rw [run_convert_bytes_arg W 24 5 Tryz.underlying24 Tryz.underlying5 b o n q (l.map fun b => ((b.toNat : Nat) : Int)) (by simpa using hl) (fun i hi => ?_) 9 Tryz.underlying9, strOf_bytes]
  have hil : i < l.length := by omega
  rw [hc i l[i] (List.getElem?_eq_getElem hil)]
  simp [bv, List.getD, List.getElem?_map, List.getElem?_eq_getElem hil]
set_option maxHeartbeats 2000000 in
theorem same13r_any (xk xv xt xs xa xc yk yv yt ys ya yc : Int) (xD yD : Option Addr) (xn xq yn yq : Nat) (lx ly : List UInt8) (w : World) (hx : lx.length = xn) (hy : ly.length = yn) (h1 : Row bv w xD lx) (h2 : Row bv w yD ly) :
  Calls Tryz.prog 12 #[(Value.agg #[.int .i64 xk, .int .u64 xv, .int .u64 xt, .int .i64 xs, .int .i64 xa, .int .i64 xc, .slice xD xn xq]), (Value.agg #[.int .i64 yk, .int .u64 yv, .int .u64 yt, .int .i64 ys, .int .i64 ya, .int .i64 yc, .slice yD yn yq])] w fun e w' => e = .returned (.bool (sameB xk xv xt xs xa xc yk yv yt ys ya yc lx ly)) ∧ Gr w w' := by
 have CV1 : ∀ (W : World) [GrC w W], (convert 24 9 (.slice xD xn xq)).run Tryz.prog W = .ok (.string ⟨lx.toArray⟩) W := fun W hW => conv_row _ _ _ _ _ hx (h1.gr (Gr.of hW.b))
 have CV2 : ∀ (W : World) [GrC w W], (convert 24 9 (.slice yD yn yq)).run Tryz.prog W = .ok (.string ⟨ly.toArray⟩) W := fun W hW => conv_row _ _ _ _ _ hy (h2.gr (Gr.of hW.b))
 clear hx hy h1 h2
 rcases Bool.eq_false_or_eq_true (xk == yk) with k1 | k1
 rotate_left
 ·go_enter Tryz.func12, Tryz.ntmps12
  go_wp2
  go_ret
  exact ⟨ret_bool (by simp [sameB, k1]), gri⟩
 rcases Bool.eq_false_or_eq_true (xv == yv) with k2 | k2
 rotate_left
 ·go_enter Tryz.func12, Tryz.ntmps12
  go_wp2
  go_ret
  exact ⟨ret_bool (by simp [sameB, k2]), gri⟩
 rcases Bool.eq_false_or_eq_true (xt == yt) with k3 | k3
 rotate_left
 ·go_enter Tryz.func12, Tryz.ntmps12
  go_wp2
  go_ret
  exact ⟨ret_bool (by simp [sameB, k3]), gri⟩
 rcases Bool.eq_false_or_eq_true (xs == ys) with k4 | k4
 rotate_left
 ·go_enter Tryz.func12, Tryz.ntmps12
  go_wp2
  go_ret
  exact ⟨ret_bool (by simp [sameB, k4]), gri⟩
 rcases Bool.eq_false_or_eq_true (xa == ya) with k5 | k5
 rotate_left
 ·go_enter Tryz.func12, Tryz.ntmps12
  go_wp2
  go_ret
  exact ⟨ret_bool (by simp [sameB, k5]), gri⟩
 rcases Bool.eq_false_or_eq_true (xc == yc) with k6 | k6
 rotate_left
 ·go_enter Tryz.func12, Tryz.ntmps12
  go_wp2
  go_ret
  exact ⟨ret_bool (by simp [sameB, k6]), gri⟩
 rcases Bool.eq_false_or_eq_true (lx == ly) with k7 | k7
 ·go_enter Tryz.func12, Tryz.ntmps12
  go_wp2
  go_ret
  exact ⟨ret_bool (by simp [sameB, k1, k2, k3, k4, k5, k6, k7]), gri⟩
 ·go_enter Tryz.func12, Tryz.ntmps12
  go_wp2
  go_ret
  exact ⟨ret_bool (by simp [sameB, k1, k2, k3, k4, k5, k6, k7]), gri⟩






theorem much13_any (xk xv xt xs xa xc : Int) (xD : Option Addr) (xn xq : Nat) (w : World) : Calls Tryz.prog 8 #[(Value.agg #[.int .i64 xk, .int .u64 xv, .int .u64 xt, .int .i64 xs, .int .i64 xa, .int .i64 xc, .slice xD xn xq])] w fun e w' => e = .returned (.bool (decide (9000 < xn))) ∧ Gr w w' := by
 go_enter Tryz.func8, Tryz.ntmps8
 go_wp2
 go_ret
 exact ⟨ret_bool (by first | rfl | (rw [Bool.eq_iff_iff]; simp; omega)), gri⟩
set_option maxHeartbeats 2000000 in
theorem big26_any (xk xn xm xOk xOv xOt xOs xOa xOc : Int) (xOD xP : Option Addr) (xOn xOq xpn xpq : Nat) (xf : Bool) (w : World) :
  Calls Tryz.prog 18 #[(Value.agg #[.int .i64 xk, .int .i64 xn, .int .i64 xm, .int .i64 xOk, .int .u64 xOv, .int .u64 xOt, .int .i64 xOs, .int .i64 xOa, .int .i64 xOc, .slice xOD xOn xOq, .bool xf, .slice xP xpn xpq])] w fun e w' => e = .returned (.bool (decide (300 < xpn) || decide (9000 < xOn))) ∧ Gr w w' := by
 have HU := Lib.hid (fun W => much13_any xOk xOv xOt xOs xOa xOc xOD xOn xOq W)
 by_cases h : 300 < xpn
 ·have h2 : (300 : Int) < (xpn : Int) := by omega
  have HH := Lib.hid h; clear h
  go_enter Tryz.func18, Tryz.ntmps18
  go_wp2
  go_ret
  exact ⟨ret_bool (by have := HH.out; simp [this]), gri⟩
 ·have h2 : ¬ (300 : Int) < (xpn : Int) := by omega
  have HH := Lib.hid h; clear h
  go_enter Tryz.func18, Tryz.ntmps18
  go_wp2_with ((go_at_call 8; ((with_reducible refine (HU.out _).mono ?_); rintro _ _ ⟨rfl, gu, rfl⟩)))
  go_ret
  exact ⟨ret_bool (by have := HH.out; simp [this]), gri⟩
theorem list_ne_of_len {α : Type} [BEq α] [LawfulBEq α] {a b : List α} (h : a.length ≠ b.length) : (a == b) = false := by
 rw [beq_eq_false_iff_ne]; exact fun e => h (by rw [e])
theorem beq_snocI {xs ys : List Int} {k : Nat} (hx : k < xs.length) (hy : k < ys.length) (h : xs.take k = ys.take k) (he : xs[k] = ys[k]) : xs.take (k + 1) = ys.take (k + 1) := by
 rw [List.take_succ_eq_append_getElem hx, List.take_succ_eq_append_getElem hy, h, he]
theorem beq_getI {xs ys : List Int} {k : Nat} (hx : k < xs.length) (hy : k < ys.length) (he : xs[k] ≠ ys[k]) : (xs == ys) = false := by
 rw [beq_eq_false_iff_ne]
 rintro rfl
 exact he rfl
set_option maxRecDepth 100000 in
set_option maxHeartbeats 8000000 in
theorem sameAct26_any (xk xn xm xOk xOv xOt xOs xOa xOc yk yn ym yOk yOv yOt yOs yOa yOc : Int) (xOD yOD xP yP : Option Addr) (xOn xOq yOn yOq xpn xpq ypn ypq : Nat) (xf yf : Bool) (lx ly : List UInt8) (px py : List Int) (w : World) (hx : lx.length = xOn) (hy : ly.length = yOn) (h1 : Row bv w xOD lx) (h2 : Row bv w yOD ly) (hpx : px.length = xpn) (hpy : py.length = ypn) (hpn : xpn ≤ 9223372036854775807) (h3 : Row (Value.int .i64) w xP px) (h4 : Row (Value.int .i64) w yP py) :
  Calls Tryz.prog 21 #[(Value.agg #[.int .i64 xk, .int .i64 xn, .int .i64 xm, .int .i64 xOk, .int .u64 xOv, .int .u64 xOt, .int .i64 xOs, .int .i64 xOa, .int .i64 xOc, .slice xOD xOn xOq, .bool xf, .slice xP xpn xpq]), (Value.agg #[.int .i64 yk, .int .i64 yn, .int .i64 ym, .int .i64 yOk, .int .u64 yOv, .int .u64 yOt, .int .i64 yOs, .int .i64 yOa, .int .i64 yOc, .slice yOD yOn yOq, .bool yf, .slice yP ypn ypq])] w fun e w' => e = .returned (.bool (sameActB xk xn xm xOk xOv xOt xOs xOa xOc yk yn ym yOk yOv yOt yOs yOa yOc xf yf lx ly px py)) ∧ Gr w w' := by
 have HS := Lib.hid (fun W (g : GrC w W) => same13r_any xOk xOv xOt xOs xOa xOc yOk yOv yOt yOs yOa yOc xOD yOD xOn xOq yOn yOq lx ly W hx hy (h1.gr (Gr.of g.b)) (h2.gr (Gr.of g.b)))
 clear hx hy h1 h2
 rcases Bool.eq_false_or_eq_true (xk == yk) with k0 | k0
 rotate_left
 ·have n0 : (xk != yk) = true := by simp [bne, k0]
  go_enter Tryz.func21, Tryz.ntmps21
  go_wp2
  go_ret
  exact ⟨ret_bool (by simp [sameActB, k0]), gri⟩
 have n0 : (xk != yk) = false := by simp [bne, k0]
 rcases Bool.eq_false_or_eq_true (xn == yn) with k1 | k1
 rotate_left
 ·have n1 : (xn != yn) = true := by simp [bne, k1]
  go_enter Tryz.func21, Tryz.ntmps21
  go_wp2
  go_ret
  exact ⟨ret_bool (by simp [sameActB, k1]), gri⟩
 have n1 : (xn != yn) = false := by simp [bne, k1]
 rcases Bool.eq_false_or_eq_true (xm == ym) with k2 | k2
 rotate_left
 ·have n2 : (xm != ym) = true := by simp [bne, k2]
  go_enter Tryz.func21, Tryz.ntmps21
  go_wp2
  go_ret
  exact ⟨ret_bool (by simp [sameActB, k2]), gri⟩
 have n2 : (xm != ym) = false := by simp [bne, k2]
 rcases Bool.eq_false_or_eq_true (sameB xOk xOv xOt xOs xOa xOc yOk yOv yOt yOs yOa yOc lx ly) with k3 | k3
 rotate_left
 ·rw [k3] at HS
  go_enter Tryz.func21, Tryz.ntmps21
  go_wp2_with ((go_at_call 12; ((with_reducible refine (HS.out _ inferInstance).mono ?_); rintro _ _ ⟨rfl, g, rfl⟩)))
  go_ret
  exact ⟨ret_bool (by simp [sameActB, k3]), gri⟩
 rw [k3] at HS
 by_cases hf : xf = yf
 rotate_left
 ·have ef : (xf == yf) = false := by simpa using hf
  have K3 := Lib.hid k3; clear k3
  cases xf <;> cases yf <;> first | exact absurd rfl hf | skip
  all_goals
   go_enter Tryz.func21, Tryz.ntmps21
   go_wp2_with ((go_at_call 12; ((with_reducible refine (HS.out _ inferInstance).mono ?_); rintro _ _ ⟨rfl, g, rfl⟩)))
   go_ret
   exact ⟨ret_bool (by simp [sameActB]), gri⟩
 subst hf
 have HALL := Lib.hid (show sameActB xk xn xm xOk xOv xOt xOs xOa xOc yk yn ym yOk yOv yOt yOs yOa yOc xf xf lx ly px py = (px == py) by simp [sameActB, k0, k1, k2, k3])
 clear k0 k1 k2 k3
 by_cases hlen : xpn = ypn
 rotate_left
 ·have hl : ((xpn : Int) != (ypn : Int)) = true := by simp; omega
  have hpp : (px == py) = false := list_ne_of_len (by omega)
  have HPP := Lib.hid hpp; clear hpp hlen
  cases xf
  all_goals
   go_enter Tryz.func21, Tryz.ntmps21
   go_wp2_with ((go_at_call 12; ((with_reducible refine (HS.out _ inferInstance).mono ?_); rintro _ _ ⟨rfl, g, rfl⟩)))
   go_ret
   exact ⟨ret_bool (by rw [HALL.out, HPP.out]), gri⟩
 subst hlen
 have HPX := Lib.hid hpx; have HPY := Lib.hid hpy; have H3 := Lib.hid h3; have H4 := Lib.hid h4; clear hpx hpy h3 h4
 cases xf
 all_goals
  go_enter Tryz.func21, Tryz.ntmps21
  go_wp2_with ((go_at_call 12; ((with_reducible refine (HS.out _ inferInstance).mono ?_); rintro _ _ ⟨rfl, g, rfl⟩)))
  go_loopw [5] (fun i wr => ∃ j : Nat, i = .int .i64 j ∧ j ≤ xpn ∧ Hid (px.take j = py.take j) ∧ Gr w wr ∧ wr.cell? ⟨w.heap.size, 11, none⟩ = some (.slice xP xpn xpq) ∧ wr.cell? ⟨w.heap.size + 1, 11, none⟩ = some (.slice yP xpn ypq)) (fun i _ => xpn - (intOf i).toNat)
  case atStart => exact ⟨0, rfl, Nat.zero_le _, Lib.hid rfl, gri, (block_cells _ _ _ _ _).trans rfl, (block_cells _ _ _ _ _).trans rfl⟩
  case round =>
   obtain ⟨j, rfl, hj, ht, hg, cx, cy⟩ := hrel
   have HG := Lib.hid hg; clear hg
   haveI : Old w.heap.size wr := old_of_cell cx
   haveI : Old (w.heap.size + 1) wr := old_of_cell cy
   by_cases hlt : j < xpn
   ·have hjx : j < px.length := by have := HPX.out; omega
    have hjy : j < py.length := by have := HPY.out; omega
    obtain ⟨bx, ox, rfl, hbx, hcx⟩ := (H3.out.gr HG.out).at_ (by rintro rfl; simp at hjx)
    obtain ⟨by', oy, rfl, hby, hcy⟩ := (H4.out.gr HG.out).at_ (by rintro rfl; simp at hjy)
    have ex := hcx j px[j] (List.getElem?_eq_getElem hjx)
    have ey := hcy j py[j] (List.getElem?_eq_getElem hjy)
    haveI : Old bx wr := ⟨hbx⟩
    haveI : Old by' wr := ⟨hby⟩
    have hjl : (j : Int) < (xpn : Int) := by omega
    clear hcx hcy hbx hby
    by_cases hpp : px[j] = py[j]
    ·have HN := Lib.hid (beq_snocI hjx hjy ht.out hpp)
     have hq : (px[j] != py[j]) = false := by simp [hpp]
     clear ht hpp
     generalize px[j] = u at *
     generalize py[j] = v at *
     go_wp2
     refine wp_region_grow (by kernel_rfl) (by kernel_rfl) ?_
     repeat (go_big_quiet_step (fail))
     refine wpQuiet_nil ?_
     intro g1
     go_wp2
     go_roundw
     case rel => exact ⟨j + 1, by go_num, by omega, HN, HG.out.trans (Gr.of (grown_below _ _)), by go_simp, by go_simp⟩
     case measure => simp [intOf]; omega
    ·have HN := Lib.hid (beq_getI hjx hjy hpp)
     have hq : (px[j] != py[j]) = true := by simp [hpp]
     clear ht hpp
     generalize px[j] = u at *
     generalize py[j] = v at *
     go_wp2
     refine wp_region_grow (by kernel_rfl) (by kernel_rfl) ?_
     repeat (go_big_quiet_step (fail))
     refine wpQuiet_nil ?_
     intro g1
     go_wp2
     go_ret
     exact ⟨ret_bool (by rw [HALL.out, HN.out]), HG.out.trans (Gr.of (grown_below _ _))⟩
   ·obtain rfl : j = xpn := by omega
    have hpp : (px == py) = true := by
     have h9 := ht.out
     rw [List.take_of_length_le (by have := HPX.out; omega), List.take_of_length_le (by have := HPY.out; omega)] at h9
     simp [h9]
    have HPP := Lib.hid hpp; clear hpp ht
    go_wp2
    go_ret
    exact ⟨ret_bool (by rw [HALL.out, HPP.out]), HG.out⟩

section
variable {P : Program} {ops : Array Oper} {md : Region.Mode} {W : World} {S : Type} {I : S → World → Prop}
end
section
variable {P : Program} {md : Region.Mode} {W : World} {S : Type} {I : S → World → Prop} {l : List Oper} {Lq : S → Act → Prop}
end
structure Blk1 (W : World) (X : Nat) (T : TypeId) where
 cs : Array Value
 e : World → Prop
 grow : ∀ w w', e w → Gr w w' → e w'
 set : ∀ w o v cs, BlockAt w X cs T → e w → e (w.setCell ⟨X, o, none⟩ v)
def Blk1.other {W : World} {X : Nat} {T : TypeId} (s : Blk1 W X T) (R : Nat) (zs : Array Value) (U : TypeId) (hne : R ≠ X) : Blk1 W X T :=
 ⟨s.cs, fun w => BlockAt w R zs U ∧ s.e w, fun w w' h g => ⟨h.1.gr g, s.grow _ _ h.2 g⟩, fun w o v cs hb h => ⟨by haveI := h.1; haveI : BNe R X := ⟨hne⟩; infer_instance, s.set _ _ _ _ hb h.2⟩⟩
def Blk1.one (W : World) (X : Nat) (T : TypeId) (cs : Array Value) : Blk1 W X T := ⟨cs, fun _ => True, fun _ _ _ _ => trivial, fun _ _ _ _ _ _ => trivial⟩
def Blk1.put {W : World} {X : Nat} {T : TypeId} (s : Blk1 W X T) (o : Nat) (v : Value) : Blk1 W X T := ⟨s.cs.setIfInBounds o v, s.e, s.grow, s.set⟩
def Blk1.and {W : World} {X : Nat} {T : TypeId} (s : Blk1 W X T) (e : World → Prop) (hg : ∀ w w', e w → Gr w w' → e w') (hs : ∀ w o v cs, BlockAt w X cs T → e w → e (w.setCell ⟨X, o, none⟩ v)) : Blk1 W X T :=
 ⟨s.cs, fun w => e w ∧ s.e w, fun w w' h g => ⟨hg _ _ h.1 g, s.grow _ _ h.2 g⟩, fun w o v cs hb h => ⟨hs _ _ _ _ hb h.1, s.set _ _ _ _ hb h.2⟩⟩
def rV (k : Int) (v1 v2 s2 a2 c3 : Nat) (l3 : List UInt8) : OpV := if k = 1 then ⟨1, v1, 0, s2, 0, 0, []⟩ else if k = 2 then ⟨2, v1, 0, 0, 0, 0, []⟩ else if k = 3 then ⟨3, v1, 0, s2, 0, 0, []⟩ else if k = 4 then ⟨4, v1, v2, 0, 0, 0, []⟩ else if k = 5 then ⟨5, v1, 0, 0, a2, 0, l3⟩ else if k = 6 then ⟨6, v1, 0, 0, a2, c3, []⟩ else if k = 7 then ⟨7, v1, 0, 0, a2, c3, []⟩ else if k = 8 then ⟨8, 0, 0, 0, 0, 0, []⟩ else if k = 9 then ⟨9, v1, 0, 0, a2, c3, []⟩ else ⟨0, v1, 0, 0, 0, 0, []⟩






theorem textF_any (k nd m ok ov ot os oa oc : Int) (D P : Option Addr) (n q pn pq : Nat) (f : Bool) (B : Bool) (w : World) (h : ∀ W, Gr w W → Calls Tryz.prog 22 #[.agg #[.int .i64 k, .int .i64 nd, .int .i64 m, .int .i64 ok, .int .u64 ov, .int .u64 ot, .int .i64 os, .int .i64 oa, .int .i64 oc, .slice D n q, .bool f, .slice P pn pq]] W (fun e w' => e = .returned (.bool B) ∧ Gr W w')) :
  Calls Tryz.prog 69 #[.agg #[.int .i64 k, .int .i64 nd, .int .i64 m, .int .i64 ok, .int .u64 ov, .int .u64 ot, .int .i64 os, .int .i64 oa, .int .i64 oc, .slice D n q, .bool f, .slice P pn pq]] w fun e w' => e = .returned (.bool (!B)) ∧ Gr w w' := by
 have H := Lib.hid h; clear h
 go_enter Tryz.func69, Tryz.ntmps69
 go_wp2_with (go_at_call 22; ((with_reducible refine (H.out _ gri).mono ?_); rintro _ _ ⟨rfl, g1, rfl⟩))
 go_ret
 exact ⟨rfl, gri⟩
def noMay (l : List ActV) : Bool := l.any fun a => !a.may
set_option maxRecDepth 100000 in
set_option maxHeartbeats 4000000 in
theorem indexFuncA_any (A : Option Addr) (n c : Nat) (l : List ActV) (w : World) (hl : l.length = n) (hn : n ≤ 9223372036854775807) (h : RowA w A l) :
  Calls Tryz.prog 97 #[.slice A n c, .func (.func 69) #[] #[]] w (SomeIdx (noMay l) w) := by
 have HL := Lib.hid hl; have H := Lib.hid h; clear hl h
 go_enter Tryz.func97, Tryz.ntmps97
 go_wp2
 go_loopw [8] (fun i wr => ∃ k : Nat, i = .int .i64 k ∧ k ≤ n ∧ Hid ((l.take k).any (fun a => !a.may) = false) ∧ Gr w wr) (fun i _ => n - (intOf i).toNat)
 case atStart => exact ⟨0, rfl, Nat.zero_le _, Lib.hid (by simp), Gr.refl _⟩
 case round =>
  obtain ⟨j, rfl, hj, hg, gj, rfl⟩ := hrel
  by_cases hlt : j < n
  ·have hjl : j < l.length := by have := HL.out; omega
   have hgj := List.getElem?_eq_getElem hjl
   obtain ⟨b, o, rfl, hb, hc⟩ := (H.out.gr (Gr.of (grown_below w gj))).at_ (by rintro rfl; simp at hjl)
   obtain ⟨Ad, qd, Av, qv, hm⟩ := hc j _ hgj
   have hta := take_any (fun a : ActV => !a.may) l j _ hgj
   generalize l[j] = a at *
   obtain ⟨k, nd, m, ⟨ok, ov, ot, os, oa, oc, od⟩, f, pk⟩ := a
   have x0 : (grown w gj).cell? ⟨b, o + j * 12, none⟩ = some (.int .i64 k) := hm.c 0 _ rfl
   have x1 : (grown w gj).cell? ⟨b, o + j * 12 + 1, none⟩ = some (.int .i64 nd) := hm.c 1 _ rfl
   have x2 : (grown w gj).cell? ⟨b, o + j * 12 + 2, none⟩ = some (.int .i64 m) := hm.c 2 _ rfl
   have x3 : (grown w gj).cell? ⟨b, o + j * 12 + 3, none⟩ = some (.int .i64 ok) := hm.c 3 _ rfl
   have x4 : (grown w gj).cell? ⟨b, o + j * 12 + 4, none⟩ = some (.int .u64 ov) := hm.c 4 _ rfl
   have x5 : (grown w gj).cell? ⟨b, o + j * 12 + 5, none⟩ = some (.int .u64 ot) := hm.c 5 _ rfl
   have x6 : (grown w gj).cell? ⟨b, o + j * 12 + 6, none⟩ = some (.int .i64 os) := hm.c 6 _ rfl
   have x7 : (grown w gj).cell? ⟨b, o + j * 12 + 7, none⟩ = some (.int .i64 oa) := hm.c 7 _ rfl
   have x8 : (grown w gj).cell? ⟨b, o + j * 12 + 8, none⟩ = some (.int .i64 oc) := hm.c 8 _ rfl
   have x9 : (grown w gj).cell? ⟨b, o + j * 12 + 9, none⟩ = some (.slice Ad od.length qd) := hm.c 9 _ rfl
   have x10 : (grown w gj).cell? ⟨b, o + j * 12 + 10, none⟩ = some (.bool f) := hm.c 10 _ rfl
   have x11 : (grown w gj).cell? ⟨b, o + j * 12 + 11, none⟩ = some (.slice Av pk.length qv) := hm.c 11 _ rfl
   have hji : (j : Int) < (n : Int) := by omega
   have HMA := Lib.hid (fun W (hW : Gr (grown w gj) W) => textF_any k nd m ok ov ot os oa oc Ad Av od.length qd pk.length qv f (mayActB k nd m ok ov ot os oa oc f od.length pk.length od pk) W (fun V hV => mayAct_any k nd m ok ov ot os oa oc Ad Av od.length qd pk.length qv f od pk V rfl hm.bq (hm.d.gr (hW.trans hV)) rfl hm.bv (hm.v.gr (hW.trans hV))))
   have HTA := Lib.hid hta
   have hmay : (⟨k, nd, m, ⟨ok, ov, ot, os, oa, oc, od⟩, f, pk⟩ : ActV).may = mayActB k nd m ok ov ot os oa oc f od.length pk.length od pk := rfl
   have HMAY := Lib.hid hmay
   have HLJ := Lib.hid hgj
   clear hc hm hta hmay hgj hjl
   rcases Bool.eq_false_or_eq_true (mayActB k nd m ok ov ot os oa oc f od.length pk.length od pk) with hq | hq
   ·rw [hq] at HMA HMAY
    go_wp2_with (go_at_call 69; ((with_reducible refine (HMA.out _ gri).mono ?_); rintro _ _ ⟨rfl, g2, rfl⟩))
    go_roundw
    case rel => exact ⟨j + 1, by go_num, by omega, Lib.hid (by rw [HTA.out, hg.out, HMAY.out]; rfl), gri⟩
    case measure => simp [intOf]; omega
   ·rw [hq] at HMA HMAY
    have hp : decide (0 ≤ (j : Int)) = noMay l := by
     have : noMay l = true := List.any_eq_true.2 ⟨_, List.mem_of_getElem? HLJ.out, by rw [HMAY.out]; rfl⟩
     rw [this]; simp
    have HP := Lib.hid hp; clear hp
    go_wp2_with (go_at_call 69; ((with_reducible refine (HMA.out _ gri).mono ?_); rintro _ _ ⟨rfl, g2, rfl⟩))
    go_ret
    exact ⟨j, HP.out, rfl, gri⟩
  ·have hp : decide (0 ≤ (-1 : Int)) = noMay l := by
    have := hg.out
    rw [List.take_of_length_le (by have := HL.out; omega)] at this
    rw [noMay, this]; rfl
   have HP := Lib.hid hp; clear hp
   have hji : ¬ (j : Int) < (n : Int) := by omega
   go_wp2
   go_ret
   exact ⟨-1, HP.out, rfl, gri⟩
theorem containsA_any (A : Option Addr) (n c : Nat) (l : List ActV) (w : World) (hl : l.length = n) (hn : n ≤ 9223372036854775807) (h : RowA w A l) :
  Calls Tryz.prog 68 #[.slice A n c, .func (.func 69) #[] #[]] w fun e w' => e = .returned (.bool (noMay l)) ∧ Gr w w' := by
 have HI := Lib.hid (indexFuncA_any A n c l w hl hn h); clear h hl
 go_enter Tryz.func68, Tryz.ntmps68
 go_wp2_with (go_at_call 97; ((with_reducible refine HI.out.mono ?_); rintro _ _ ⟨r, hr, rfl, g, rfl⟩; have HR := Lib.hid hr; clear hr))
 go_ret
 exact ⟨by rw [← HR.out]; rfl, gri⟩
def tE (m0 m1 d0 d1 g : Int) (l : List ActV) : Int := if mayStB m0 m1 d0 d1 g && !noMay l then (if 5000 < l.length then 3 else 0) else 2
def tS (m0 m1 d0 d1 g : Int) (l : List ActV) : ByteArray := if tE m0 m1 d0 d1 g l = 0 then ⟨(scTextL m0 m1 d0 d1 g l).toArray⟩ else ⟨#[]⟩
theorem noMay_no {l : List ActV} (h : noMay l = false) : ∀ a ∈ l, a.may = true := by
 intro a ha
 rw [noMay, List.any_eq_false] at h
 simpa using h a ha
theorem bldAt_gr {T e : TypeId} {B b : Nat} {p : Value} {bs : List Value} {w w' : World} (h : Lib.BuilderAtF T e B b p bs w) (g : Gr w w') : Lib.BuilderAtF T e B b p bs w' := by
 obtain ⟨hB, v, hb, hown, hne⟩ := h
 refine ⟨hB, v, (g.below.block b (Array.getElem?_eq_some_iff.1 hb).1).trans hb, ⟨hown.1, ?_⟩, hne⟩
 rcases hown.2 with hn | ⟨gg, cap, cur, fz, hv, hbg, hg, rest⟩
 ·exact .inl hn
 ·exact .inr ⟨gg, cap, cur, fz, hv, hbg, (g.below.block gg (Array.getElem?_eq_some_iff.1 hg).1).trans hg, rest⟩
theorem bld_gr {T e : TypeId} {B b : Nat} {bs : List Value} {w w' : World} (h : Lib.IsBuilderF T e B b bs w) (g : Gr w w') : Lib.IsBuilderF T e B b bs w' := h.elim (fun h => .inl (bldAt_gr h g)) (fun h => .inr (bldAt_gr h g))
theorem glue_take_le (L : List (List UInt8)) (j : Nat) : (glueL (L.take j)).length ≤ (glueL L).length := by
 have h : ∀ (p q : List (List UInt8)), glueL (p ++ q) = glueL p ++ glueL q := by
  intro p q
  induction p with
  | nil => rfl
  | cons x p ih => simp [glueL, ih]
 conv => rhs; rw [← List.take_append_drop j L, h, List.length_append]
 omega
theorem line_cells (l : List UInt8) : Lib.strCells (({ data := l.toArray } : ByteArray) ++ { data := #[10] }) = Lib.byteCells (l ++ [10]) := by
 rw [Lib.strCells_eq]; congr 1
theorem line_size (l : List UInt8) : (({ data := l.toArray } : ByteArray) ++ { data := #[10] }).size = l.length + 1 := by
 rw [← Lib.strCells_length, line_cells, Lib.byteCells_length, List.length_append]; rfl
set_option maxRecDepth 100000 in
set_option maxHeartbeats 8000000 in
theorem text_any (m0 m1 d0 d1 g : Int) (A : Option Addr) (n q : Nat) (l : List ActV) (w : World) [hk : Tb w] (hl : l.length = n) (hn : n ≤ 9223372036854775807) (h : RowA w A l) (hlen : mayStB m0 m1 d0 d1 g = true → noMay l = false → n ≤ 5000 → (scTextL m0 m1 d0 d1 g l).length ≤ 16777216) :
  Calls Tryz.prog 29 #[.agg #[.int .i64 m0, .int .i64 m1, .int .i64 d0, .int .i64 d1, .int .i64 g, .slice A n q]] w fun e w' => e = .returned (.tuple #[.string (tS m0 m1 d0 d1 g l), .int .i64 (tE m0 m1 d0 d1 g l)]) ∧ Gr w w' := by
 have HL := Lib.hid hl; have H := Lib.hid h; have HLEN := Lib.hid hlen; clear hl h hlen
 have HMS := Lib.hid (fun W => mayStage_any m0 m1 d0 d1 g W)
 have HCO := Lib.hid (fun W (hW : Gr w W) => containsA_any A n q l W HL.out hn (H.out.gr hW))
 rcases Bool.eq_false_or_eq_true (mayStB m0 m1 d0 d1 g) with hs | hs
 ·rw [hs] at HMS
  rcases Bool.eq_false_or_eq_true (noMay l) with hb | hb
  ·rw [hb] at HCO
   have hE : tE m0 m1 d0 d1 g l = 2 := by simp [tE, hs, hb]
   have hS : tS m0 m1 d0 d1 g l = ⟨#[]⟩ := by simp [tS, hE]
   have HE := Lib.hid hE; have HS := Lib.hid hS; clear hE hS hs hb
   go_enter Tryz.func29, Tryz.ntmps29
   go_wp2_with (first | (go_at_call 67; ((with_reducible refine (HMS.out _).mono ?_); rintro _ _ ⟨rfl, g1, rfl⟩)) | (go_at_call 68; ((with_reducible refine (HCO.out _ gri).mono ?_); rintro _ _ ⟨rfl, g2, rfl⟩)))
   go_ret2
   exact ⟨by rw [HE.out, HS.out]; rfl, gri⟩
  ·rw [hb] at HCO
   have HCL := Lib.hid (HLEN.out hs hb)
   have HNM := Lib.hid hb
   have hbd : StBd m0 m1 d0 d1 g := ⟨by simp only [mayStB, Bool.and_eq_true, decide_eq_true_eq] at hs; omega⟩
   have HBD := Lib.hid hbd
   by_cases h5 : n ≤ 5000
   ·have h5i : ¬ (5000 : Int) < (n : Int) := by omega
    have h6 : ¬ 5000 < l.length := by have := HL.out; omega
    have hE : tE m0 m1 d0 d1 g l = 0 := by simp [tE, hs, hb, h6]
    have hS : tS m0 m1 d0 d1 g l = ⟨(scTextL m0 m1 d0 d1 g l).toArray⟩ := by rw [tS, if_pos hE]
    have HE := Lib.hid hE; have HS := Lib.hid hS; have HSZ := Lib.hid (HCL.out h5); clear hE hS hs hb hbd HCL h6
    go_enter Tryz.func29, Tryz.ntmps29
    go_upto_region 5 with (first | (go_at_call 67; ((with_reducible refine (HMS.out _).mono ?_); rintro _ _ ⟨rfl, g1, rfl⟩)) | (go_at_call 68; ((with_reducible refine (HCO.out _ gri).mono ?_); rintro _ _ ⟨rfl, g2, rfl⟩)))
    have hbox : BlockAt (grown (grown (w.alloc (.cells #[.int .i64 m0, .int .i64 m1, .int .i64 d0, .int .i64 d1, .int .i64 g, .slice A n q] 58)) g1) g2) w.heap.size #[.int .i64 m0, .int .i64 m1, .int .i64 d0, .int .i64 d1, .int .i64 g, .slice A n q] 58 := inferInstance
    have hgw : Gr w (grown (grown (w.alloc (.cells #[.int .i64 m0, .int .i64 m1, .int .i64 d0, .int .i64 d1, .int .i64 g, .slice A n q] 58)) g1) g2) := gri
    haveI htb3 : Tb (grown (grown (w.alloc (.cells #[.int .i64 m0, .int .i64 m1, .int .i64 d0, .int .i64 d1, .int .i64 g, .slice A n q] 58)) g1) g2) := inferInstance
    generalize grown (grown (w.alloc (.cells #[.int .i64 m0, .int .i64 m1, .int .i64 d0, .int .i64 d1, .int .i64 g, .slice A n q] 58)) g1) g2 = W3 at *
    have x0 : W3.cell? ⟨w.heap.size, 0, none⟩ = some (.int .i64 m0) := (@block_cells _ _ 0 _ _ hbox).trans rfl
    have x1 : W3.cell? ⟨w.heap.size, 1, none⟩ = some (.int .i64 m1) := (@block_cells _ _ 1 _ _ hbox).trans rfl
    have x2 : W3.cell? ⟨w.heap.size, 2, none⟩ = some (.int .i64 d0) := (@block_cells _ _ 2 _ _ hbox).trans rfl
    have x3 : W3.cell? ⟨w.heap.size, 3, none⟩ = some (.int .i64 d1) := (@block_cells _ _ 3 _ _ hbox).trans rfl
    have x4 : W3.cell? ⟨w.heap.size, 4, none⟩ = some (.int .i64 g) := (@block_cells _ _ 4 _ _ hbox).trans rfl
    have x5 : W3.cell? ⟨w.heap.size, 5, none⟩ = some (.slice A n q) := (@block_cells _ _ 5 _ _ hbox).trans rfl
    haveI : Old w.heap.size W3 := hbox.old
    have HBOX := Lib.hid hbox; have HGW := Lib.hid hgw; clear hbox hgw
    have hI0 : Lib.IsBuilderF 110 5 W3.heap.size W3.heap.size (Lib.byteCells []) (W3.alloc (.cells #[.pointer none, .slice none 0 0] 110)) := Lib.IsBuilderF.of (Lib.fresh_isBuilder 110 5 W3)
    have HI0 := Lib.hid hI0; clear hI0
    have HST := Lib.hid (fun W (_ : Tb W) => stageText_any m0 m1 d0 d1 g HBD.out W)
    have hstl := stageWords_len HBD.out
    go_upto_region 7 with ((go_at_call 71; ((with_reducible refine (HST.out _ inferInstance).mono ?_); rintro _ _ ⟨rfl, g3, rfl⟩)))
    have hsz0 : (Lib.byteCells []).length + (({ data := (stageTextL m0 m1 d0 d1 g).toArray } : ByteArray) ++ { data := #[10] }).size ≤ 140737488355328 := by rw [line_size]; simp [Lib.byteCells]; omega
    have HSZ0 := Lib.hid hsz0; clear hsz0 hstl
    go_wp2_with ((go_at_call 70; (refine (writeString_k W3.heap.size W3.heap.size (Lib.byteCells []) _ _ (bld_gr HI0.out gri) HSZ0.out (gri : Gr W3 _).below.size).mono ?_); rintro _ W4 ⟨rfl, h4, b4, k4⟩; have x5b : W4.cell? ⟨w.heap.size, 5, none⟩ = some (.slice A n q) := (b4.cell (p := ⟨w.heap.size, 5, none⟩) (inferInstance : Old w.heap.size W3).lt).trans ((@block_cells _ _ 5 _ _ (HBOX.out.gr gri)).trans rfl)))
    go_loopw [28] (fun iv wr => ∃ j : Nat, iv = .int .i64 j ∧ j ≤ n ∧ Lib.IsBuilderF 110 5 W3.heap.size W3.heap.size (Lib.byteCells (glueL ((linesOf m0 m1 d0 d1 g l).take (j + 1)))) wr ∧ Below W3.heap.size W3 wr) (fun iv _ => n - (intOf iv).toNat)
    case atStart =>
     have h4' : Lib.IsBuilderF 110 5 W3.heap.size W3.heap.size _ W4 := Or.inr h4
     rw [line_cells] at h4'
     exact ⟨0, rfl, Nat.zero_le _, by simpa [linesOf, glueL, Lib.byteCells] using h4', (gri : Gr W3 _).below.trans b4⟩
    case round =>
     obtain ⟨j, rfl, hj, hI, hbw⟩ := hrel
     have hlj : ((Lib.byteCells (glueL ((linesOf m0 m1 d0 d1 g l).take (j + 1)))).length : Int) ≤ 16777216 := by
      have h1 := glue_take_le (linesOf m0 m1 d0 d1 g l) (j + 1)
      have h2 := HSZ.out
      unfold scTextL at h2
      rw [Lib.byteCells_length]
      omega
     have HI := Lib.hid hI; clear hI
     haveI : From W3 wr := ⟨hbw.size⟩
     haveI : GrC W3 wr := ⟨hbw⟩
     by_cases hlt : j < n
     ·have hjl : j < l.length := by have := HL.out; omega
      have hgj := List.getElem?_eq_getElem hjl
      obtain ⟨b, o, rfl, hb, hc⟩ := (H.out.gr HGW.out).at_ (by rintro rfl; simp at hjl)
      obtain ⟨Ad, qd, Av, qv, hm⟩ := hc j _ hgj
      have hmay := noMay_no HNM.out _ (List.mem_of_getElem? hgj)
      have htk : (linesOf m0 m1 d0 d1 g l).take (j + 1 + 1) = (linesOf m0 m1 d0 d1 g l).take (j + 1) ++ [(l[j]).text] := by
       have h1 : (linesOf m0 m1 d0 d1 g l)[j + 1]? = some (l[j]).text := by
        rw [linesOf, List.getElem?_cons_succ, List.getElem?_map, hgj]; rfl
       rw [List.take_add_one (i := j + 1), h1]; rfl
      generalize l[j] = a at *
      obtain ⟨k, nd, m, ⟨ok, ov, ot, os, oa, oc, od⟩, f, pk⟩ := a
      have v0 : wr.cell? ⟨b, o + j * 12, none⟩ = some (.int .i64 k) := (hbw.cell (p := ⟨b, o + j * 12, none⟩) hb).trans (hm.c 0 _ rfl)
      have v1 : wr.cell? ⟨b, o + j * 12 + 1, none⟩ = some (.int .i64 nd) := (hbw.cell (p := ⟨b, o + j * 12 + 1, none⟩) hb).trans (hm.c 1 _ rfl)
      have v2 : wr.cell? ⟨b, o + j * 12 + 2, none⟩ = some (.int .i64 m) := (hbw.cell (p := ⟨b, o + j * 12 + 2, none⟩) hb).trans (hm.c 2 _ rfl)
      have v3 : wr.cell? ⟨b, o + j * 12 + 3, none⟩ = some (.int .i64 ok) := (hbw.cell (p := ⟨b, o + j * 12 + 3, none⟩) hb).trans (hm.c 3 _ rfl)
      have v4 : wr.cell? ⟨b, o + j * 12 + 4, none⟩ = some (.int .u64 ov) := (hbw.cell (p := ⟨b, o + j * 12 + 4, none⟩) hb).trans (hm.c 4 _ rfl)
      have v5 : wr.cell? ⟨b, o + j * 12 + 5, none⟩ = some (.int .u64 ot) := (hbw.cell (p := ⟨b, o + j * 12 + 5, none⟩) hb).trans (hm.c 5 _ rfl)
      have v6 : wr.cell? ⟨b, o + j * 12 + 6, none⟩ = some (.int .i64 os) := (hbw.cell (p := ⟨b, o + j * 12 + 6, none⟩) hb).trans (hm.c 6 _ rfl)
      have v7 : wr.cell? ⟨b, o + j * 12 + 7, none⟩ = some (.int .i64 oa) := (hbw.cell (p := ⟨b, o + j * 12 + 7, none⟩) hb).trans (hm.c 7 _ rfl)
      have v8 : wr.cell? ⟨b, o + j * 12 + 8, none⟩ = some (.int .i64 oc) := (hbw.cell (p := ⟨b, o + j * 12 + 8, none⟩) hb).trans (hm.c 8 _ rfl)
      have v9 : wr.cell? ⟨b, o + j * 12 + 9, none⟩ = some (.slice Ad od.length qd) := (hbw.cell (p := ⟨b, o + j * 12 + 9, none⟩) hb).trans (hm.c 9 _ rfl)
      have v10 : wr.cell? ⟨b, o + j * 12 + 10, none⟩ = some (.bool f) := (hbw.cell (p := ⟨b, o + j * 12 + 10, none⟩) hb).trans (hm.c 10 _ rfl)
      have v11 : wr.cell? ⟨b, o + j * 12 + 11, none⟩ = some (.slice Av pk.length qv) := (hbw.cell (p := ⟨b, o + j * 12 + 11, none⟩) hb).trans (hm.c 11 _ rfl)
      haveI : Old b wr := ⟨Nat.lt_of_lt_of_le hb hbw.size⟩
      have hji : (j : Int) < (n : Int) := by omega
      have HTX := Lib.hid (fun W (_ : Tb W) (hW : Gr W3 W) => actText_any k nd m ok ov ot os oa oc Ad Av od.length qd pk.length qv f od pk W hm.n0 hm.n1 hm.m0 hm.m1 hm.bd rfl hm.ld (hm.d.gr hW) rfl hm.lv hm.pk (hm.v.gr hW) hmay)
      obtain ⟨T, hT⟩ : ∃ T, (⟨k, nd, m, ⟨ok, ov, ot, os, oa, oc, od⟩, f, pk⟩ : ActV).text = T := ⟨_, rfl⟩
      have hT2 : actTextL k nd m ok ov ot os oa oc f od pk = T := hT
      rw [hT2] at HTX
      rw [hT] at htk
      have hsz9 : (Lib.byteCells (glueL ((linesOf m0 m1 d0 d1 g l).take (j + 1)))).length + (({ data := T.toArray } : ByteArray) ++ { data := #[10] }).size ≤ 140737488355328 := by
       have h1 := glue_take_le (linesOf m0 m1 d0 d1 g l) (j + 1 + 1)
       rw [htk, glueL_snoc] at h1
       have h2 := HSZ.out
       unfold scTextL at h2
       rw [line_size, Lib.byteCells_length]
       simp only [List.length_append] at h1
       omega
      have hTl : T.length ≤ 16777216 := by
       have h1 := glue_take_le (linesOf m0 m1 d0 d1 g l) (j + 1 + 1)
       rw [htk, glueL_snoc] at h1
       have h2 := HSZ.out
       unfold scTextL at h2
       simp only [List.length_append] at h1
       omega
      have HS9 := Lib.hid hsz9; have HTK := Lib.hid htk; have HBW := Lib.hid hbw
      clear hm hc hmay hgj hjl hT hT2 hsz9 htk
      haveI : Tb wr := htb3.of_below hbw
      go_wp2_with (first | (go_at_call 72; (refine (Tryz.Builder_Len_f W3.heap.size W3.heap.size _ _ (bld_gr HI.out gri)).mono ?_); rintro _ _ ⟨rfl, rfl⟩) | (go_at_call 42; ((with_reducible refine (HTX.out _ inferInstance gri).mono ?_); rintro _ _ ⟨rfl, g5, rfl⟩)) | (go_at_call 70; (refine (writeString_k W3.heap.size W3.heap.size _ _ _ (bld_gr HI.out gri) HS9.out (gri : Gr W3 _).below.size).mono ?_); rintro _ W6 ⟨rfl, h6, b6, k6⟩))
      go_roundw
      case rel =>
       have h6' : Lib.IsBuilderF 110 5 W3.heap.size W3.heap.size _ W6 := Or.inr h6
       rw [line_cells, ← Lib.byteCells_append, ← List.append_assoc, ← glueL_snoc, ← HTK.out] at h6'
       exact ⟨j + 1, by go_num, by omega, h6', (gri : Gr W3 _).below.trans b6⟩
      case measure => simp [intOf]; omega
     ·have hji : ¬ (j : Int) < (n : Int) := by omega
      have hall : (linesOf m0 m1 d0 d1 g l).take (j + 1) = linesOf m0 m1 d0 d1 g l := List.take_of_length_le (by have := HL.out; simp [linesOf]; omega)
      have hI2 := HI.out
      rw [hall] at hI2 hlj
      have HI2 := Lib.hid hI2; clear hI2 hall HI
      obtain ⟨N, hN⟩ : ∃ N : Nat, (Lib.byteCells (glueL (linesOf m0 m1 d0 d1 g l))).length = N := ⟨_, rfl⟩
      have HLN := Lib.hid (show Calls Tryz.prog 72 #[.pointer (some ⟨W3.heap.size, 0, none⟩)] wr (fun e w' => e = .returned (.int .i64 (N : Int)) ∧ w' = wr) from hN ▸ Tryz.Builder_Len_f W3.heap.size W3.heap.size _ wr HI2.out)
      rw [hN] at hlj
      clear hN
      obtain ⟨T, hT⟩ : ∃ T, glueL (linesOf m0 m1 d0 d1 g l) = T := ⟨_, rfl⟩
      have HST9 := Lib.hid (show Calls Tryz.prog 73 #[.pointer (some ⟨W3.heap.size, 0, none⟩)] wr (fun e w' => e = .returned (.string ⟨T.toArray⟩) ∧ (Lib.IsBuilderF 110 5 W3.heap.size W3.heap.size (Lib.byteCells T) w' ∧ Below W3.heap.size wr w')) from hT ▸ Tryz.Builder_String_any_f W3.heap.size W3.heap.size (glueL (linesOf m0 m1 d0 d1 g l)) _ HI2.out hbw.size)
      have HTT := Lib.hid hT; have HBW := Lib.hid hbw
      clear hT hbw
      have hlj2 : ¬ (16777216 : Int) < (N : Int) := by omega
      clear hlj
      go_wp2_with (first | (go_at_call 72; (with_reducible refine (HLN.out).mono ?_); rintro _ _ ⟨rfl, rfl⟩) | (go_at_call 73; (with_reducible refine (HST9.out).mono ?_); rintro _ W7 ⟨rfl, _, b7⟩))
      go_ret2
      exact ⟨by rw [HE.out, HS.out, ← HTT.out]; rfl, Gr.of (HGW.out.below.trans ((HBW.out.trans b7).mono HGW.out.below.size))⟩
   ·have h5i : (5000 : Int) < (n : Int) := by omega
    have h6 : 5000 < l.length := by have := HL.out; omega
    have hE : tE m0 m1 d0 d1 g l = 3 := by simp [tE, hs, hb, h6]
    have hS : tS m0 m1 d0 d1 g l = ⟨#[]⟩ := by simp [tS, hE]
    have HE := Lib.hid hE; have HS := Lib.hid hS; clear hE hS hs hb hbd h6
    go_enter Tryz.func29, Tryz.ntmps29
    go_wp2_with (first | (go_at_call 67; ((with_reducible refine (HMS.out _).mono ?_); rintro _ _ ⟨rfl, g1, rfl⟩)) | (go_at_call 68; ((with_reducible refine (HCO.out _ gri).mono ?_); rintro _ _ ⟨rfl, g2, rfl⟩)))
    go_ret2
    exact ⟨by rw [HE.out, HS.out]; rfl, gri⟩
 ·rw [hs] at HMS
  have hE : tE m0 m1 d0 d1 g l = 2 := by simp [tE, hs]
  have hS : tS m0 m1 d0 d1 g l = ⟨#[]⟩ := by simp [tS, hE]
  have HE := Lib.hid hE; have HS := Lib.hid hS; clear hE hS hs
  go_enter Tryz.func29, Tryz.ntmps29
  go_wp2_with ((go_at_call 67; ((with_reducible refine (HMS.out _).mono ?_); rintro _ _ ⟨rfl, g1, rfl⟩)))
  go_ret2
  exact ⟨by rw [HE.out, HS.out]; rfl, gri⟩
structure OwnB (base : Nat) (W : World) (v : Value) (l : List UInt8) : Prop where
 ex : ∃ g cap, v = .slice (some ⟨g, 0, none⟩) l.length cap ∧ base ≤ g ∧ g < W.heap.size ∧ l.length ≤ cap ∧ (∀ j x, l[j]? = some x → W.cell? ⟨g, j, none⟩ = some (bv x)) ∧ (∀ j, l.length ≤ j → j < cap → (W.cell? ⟨g, j, none⟩).isSome = true ∧ W.frozen? ⟨g, j, none⟩ = false)
theorem OwnB.gr {base : Nat} {W W' : World} {v : Value} {l : List UInt8} (h : OwnB base W v l) (k : Gr W W') : OwnB base W' v l := by
 obtain ⟨g, cap, hv, hb, hg, hc, h1, h2⟩ := h.ex
 refine ⟨g, cap, hv, hb, Nat.lt_of_lt_of_le hg k.below.size, hc, fun j x hj => (k.below.cell (p := ⟨g, j, none⟩) hg).trans (h1 j x hj), fun j hj hjc => ?_⟩
 rw [k.below.cell (p := ⟨g, j, none⟩) hg, k.below.frozen (p := ⟨g, j, none⟩) hg]
 exact h2 j hj hjc
theorem OwnB.row {base : Nat} {W : World} {v : Value} {l : List UInt8} (h : OwnB base W v l) : ∃ A cap, v = .slice A l.length cap ∧ l.length ≤ cap ∧ Row bv W A l := by
 obtain ⟨g, cap, hv, hb, hg, hc, h1, h2⟩ := h.ex
 exact ⟨_, cap, hv, hc, ⟨fun _ => ⟨g, 0, rfl, hg, fun j x hj => by rw [Nat.zero_add]; exact h1 j x hj⟩⟩⟩

end Go.Proofs.YtgjdgafoidppaaaGreatDoor
namespace Go.Proofs.YtgjdgafoidppaaaGreatDoor
open Go.RowKit Go.ChangeShapes Go.WideShapes
set_option linter.unusedVariables false
set_option linter.unusedSimpArgs false
set_option linter.unnecessarySimpa false
structure Came (W : World) (k v t s a c : Int) (D : Option Addr) (n q : Nat) (l : List UInt8) : Prop where
 b : Bd v t s a c
 len : l.length = n
 cap : n ≤ q
 big : n ≤ 9223372036854775807
 row : Row bv W D l
theorem has_i64 {n : Int} (h : IntKind.i64.has n) : -9223372036854775808 ≤ n ∧ n ≤ 9223372036854775807 := by
 simp [IntKind.has, IntKind.min, IntKind.max, IntKind.bits, IntKind.signed] at h; omega
theorem has_u64 {n : Int} (h : IntKind.u64.has n) : 0 ≤ n ∧ n ≤ 18446744073709551615 := by
 simp [IntKind.has, IntKind.min, IntKind.max, IntKind.bits, IntKind.signed] at h; omega
section
variable {H : Type} {enc : TypeId × Value → H}
set_option maxRecDepth 100000 in
theorem open_nums {α : Type} {W : World} {fuel : Nat} {t e : TypeId} {k : IntKind} (en : α → Value) (f : Int → α) (ht : Tryz.prog.underlying t = some (.slice e)) (he : Tryz.prog.underlying e = some (.int k)) (hc1 : Tryz.prog.cellsOf e = 1) (hf : ∀ z, (Lit.int k z).wf = true → en (f z) = .int k z) {c : Value} {x : DataW H × List MemPlace}
  (h : DataW.trod enc Tryz.prog W 0 (fun _ => true) true fuel t [c] = some x) : ∃ (D : Option Addr) (q : Nat) (l : List α) (zs : List Int), c = .slice D l.length q ∧ l.length ≤ q ∧ q ≤ maxLen ∧ Row en W D l ∧ l = zs.map f ∧ (∀ z ∈ zs, (Lit.int k z).wf = true) ∧ (D = none → q = 0) := by
 rcases open_ints ht he hc1 h with ⟨h0, _⟩ | ⟨a, len, cap, zs, h0, _, hl, hm, hz, _, hcell, hw⟩
 ·obtain rfl : c = .slice none 0 0 := by simpa using h0
  exact ⟨none, 0, [], [], rfl, Nat.le_refl _, Nat.zero_le _, Row.nil, rfl, fun z hz => by simp at hz, fun _ => rfl⟩
 ·obtain rfl : c = .slice (some a) len cap := by simpa using h0
  rw [if_pos rfl] at hz
  have hlen : ((zs.take len).map f).length = len := by rw [List.length_map, List.length_take]; omega
  refine ⟨some a, cap, (zs.take len).map f, zs.take len, by rw [hlen], by rw [hlen]; exact hl, hm, ⟨fun hne => ?_⟩, rfl, fun z hz => hw z (List.mem_of_mem_take hz), fun h => by cases h⟩
  have hpos : 0 < len := by
   rcases Nat.eq_zero_or_pos len with h | h
   ·subst h; simp at hne
   ·exact h
  obtain ⟨b, o, sp⟩ := a
  have h1 := hcell 0 (by omega)
  have hsp : sp = none := by
   cases sp with
   | none => rfl
   | some y => simp [Addr.add, World.cell?] at h1; split at h1 <;> simp at h1
  subst hsp
  have hadd : ∀ i, (⟨b, o, none⟩ : Addr).add i = ⟨b, o + i, none⟩ := fun i => by unfold Addr.add; split <;> simp_all
  refine ⟨b, o, rfl, ?_, fun j y hj => ?_⟩
  ·rcases Nat.lt_or_ge b W.heap.size with h | h
   ·exact h
   ·rw [hadd] at h1
    simp [World.cell?, Array.getElem?_eq_none h] at h1
  ·rw [List.getElem?_map] at hj
   have hjl : j < len := by
    rcases Nat.lt_or_ge j len with h | h
    ·exact h
    ·rw [List.getElem?_eq_none (by rw [List.length_take]; omega)] at hj; simp at hj
   rw [List.getElem?_take, if_pos hjl, List.getElem?_eq_getElem (by omega)] at hj
   simp only [Option.map_some, Option.some.injEq] at hj
   subst hj
   have h2 := hcell j (by omega)
   rw [hadd] at h2
   rw [h2, List.getD_eq_getElem?_getD, List.getElem?_eq_getElem (by omega)]
   simp only [Option.getD_some]
   rw [hf _ (hw _ (List.getElem_mem _))]
theorem u8_of {z : Int} (h : (Lit.int .u8 z).wf = true) : bv (UInt8.ofNat z.toNat) = .int .u8 z := by
 simp [Lit.wf, IntKind.min, IntKind.max, IntKind.bits, IntKind.signed] at h
 unfold bv
 have e : (UInt8.ofNat z.toNat).toNat = z.toNat := by rw [UInt8.toNat_ofNat', Nat.mod_eq_of_lt (by omega)]
 rw [e, Int.toNat_of_nonneg (by omega)]
set_option maxRecDepth 100000 in
theorem open_op_cells {W : World} {base : Nat} {cs : List Value} {fuel : Nat} {x : DataW H × List MemPlace} (hl : cs.length = 7) (hc : ∀ (i : Nat) c u, cs[i]? = some c → ([22, 23, 23, 3, 3, 3, 24] : List TypeId)[i]? = some u → Cell.okWide Tryz.prog W .any base u c)
  (h : DataW.trod enc Tryz.prog W 0 (fun _ => true) true fuel 26 cs = some x) :
  ∃ k v t s a c D n q l, cs = [.int .i64 k, .int .u64 v, .int .u64 t, .int .i64 s, .int .i64 a, .int .i64 c, .slice D n q] ∧ Came W k v t s a c D n q l := by
 match cs, hl with
 | [c0, c1, c2, c3, c4, c5, c6], _ =>
  obtain ⟨k, rfl, _⟩ := cell_int Tryz.underlying22 (hc 0 c0 _ rfl rfl)
  obtain ⟨v, rfl, hv⟩ := cell_int Tryz.underlying23 (hc 1 c1 _ rfl rfl)
  obtain ⟨t, rfl, ht⟩ := cell_int Tryz.underlying23 (hc 2 c2 _ rfl rfl)
  obtain ⟨s, rfl, hs⟩ := cell_int Tryz.underlying3 (hc 3 c3 _ rfl rfl)
  obtain ⟨a, rfl, ha⟩ := cell_int Tryz.underlying3 (hc 4 c4 _ rfl rfl)
  obtain ⟨c, rfl, hcc⟩ := cell_int Tryz.underlying3 (hc 5 c5 _ rfl rfl)
  obtain ⟨xs, n0, _, _, _, hlen, hf⟩ := DataW.trod_struct Tryz.underlying26 h
  obtain ⟨y6, hy⟩ : ∃ y, xs[6]? = some y := ⟨xs[6]'(by rw [hlen]; decide), List.getElem?_eq_getElem _⟩
  have h6 := hf 6 _ rfl
  rw [hy] at h6
  obtain ⟨D, q, l, zs, rfl, hq, hm, hr, _, _, _⟩ := open_nums bv (fun z => UInt8.ofNat z.toNat) Tryz.underlying24 Tryz.underlying5 (by kernel_rfl) (fun z hz => u8_of hz) (c := c6) h6
  have := has_u64 hv; have := has_u64 ht; have := has_i64 hs; have := has_i64 ha; have := has_i64 hcc
  unfold maxLen at hm
  exact ⟨k, v, t, s, a, c, D, l.length, q, l, rfl, ⟨⟨by omega, by omega, by omega, by omega, by omega, by omega, by omega, by omega, by omega, by omega⟩, rfl, hq, by omega, hr⟩⟩
end
end Go.Proofs.YtgjdgafoidppaaaGreatDoor
