/- script.Parse. Conditions: a text of at most 200000 bytes; the tables stand. slices.IndexFunc, slices.ContainsFunc at acts, with 'it may not be told'. Conditions: what is read stands in memory. script.Text. Conditions: what is read stands in memory; the tables stand; what is told is at most 16 MiB. The longest script that is told, and one act more (no program in sight). Conditions: none. 'known' of layer 26: the chapter's rows. Conditions: strconv's table stands. The walk of ScriptLimits. Conditions: the tables stand. -/
import Derived.Test.YtgjdgafoidppaaaDoorQ13
import Derived.Test.YtgjdgafoidppaaaDoorQ12
import Derived.Test.YtgjdgafoidppaaaDoorQ10
import Derived.Test.YtgjdgafoidppaaaDoorQ01
import Derived.Test.YtgjdgafoidppaaaDoorQ11
namespace Go.Proofs.YtgjdgafoidppaaaDoor
open Go.RowKit
set_option linter.unusedVariables false
set_option linter.unusedSimpArgs false
set_option linter.unnecessarySimpa false
def pS (t : ByteArray) (i : Nat) : Int := if pGood t then (nW (hdW (linesB t)) i : Nat) else 0
theorem actRes_bd (x : ByteArray) (hx : x.size ≤ 200000) : ABd (actRes x) := by
  unfold actRes
  split
  · have hw : ∀ y ∈ wordsB 32 x, y.size ≤ 200000 := fun y hy => Nat.le_trans (wordsB_each 32 x y hy) hx
    obtain ⟨h1, h2, h3, h4, h5, h6⟩ := acV_bd (aKOf (hdW (wordsB 32 x))) (aKOf_le _) (isForce (hdW (wordsB 32 x))) (wordsB 32 x) hw
    exact ⟨h1, by unfold acX; omega, by unfold acX; omega, by unfold acX; omega, by unfold acX; omega, Nat.le_trans h4 (by omega), Nat.le_trans h5 (by omega), ⟨fun n hn => by have := h6 n hn; omega, fun n hn => by have := h6 n hn; omega⟩⟩
  · exact ⟨⟨by decide, by decide, by decide, by decide, by decide, by decide, by decide, by decide, by decide, by decide⟩, by decide, by decide, by decide, by decide, by decide, by decide, ⟨fun n hn => by simp [zA] at hn, fun n hn => by simp [zA] at hn⟩⟩
theorem stageOf_row (s : ByteArray) (hs : s.size ≤ 800000) (G : Bool) (hG : goodSt s = G) (m0 m1 d0 d1 g E : Int) (h0 : (if G then (nW s 1 : Int) else 0) = m0) (h1 : (if G then (nW s 3 : Int) else 0) = m1) (h2 : (if G then (nW s 2 : Int) else 0) = d0) (h3 : (if G then (nW s 4 : Int) else 0) = d1) (h4 : (if G then (nW s 5 : Int) else 0) = g) (hE : (if G then (0 : Int) else 4) = E) (w : World) [hk : Tb w] [hm : Ml w] :
    Calls Tryd.prog 10 #[.string s] w fun e w' => e = .returned (.tuple #[.agg #[.int .i64 m0, .int .i64 m1, .int .i64 d0, .int .i64 d1, .int .i64 g], .int .i64 E]) ∧ Gr w w' := by
  have h := stageOf_any s (by omega) w
  subst hG h0 h1 h2 h3 h4 hE
  cases hg : goodSt s
  · rw [← st_no hg] at h; simpa [hg] using h
  · rw [← st_yes hg] at h; simpa [hg] using h
theorem hdW_app {p q : List ByteArray} (h : p ≠ []) : hdW (p ++ q) = hdW p := by
  cases p with
  | nil => exact absurd rfl h
  | cons x p => rfl
/-- Acts of the call's own, and their rows. -/
structure RA (base : Nat) (W : World) (v : Value) (xs : List AM) : Prop where
  own : OwnA base W v xs
  oks : ∀ x ∈ xs, x.Ok W
theorem RA.set_ {base : Nat} {W : World} {v : Value} {xs : List AM} (h : RA base W v xs) (B o : Nat) (u : Value) {cs : Array Value} [hB : BlockAt W B cs 52] : RA base (W.setCell ⟨B, o, none⟩ u) v xs :=
  ⟨h.own.set_ B o u (by decide), fun x hx => by
    obtain ⟨bd, n0, n1, m0, m1, ld, bq, d, lv, bv, pk, vv⟩ := h.oks x hx
    exact ⟨bd, n0, n1, m0, m1, ld, bq, d.imp fun _ z => z.set_ B o u (by decide), lv, bv, pk, vv.imp fun _ z => z.set_ B o u (by decide)⟩⟩
theorem RA.gr {base : Nat} {W W' : World} {v : Value} {xs : List AM} (h : RA base W v xs) (g : Gr W W') : RA base W' v xs := ⟨h.own.gr g, fun x hx => (h.oks x hx).gr g⟩
theorem RA.row {base : Nat} {W : World} {A : Option Addr} {n c : Nat} {xs : List AM} (h : RA base W (.slice A n c) xs) : RowA W A (xs.map (·.a)) := by
  obtain ⟨A2, c2, e, _, hr⟩ := h.own.row h.oks
  cases e
  exact hr
theorem RA.put {base : Nat} {W W' : World} {v v' : Value} {xs : List AM} {y : AM} (h : RA base W v xs) (hy : y.Ok W) (a : AppA base W xs y v' W') : RA base W' v' (xs ++ [y]) :=
  ⟨a.own, fun x hx => by
    rcases List.mem_append.1 hx with hx | hx
    · exact (h.oks x hx).keep a.keep
    · obtain rfl : x = y := by simpa using hx
      exact hy.keep a.keep⟩
set_option maxRecDepth 100000 in
set_option maxHeartbeats 8000000 in
theorem parse_any (t : ByteArray) (ht : t.size ≤ 200000) (w : World) [hk : Tb w] [hml : Ml w] : Calls Tryd.prog 21 #[.string t] w fun e w' => ∃ A q, e = .returned (.tuple #[.agg #[.int .i64 (pS t 1), .int .i64 (pS t 3), .int .i64 (pS t 2), .int .i64 (pS t 4), .int .i64 (pS t 5), .slice A (pActs t).length q], .int .i64 (pAt t), .int .i64 (pE t)]) ∧ (pActs t).length ≤ q ∧ RowA w' A (pActs t) ∧ Gr w w' := by
  have hsz : ¬ (16777216 : Int) < (t.size : Int) := by omega
  have hno : pGood t = false → pS t 1 = 0 ∧ pS t 3 = 0 ∧ pS t 2 = 0 ∧ pS t 4 = 0 ∧ pS t 5 = 0 ∧ pActs t = [] ∧ pE t = 4 := fun h => by simp [pS, pActs, pAt, pE, h]
  have hyes : pGood t = true → pS t 1 = (nW (hdW (linesB t)) 1 : Nat) ∧ pS t 3 = (nW (hdW (linesB t)) 3 : Nat) ∧ pS t 2 = (nW (hdW (linesB t)) 2 : Nat) ∧ pS t 4 = (nW (hdW (linesB t)) 4 : Nat) ∧ pS t 5 = (nW (hdW (linesB t)) 5 : Nat) ∧ pActs t = (linesB t).tail.map actRes ∧ pAt t = 0 ∧ pE t = 0 := fun h => by simp [pS, pActs, pAt, pE, h]
  have HNO := Lib.hid hno; have HYES := Lib.hid hyes; have HT := Lib.hid ht
  clear hno hyes ht
  obtain ⟨W1, hW1⟩ : ∃ W1, w.alloc (.cells #[.int .i64 0, .int .i64 0, .int .i64 0, .int .i64 0, .int .i64 0, .slice none 0 0] 52) = W1 := ⟨_, rfl⟩
  have hn1 : W1.heap.size = w.heap.size + 1 := by rw [← hW1]; simp
  go_enter Tryd.func21, Tryd.ntmps21
  go_wp2
  go_step3
  go_wp2
  go_step3
  go_wp2
  have HN1 := Lib.hid hn1; have HW1 := Lib.hid hW1
  have hgw : Gr w W1 := by rw [← hW1]; exact gri
  haveI htb1 : Tb W1 := by rw [← hW1]; infer_instance
  haveI hml1 : Ml W1 := by rw [← hW1]; infer_instance
  have HTB := Lib.hid (fun W (h : Gr W1 W) => (htb1.of_below h.below : Tb W))
  have HML := Lib.hid (fun W (h : Gr W1 W) => (hml1.keep (h.below.block _ (by have := htb1.size; omega)) : Ml W))
  go_loopw [6, 7, 8] (fun nv ev rv wr => ∃ (i : Nat) (pre : List ByteArray) (r : ByteArray) (m0 m1 d0 d1 g : Int) (xs : List AM) (v : Value), nv = .int .i64 i ∧ ev = .int .i64 0 ∧ rv = .string r ∧ pre.length = i ∧ LSt t pre r ∧ (0 < i → m0 = (nW (hdW pre) 1 : Nat) ∧ m1 = (nW (hdW pre) 3 : Nat) ∧ d0 = (nW (hdW pre) 2 : Nat) ∧ d1 = (nW (hdW pre) 4 : Nat) ∧ g = (nW (hdW pre) 5 : Nat)) ∧ BlockAt wr (w.heap.size + 1) #[.int .i64 m0, .int .i64 m1, .int .i64 d0, .int .i64 d1, .int .i64 g, v] 52 ∧ OwnA (w.heap.size + 2) wr v xs ∧ (∀ x ∈ xs, x.Ok wr) ∧ xs.map (·.a) = pre.tail.map actRes ∧ Gr W1 wr ∧ w.heap.size + 2 ≤ wr.heap.size) (fun _ _ rv _ => strLen rv)
  case atStart => exact ⟨0, [], t, 0, 0, 0, 0, 0, [], .slice none 0 0, rfl, rfl, rfl, rfl, LSt.start t, fun h => absurd h (Nat.lt_irrefl _), by rw [← hn1]; infer_instance, OwnA.nil _ _, (fun x hx => by simp at hx), rfl, gri, by simp [hn1]⟩
  case round =>
    obtain ⟨i, pre, r, m0, m1, d0, d1, g, xs, v, rfl, rfl, rfl, hpl, hst, hnum, bX, hown, hoks, hmap, hgr, hsz2⟩ := hrel
    have HGR := Lib.hid hgr; have HOW := Lib.hid hown; have HOK := Lib.hid hoks; have HMAP := Lib.hid hmap; have HST := Lib.hid hst; have HNUM := Lib.hid hnum; have HSZ := Lib.hid hsz2; have HPL := Lib.hid hpl
    clear hgr hown hoks hmap hst hnum hsz2 hpl
    haveI : Tb wr := HTB.out _ HGR.out
    haveI : Ml wr := HML.out _ HGR.out
    haveI : Old (w.heap.size + 1) wr := bX.old
    haveI : Old w.heap.size wr := ⟨by have := HSZ.out; omega⟩
    have HCUT := Lib.hid (fun W (hm : Ml W) => (show Calls Tryd.prog 47 #[.string r, .string ⟨#[10]⟩] W (fun e w' => e = .returned (.tuple #[.string (cutX r), .string (cutM r), .bool (cutB r)]) ∧ Gr W w') from cut_any r W (by have := HST.out.size; have := HT.out; omega)))
    have hrs : r.size ≤ 200000 := Nat.le_trans HST.out.size HT.out
    have hxs : (cutX r).size ≤ 200000 := Nat.le_trans (cutX_le r) hrs
    have HRS := Lib.hid hrs; have HXS := Lib.hid hxs; clear hrs hxs
    have bR : BlockAt wr w.heap.size #[.int .i64 0, .int .i64 0, .int .i64 0, .int .i64 0, .int .i64 0, .slice none 0 0] 52 := by
      have h1 : BlockAt W1 w.heap.size #[.int .i64 0, .int .i64 0, .int .i64 0, .int .i64 0, .int .i64 0, .slice none 0 0] 52 := by rw [← HW1.out]; infer_instance
      exact h1.gr HGR.out
    have y0 : wr.cell? ⟨w.heap.size, 0, none⟩ = some (.int .i64 0) := (@block_cells _ _ 0 _ _ bR).trans rfl
    have y1 : wr.cell? ⟨w.heap.size, 1, none⟩ = some (.int .i64 0) := (@block_cells _ _ 1 _ _ bR).trans rfl
    have y2 : wr.cell? ⟨w.heap.size, 2, none⟩ = some (.int .i64 0) := (@block_cells _ _ 2 _ _ bR).trans rfl
    have y3 : wr.cell? ⟨w.heap.size, 3, none⟩ = some (.int .i64 0) := (@block_cells _ _ 3 _ _ bR).trans rfl
    have y4 : wr.cell? ⟨w.heap.size, 4, none⟩ = some (.int .i64 0) := (@block_cells _ _ 4 _ _ bR).trans rfl
    have y5 : wr.cell? ⟨w.heap.size, 5, none⟩ = some (.slice none 0 0) := (@block_cells _ _ 5 _ _ bR).trans rfl
    have z0 : wr.frozen? ⟨w.heap.size, 0, none⟩ = false := @block_frozen _ _ 0 _ _ bR
    have z1 : wr.frozen? ⟨w.heap.size, 1, none⟩ = false := @block_frozen _ _ 1 _ _ bR
    have z2 : wr.frozen? ⟨w.heap.size, 2, none⟩ = false := @block_frozen _ _ 2 _ _ bR
    have z3 : wr.frozen? ⟨w.heap.size, 3, none⟩ = false := @block_frozen _ _ 3 _ _ bR
    have z4 : wr.frozen? ⟨w.heap.size, 4, none⟩ = false := @block_frozen _ _ 4 _ _ bR
    have z5 : wr.frozen? ⟨w.heap.size, 5, none⟩ = false := @block_frozen _ _ 5 _ _ bR
    obtain ⟨Av, cv, rfl, hcv, hrow⟩ := HOW.out.row HOK.out
    have x0 : wr.cell? ⟨w.heap.size + 1, 0, none⟩ = some (.int .i64 m0) := (@block_cells _ _ 0 _ _ bX).trans rfl
    have x1 : wr.cell? ⟨w.heap.size + 1, 1, none⟩ = some (.int .i64 m1) := (@block_cells _ _ 1 _ _ bX).trans rfl
    have x2 : wr.cell? ⟨w.heap.size + 1, 2, none⟩ = some (.int .i64 d0) := (@block_cells _ _ 2 _ _ bX).trans rfl
    have x3 : wr.cell? ⟨w.heap.size + 1, 3, none⟩ = some (.int .i64 d1) := (@block_cells _ _ 3 _ _ bX).trans rfl
    have x4 : wr.cell? ⟨w.heap.size + 1, 4, none⟩ = some (.int .i64 g) := (@block_cells _ _ 4 _ _ bX).trans rfl
    have x5 : wr.cell? ⟨w.heap.size + 1, 5, none⟩ = some (.slice Av xs.length cv) := (@block_cells _ _ 5 _ _ bX).trans rfl
    have u0 : wr.frozen? ⟨w.heap.size + 1, 0, none⟩ = false := @block_frozen _ _ 0 _ _ bX
    have u1 : wr.frozen? ⟨w.heap.size + 1, 1, none⟩ = false := @block_frozen _ _ 1 _ _ bX
    have u2 : wr.frozen? ⟨w.heap.size + 1, 2, none⟩ = false := @block_frozen _ _ 2 _ _ bX
    have u3 : wr.frozen? ⟨w.heap.size + 1, 3, none⟩ = false := @block_frozen _ _ 3 _ _ bX
    have u4 : wr.frozen? ⟨w.heap.size + 1, 4, none⟩ = false := @block_frozen _ _ 4 _ _ bX
    have u5 : wr.frozen? ⟨w.heap.size + 1, 5, none⟩ = false := @block_frozen _ _ 5 _ _ bX
    have BR := Lib.hid bR; have BX := Lib.hid bX; have HROW := Lib.hid hrow; have HCV := Lib.hid hcv
    clear bR bX hrow hcv
    haveI : GrC w wr := ⟨(Gr.trans (by rw [← HW1.out]; exact gri) HGR.out).below⟩
    by_cases hr0 : r.data.toList = []
    · have hre : r.toList.isEmpty = true := by rw [Lib.toList_data, hr0]; rfl
      have hr1 : r = ⟨#[]⟩ := by cases r; simp_all
      have hst9 : LSt t pre ⟨#[]⟩ := by rw [← hr1]; exact HST.out
      have HST9 := Lib.hid hst9
      clear hr0 hr1 hst9 HST
      rcases Nat.eq_zero_or_pos i with hi | hi
      · subst hi
        obtain rfl : pre = [] := List.eq_nil_of_length_eq_zero HPL.out
        have HG := Lib.hid HST9.out.none
        go_wp2
        rw [Exit.noGoto_ret]
        (try rw [Exit.noGoto_ret]); exact bodyPost_ret (v := .tuple #[.agg #[.int .i64 0, .int .i64 0, .int .i64 0, .int .i64 0, .int .i64 0, .slice none 0 0], .int .i64 0, .int .i64 4]) (by simp [results, Tryd.results21, go_sem, x0, x1, x2, x3, x4, x5, y0, y1, y2, y3, y4, y5, z0, z1, z2, z3, z4, z5, u0, u1, u2, u3, u4, u5]) rfl ⟨none, 0, by obtain ⟨h1, h2, h3, h4, h5, h6, h7⟩ := HNO.out HG.out.1; rw [h1, h2, h3, h4, h5, h6, h7, HG.out.2]; first | rfl | (rw [HPL.out]; rfl), Nat.le_trans (by rw [(HNO.out HG.out.1).2.2.2.2.2.1]; exact Nat.le_refl _) (Nat.le_refl _), by rw [(HNO.out HG.out.1).2.2.2.2.2.1]; exact RowA.nil, gri⟩
      · have hi9 : ((i : Int) == 0) = false := by simp; omega
        have hne : pre ≠ [] := by rintro rfl; have := HPL.out; simp at this; omega
        have HG := Lib.hid (HST9.out.done hne)
        have hf : pS t 1 = m0 ∧ pS t 3 = m1 ∧ pS t 2 = d0 ∧ pS t 4 = d1 ∧ pS t 5 = g ∧ pActs t = xs.map (·.a) ∧ pAt t = 0 ∧ pE t = 0 := by
          obtain ⟨h1, h2, h3, h4, h5, h6, h7, h8⟩ := HYES.out HG.out.1
          obtain ⟨n1, n2, n3, n4, n5⟩ := HNUM.out hi
          rw [h1, h2, h3, h4, h5, h6, HG.out.2, HMAP.out]
          exact ⟨n1.symm, n2.symm, n3.symm, n4.symm, n5.symm, rfl, h7, h8⟩
        have HF := Lib.hid hf; clear hf hne
        haveI := BR.out
        go_wp2
        rw [Exit.noGoto_ret]
        exact bodyPost_ret (v := .tuple #[.agg #[.int .i64 m0, .int .i64 m1, .int .i64 d0, .int .i64 d1, .int .i64 g, .slice Av xs.length cv], .int .i64 0, .int .i64 0]) (by simp [results, Tryd.results21, go_sem, x0, x1, x2, x3, x4, x5, y0, y1, y2, y3, y4, y5, z0, z1, z2, z3, z4, z5, u0, u1, u2, u3, u4, u5]) rfl ⟨Av, cv, by obtain ⟨h1, h2, h3, h4, h5, h6, h7, h8⟩ := HF.out; rw [h1, h2, h3, h4, h5, h6, h7, h8, List.length_map]; rfl, by rw [HF.out.2.2.2.2.2.1, List.length_map]; exact HCV.out, by rw [HF.out.2.2.2.2.2.1]; exact RA.row ((((((RA.set_ ⟨HOW.out, HOK.out⟩ w.heap.size 0 _).set_ w.heap.size 1 _).set_ w.heap.size 2 _).set_ w.heap.size 3 _).set_ w.heap.size 4 _).set_ w.heap.size 5 _), gri⟩
    · have hre : r.toList.isEmpty = false := by
        rw [Lib.toList_data]
        cases hd : r.data.toList with
        | nil => exact absurd hd hr0
        | cons => rfl
      have HR0 := Lib.hid hr0; clear hr0
      rcases Nat.eq_zero_or_pos i with hi | hi
      · subst hi
        obtain rfl : pre = [] := List.eq_nil_of_length_eq_zero HPL.out
        obtain rfl : xs = [] := by have := HMAP.out; simpa using this
        obtain ⟨a1, ha1⟩ : ∃ a : Int, ((nW (cutX r) 1 : Nat) : Int) = a := ⟨_, rfl⟩
        obtain ⟨a2, ha2⟩ : ∃ a : Int, ((nW (cutX r) 2 : Nat) : Int) = a := ⟨_, rfl⟩
        obtain ⟨a3, ha3⟩ : ∃ a : Int, ((nW (cutX r) 3 : Nat) : Int) = a := ⟨_, rfl⟩
        obtain ⟨a4, ha4⟩ : ∃ a : Int, ((nW (cutX r) 4 : Nat) : Int) = a := ⟨_, rfl⟩
        obtain ⟨a5, ha5⟩ : ∃ a : Int, ((nW (cutX r) 5 : Nat) : Int) = a := ⟨_, rfl⟩
        have HA := Lib.hid (And.intro ha1 (And.intro ha2 (And.intro ha3 (And.intro ha4 ha5))))
        rcases Bool.eq_false_or_eq_true (goodSt (cutX r)) with hG | hG
        · have HSO := Lib.hid (fun W (_ : Tb W) (_ : Ml W) => stageOf_row (cutX r) (by have := HXS.out; omega) true hG a1 a3 a2 a4 a5 0 ha1 ha3 ha2 ha4 ha5 rfl W)
          clear ha1 ha2 ha3 ha4 ha5
          rcases Bool.eq_false_or_eq_true (cutB r) with hC | hC
          · rw [hC] at HCUT
            have HNX := Lib.hid (HST.out.next hC hG)
            go_wp2_with (first | (go_at_call 47; ((with_reducible refine (HCUT.out _ inferInstance).mono ?_); rintro _ _ ⟨rfl, g1, rfl⟩)) | (go_at_call 10; ((with_reducible refine (HSO.out _ inferInstance inferInstance).mono ?_); rintro _ _ ⟨rfl, g2, rfl⟩)))
            go_roundw
            case rel => exact ⟨1, [cutX r], cutM r, a1, a3, a2, a4, a5, [], .slice Av 0 cv, by go_num, rfl, rfl, rfl, HNX.out, fun _ => ⟨HA.out.1.symm, HA.out.2.2.1.symm, HA.out.2.1.symm, HA.out.2.2.2.1.symm, HA.out.2.2.2.2.symm⟩, by haveI := BX.out; show BlockAt _ _ #[.int .i64 a1, .int .i64 a3, .int .i64 a2, .int .i64 a4, .int .i64 a5, .slice Av 0 cv] _; infer_instance, (by haveI := BX.out; exact ((((((RA.gr ⟨HOW.out, HOK.out⟩ gri).set_ (w.heap.size + 1) 0 _).set_ (w.heap.size + 1) 1 _).set_ (w.heap.size + 1) 2 _).set_ (w.heap.size + 1) 3 _).set_ (w.heap.size + 1) 4 _).own), (fun x hx => by simp at hx), rfl, Gr.of (by have hz := HN1.out; repeat (first | with_reducible exact HGR.out.below | with_reducible apply below_alloc | with_reducible refine below_set_le ?_ (by omega) _ | with_reducible refine below_trans ?_ (grown_below _ _) | with_reducible apply Below.drew)), (inferInstance : Old (w.heap.size + 1) _).lt⟩
            case measure => exact cutM_lt hC
          · rw [hC] at HCUT
            have HG := Lib.hid (HST.out.open_ HR0.out hC)
            go_wp2_with (first | (go_at_call 47; ((with_reducible refine (HCUT.out _ inferInstance).mono ?_); rintro _ _ ⟨rfl, g1, rfl⟩)) | (go_at_call 10; ((with_reducible refine (HSO.out _ inferInstance inferInstance).mono ?_); rintro _ _ ⟨rfl, g2, rfl⟩)))
            (try rw [Exit.noGoto_ret]); exact bodyPost_ret (v := .tuple #[.agg #[.int .i64 0, .int .i64 0, .int .i64 0, .int .i64 0, .int .i64 0, .slice none 0 0], .int .i64 0, .int .i64 4]) (by simp [results, Tryd.results21, go_sem, x0, x1, x2, x3, x4, x5, y0, y1, y2, y3, y4, y5, z0, z1, z2, z3, z4, z5, u0, u1, u2, u3, u4, u5]) rfl ⟨none, 0, by obtain ⟨h1, h2, h3, h4, h5, h6, h7⟩ := HNO.out HG.out.1; rw [h1, h2, h3, h4, h5, h6, h7, HG.out.2]; first | rfl | (rw [HPL.out]; rfl), Nat.le_trans (by rw [(HNO.out HG.out.1).2.2.2.2.2.1]; exact Nat.le_refl _) (Nat.le_refl _), by rw [(HNO.out HG.out.1).2.2.2.2.2.1]; exact RowA.nil, gri⟩
        · have HSO := Lib.hid (fun W (_ : Tb W) (_ : Ml W) => stageOf_row (cutX r) (by have := HXS.out; omega) false hG 0 0 0 0 0 4 rfl rfl rfl rfl rfl rfl W)
          clear ha1 ha2 ha3 ha4 ha5
          rcases Bool.eq_false_or_eq_true (cutB r) with hC | hC
          · rw [hC] at HCUT
            have HG := Lib.hid (HST.out.bad hC hG)
            go_wp2_with (first | (go_at_call 47; ((with_reducible refine (HCUT.out _ inferInstance).mono ?_); rintro _ _ ⟨rfl, g1, rfl⟩)) | (go_at_call 10; ((with_reducible refine (HSO.out _ inferInstance inferInstance).mono ?_); rintro _ _ ⟨rfl, g2, rfl⟩)))
            (try rw [Exit.noGoto_ret]); exact bodyPost_ret (v := .tuple #[.agg #[.int .i64 0, .int .i64 0, .int .i64 0, .int .i64 0, .int .i64 0, .slice none 0 0], .int .i64 0, .int .i64 4]) (by simp [results, Tryd.results21, go_sem, x0, x1, x2, x3, x4, x5, y0, y1, y2, y3, y4, y5, z0, z1, z2, z3, z4, z5, u0, u1, u2, u3, u4, u5]) rfl ⟨none, 0, by obtain ⟨h1, h2, h3, h4, h5, h6, h7⟩ := HNO.out HG.out.1; rw [h1, h2, h3, h4, h5, h6, h7, HG.out.2]; first | rfl | (rw [HPL.out]; rfl), Nat.le_trans (by rw [(HNO.out HG.out.1).2.2.2.2.2.1]; exact Nat.le_refl _) (Nat.le_refl _), by rw [(HNO.out HG.out.1).2.2.2.2.2.1]; exact RowA.nil, gri⟩
          · rw [hC] at HCUT
            have HG := Lib.hid (HST.out.open_ HR0.out hC)
            go_wp2_with (first | (go_at_call 47; ((with_reducible refine (HCUT.out _ inferInstance).mono ?_); rintro _ _ ⟨rfl, g1, rfl⟩)) | (go_at_call 10; ((with_reducible refine (HSO.out _ inferInstance inferInstance).mono ?_); rintro _ _ ⟨rfl, g2, rfl⟩)))
            (try rw [Exit.noGoto_ret]); exact bodyPost_ret (v := .tuple #[.agg #[.int .i64 0, .int .i64 0, .int .i64 0, .int .i64 0, .int .i64 0, .slice none 0 0], .int .i64 0, .int .i64 4]) (by simp [results, Tryd.results21, go_sem, x0, x1, x2, x3, x4, x5, y0, y1, y2, y3, y4, y5, z0, z1, z2, z3, z4, z5, u0, u1, u2, u3, u4, u5]) rfl ⟨none, 0, by obtain ⟨h1, h2, h3, h4, h5, h6, h7⟩ := HNO.out HG.out.1; rw [h1, h2, h3, h4, h5, h6, h7, HG.out.2]; first | rfl | (rw [HPL.out]; rfl), Nat.le_trans (by rw [(HNO.out HG.out.1).2.2.2.2.2.1]; exact Nat.le_refl _) (Nat.le_refl _), by rw [(HNO.out HG.out.1).2.2.2.2.2.1]; exact RowA.nil, gri⟩
      · have hi9 : ((i : Int) == 0) = false := by simp; omega
        have HI := Lib.hid hi
        have hne : pre ≠ [] := by rintro rfl; have := HPL.out; simp at this; omega
        have HNE := Lib.hid hne; clear hi hne
        have HAO := Lib.hid (fun W (_ : Tb W) (_ : Ml W) => actOf_own (cutX r) HXS.out W)
        have hle : i ≤ 200001 := by have := HST.out.short; have := HPL.out; have := HT.out; omega
        have hlen : xs.length + 1 = i := by
          have h1 := congrArg List.length HMAP.out
          have h2 := HPL.out
          have h3 := HI.out
          simp only [List.length_map, List.length_tail] at h1
          omega
        have hbd := actRes_bd (cutX r) HXS.out
        have hgl : goodL pre.length (cutX r) = (decide (i ≤ 5000) && goodA (cutX r)) := by rw [goodL, if_neg (by have := HPL.out; have := HI.out; omega), HPL.out]
        obtain ⟨a9, hA9⟩ : ∃ a9, actRes (cutX r) = a9 := ⟨_, rfl⟩
        obtain ⟨E9, hE9⟩ : ∃ E9, actE (cutX r) = E9 := ⟨_, rfl⟩
        rw [hA9, hE9] at HAO
        rw [hA9] at hbd
        obtain ⟨ak, an, am, ⟨ok, ov, ot, os, oa, oc, od⟩, af, ap⟩ := a9
        have HAO := Lib.hid (fun W (h1 : Tb W) (h2 : Ml W) => (show Calls Tryd.prog 48 #[.string (cutX r)] W (fun e w' => ∃ Ad qd Av qv, e = .returned (.tuple #[.agg #[.int .i64 ak, .int .i64 an, .int .i64 am, .int .i64 ok, .int .u64 ov, .int .u64 ot, .int .i64 os, .int .i64 oa, .int .i64 oc, .slice Ad od.length qd, .bool af, .slice Av ap.length qv], .int .i64 E9]) ∧ od.length ≤ qd ∧ (∃ b, OwnR bv 5 b w' (.slice Ad od.length qd) od) ∧ ap.length ≤ qv ∧ (∃ b, OwnR (Value.int .i64) 3 b w' (.slice Av ap.length qv) ap) ∧ Gr W w') from HAO.out W h1 h2))
        have HLE := Lib.hid hle; have HLN := Lib.hid hlen; have HBD := Lib.hid hbd; have HGL := Lib.hid hgl; have HA9 := Lib.hid hA9
        clear hle hlen hbd hgl hA9
        have hE0 : goodA (cutX r) = true → E9 = 0 := fun h => by rw [← hE9, actE, if_pos h]
        have hE4 : goodA (cutX r) = false → E9 = 4 := fun h => by rw [← hE9, actE, h]; rfl
        clear hE9
        rcases Bool.eq_false_or_eq_true (goodA (cutX r)) with hG | hG
        · obtain rfl := hE0 hG
          clear hE0 hE4
          go_wp2_with (first | (go_at_call 47; ((with_reducible refine (HCUT.out _ inferInstance).mono ?_); rintro _ _ ⟨rfl, g1, rfl⟩)) | (go_at_call 48; ((with_reducible refine (HAO.out _ inferInstance inferInstance).mono ?_); rintro _ _ ⟨Ad, qd, Ap, qp, rfl, hd1, hd2, hp1, hp2, g2, rfl⟩; have HD1 := Lib.hid hd1; have HD2 := Lib.hid hd2; have HP1 := Lib.hid hp1; have HP2 := Lib.hid hp2; clear hd1 hd2 hp1 hp2)) | (at_builtin; refine wp_append_act rfl _ _ rfl (w.heap.size + 2) (.slice Av xs.length cv) xs ?hs1 ?own1 ⟨⟨ak, an, am, ⟨ok, ov, ot, os, oa, oc, od⟩, af, ap⟩, Ad, qd, Ap, qp⟩ _ rfl ?hc1 ?len1 ?base1 ?_))
          case hs1 => rfl
          case own1 => exact HOW.out.gr gri
          case hc1 => show BlockAt _ _ #[.int .i64 ak, .int .i64 an, .int .i64 am, .int .i64 ok, .int .u64 ov, .int .u64 ot, .int .i64 os, .int .i64 oa, .int .i64 oc, .slice Ad od.length qd, .bool af, .slice Ap ap.length qp] 56; infer_instance
          case len1 => have := HLE.out; have := HLN.out; omega
          case base1 => exact Nat.le_trans HSZ.out (gri : Gr wr _).below.size
          intro v4 W4 a4
          have hy : AM.Ok (grown (grown wr g1) g2) ⟨⟨ak, an, am, ⟨ok, ov, ot, os, oa, oc, od⟩, af, ap⟩, Ad, qd, Ap, qp⟩ := ⟨HBD.out.bd, HBD.out.n0, HBD.out.n1, HBD.out.m0, HBD.out.m1, HD1.out, HBD.out.bq, HD2.out, HP1.out, HBD.out.bv, HBD.out.pk, HP2.out⟩
          have hra := RA.put (RA.gr (W := wr) ⟨HOW.out, HOK.out⟩ gri) (hy.gr gri) a4
          obtain ⟨A4, c4, rfl, hc4, _⟩ := hra.own.row hra.oks
          have hl4 : (xs ++ [(⟨⟨ak, an, am, ⟨ok, ov, ot, os, oa, oc, od⟩, af, ap⟩, Ad, qd, Ap, qp⟩ : AM)]).length = i := by have := HLN.out; simpa using this
          have bX4 : BlockAt W4 (w.heap.size + 1) #[.int .i64 m0, .int .i64 m1, .int .i64 d0, .int .i64 d1, .int .i64 g, (.slice Av xs.length cv)] 52 := a4.keep _ _ _ (BX.out.gr gri) (by decide)
          have bR4 : BlockAt W4 w.heap.size #[.int .i64 0, .int .i64 0, .int .i64 0, .int .i64 0, .int .i64 0, .slice none 0 0] 52 := a4.keep _ _ _ (BR.out.gr gri) (by decide)
          haveI : GrC w W4 := ⟨(show GrC w _ from inferInstance).b.trans (a4.below.mono (by omega))⟩
          have hw4 : Gr W1 W4 := Gr.of (((HGR.out.trans gri : Gr W1 _)).below.trans (a4.below.mono (by have := HN1.out; omega)))
          rw [hl4] at hc4
          have hsz4 : w.heap.size + 2 ≤ W4.heap.size := Nat.le_trans (Nat.le_trans HSZ.out (gri : Gr wr _).below.size) a4.size
          have HRA := Lib.hid hra; have HC4 := Lib.hid hc4; have BX4 := Lib.hid bX4; have BR4 := Lib.hid bR4; have HW4 := Lib.hid hw4; have HL4 := Lib.hid hl4; have HSZ4 := Lib.hid hsz4
          rw [hl4]
          haveI : Old (w.heap.size + 1) W4 := bX4.old
          haveI : Old w.heap.size W4 := bR4.old
          clear x0 x1 x2 x3 x4 x5 y0 y1 y2 y3 y4 y5 z0 z1 z2 z3 z4 z5 u0 u1 u2 u3 u4 u5 hy hra a4 hl4 hw4 hsz4 hc4
          have x0 : W4.cell? ⟨w.heap.size + 1, 0, none⟩ = some (.int .i64 m0) := (@block_cells _ _ 0 _ _ bX4).trans rfl
          have u0 : W4.frozen? ⟨w.heap.size + 1, 0, none⟩ = false := @block_frozen _ _ 0 _ _ bX4
          have y0 : W4.cell? ⟨w.heap.size, 0, none⟩ = some (.int .i64 0) := (@block_cells _ _ 0 _ _ bR4).trans rfl
          have z0 : W4.frozen? ⟨w.heap.size, 0, none⟩ = false := @block_frozen _ _ 0 _ _ bR4
          have x1 : W4.cell? ⟨w.heap.size + 1, 1, none⟩ = some (.int .i64 m1) := (@block_cells _ _ 1 _ _ bX4).trans rfl
          have u1 : W4.frozen? ⟨w.heap.size + 1, 1, none⟩ = false := @block_frozen _ _ 1 _ _ bX4
          have y1 : W4.cell? ⟨w.heap.size, 1, none⟩ = some (.int .i64 0) := (@block_cells _ _ 1 _ _ bR4).trans rfl
          have z1 : W4.frozen? ⟨w.heap.size, 1, none⟩ = false := @block_frozen _ _ 1 _ _ bR4
          have x2 : W4.cell? ⟨w.heap.size + 1, 2, none⟩ = some (.int .i64 d0) := (@block_cells _ _ 2 _ _ bX4).trans rfl
          have u2 : W4.frozen? ⟨w.heap.size + 1, 2, none⟩ = false := @block_frozen _ _ 2 _ _ bX4
          have y2 : W4.cell? ⟨w.heap.size, 2, none⟩ = some (.int .i64 0) := (@block_cells _ _ 2 _ _ bR4).trans rfl
          have z2 : W4.frozen? ⟨w.heap.size, 2, none⟩ = false := @block_frozen _ _ 2 _ _ bR4
          have x3 : W4.cell? ⟨w.heap.size + 1, 3, none⟩ = some (.int .i64 d1) := (@block_cells _ _ 3 _ _ bX4).trans rfl
          have u3 : W4.frozen? ⟨w.heap.size + 1, 3, none⟩ = false := @block_frozen _ _ 3 _ _ bX4
          have y3 : W4.cell? ⟨w.heap.size, 3, none⟩ = some (.int .i64 0) := (@block_cells _ _ 3 _ _ bR4).trans rfl
          have z3 : W4.frozen? ⟨w.heap.size, 3, none⟩ = false := @block_frozen _ _ 3 _ _ bR4
          have x4 : W4.cell? ⟨w.heap.size + 1, 4, none⟩ = some (.int .i64 g) := (@block_cells _ _ 4 _ _ bX4).trans rfl
          have u4 : W4.frozen? ⟨w.heap.size + 1, 4, none⟩ = false := @block_frozen _ _ 4 _ _ bX4
          have y4 : W4.cell? ⟨w.heap.size, 4, none⟩ = some (.int .i64 0) := (@block_cells _ _ 4 _ _ bR4).trans rfl
          have z4 : W4.frozen? ⟨w.heap.size, 4, none⟩ = false := @block_frozen _ _ 4 _ _ bR4
          have x5 : W4.cell? ⟨w.heap.size + 1, 5, none⟩ = some (.slice Av xs.length cv) := (@block_cells _ _ 5 _ _ bX4).trans rfl
          have u5 : W4.frozen? ⟨w.heap.size + 1, 5, none⟩ = false := @block_frozen _ _ 5 _ _ bX4
          have y5 : W4.cell? ⟨w.heap.size, 5, none⟩ = some (.slice none 0 0) := (@block_cells _ _ 5 _ _ bR4).trans rfl
          have z5 : W4.frozen? ⟨w.heap.size, 5, none⟩ = false := @block_frozen _ _ 5 _ _ bR4
          clear bX4 bR4
          rcases Bool.eq_false_or_eq_true (cutB r) with hC | hC
          · by_cases h5 : i ≤ 5000
            · have hGL : goodL pre.length (cutX r) = true := by rw [HGL.out, hG, decide_eq_true h5]; rfl
              have HNX := Lib.hid (HST.out.next hC hGL)
              have h5i : ¬ (5000 : Int) < (i : Int) := by omega
              go_wp2
              go_roundw
              case rel =>
                haveI := BX4.out
                have hr9 : RA (w.heap.size + 2) W4 (.slice A4 i c4) (xs ++ [⟨⟨ak, an, am, ⟨ok, ov, ot, os, oa, oc, od⟩, af, ap⟩, Ad, qd, Ap, qp⟩]) := by have h := HRA.out; rw [HL4.out] at h; exact h
                have hr8 := hr9.set_ (w.heap.size + 1) 5 (.slice A4 i c4)
                refine ⟨i + 1, pre ++ [cutX r], cutM r, m0, m1, d0, d1, g, xs ++ [⟨⟨ak, an, am, ⟨ok, ov, ot, os, oa, oc, od⟩, af, ap⟩, Ad, qd, Ap, qp⟩], .slice A4 i c4, by go_num, rfl, rfl, by have := HPL.out; simpa using this, HNX.out, fun _ => ?_, by show BlockAt _ _ #[.int .i64 m0, .int .i64 m1, .int .i64 d0, .int .i64 d1, .int .i64 g, .slice A4 i c4] _; infer_instance, hr8.own, hr8.oks, ?_, Gr.of (below_set_le HW4.out.below (by have := HN1.out; omega) _), Nat.le_trans HSZ4.out (by simp [World.setCell])⟩
                · rw [hdW_app HNE.out]; exact HNUM.out HI.out
                · rw [List.tail_append_of_ne_nil HNE.out, List.map_append, List.map_append, HMAP.out]
                  simp only [List.map_cons, List.map_nil, HA9.out]
              case measure => exact cutM_lt hC
            · have hGL : goodL pre.length (cutX r) = false := by rw [HGL.out, hG, decide_eq_false h5]; rfl
              have HG := Lib.hid (HST.out.bad hC hGL)
              have h5i : (5000 : Int) < (i : Int) := by omega
              go_wp2
              (try rw [Exit.noGoto_ret]); exact bodyPost_ret (v := .tuple #[.agg #[.int .i64 0, .int .i64 0, .int .i64 0, .int .i64 0, .int .i64 0, .slice none 0 0], .int .i64 i, .int .i64 4]) (by simp [results, Tryd.results21, go_sem, x0, x1, x2, x3, x4, x5, y0, y1, y2, y3, y4, y5, z0, z1, z2, z3, z4, z5, u0, u1, u2, u3, u4, u5]) rfl ⟨none, 0, by obtain ⟨h1, h2, h3, h4, h5, h6, h7⟩ := HNO.out HG.out.1; rw [h1, h2, h3, h4, h5, h6, h7, HG.out.2]; first | rfl | (rw [HPL.out]; rfl), Nat.le_trans (by rw [(HNO.out HG.out.1).2.2.2.2.2.1]; exact Nat.le_refl _) (Nat.le_refl _), by rw [(HNO.out HG.out.1).2.2.2.2.2.1]; exact RowA.nil, gri⟩
          · have HG := Lib.hid (HST.out.open_ HR0.out hC)
            go_wp2
            (try rw [Exit.noGoto_ret]); exact bodyPost_ret (v := .tuple #[.agg #[.int .i64 0, .int .i64 0, .int .i64 0, .int .i64 0, .int .i64 0, .slice none 0 0], .int .i64 i, .int .i64 4]) (by simp [results, Tryd.results21, go_sem, x0, x1, x2, x3, x4, x5, y0, y1, y2, y3, y4, y5, z0, z1, z2, z3, z4, z5, u0, u1, u2, u3, u4, u5]) rfl ⟨none, 0, by obtain ⟨h1, h2, h3, h4, h5, h6, h7⟩ := HNO.out HG.out.1; rw [h1, h2, h3, h4, h5, h6, h7, HG.out.2]; first | rfl | (rw [HPL.out]; rfl), Nat.le_trans (by rw [(HNO.out HG.out.1).2.2.2.2.2.1]; exact Nat.le_refl _) (Nat.le_refl _), by rw [(HNO.out HG.out.1).2.2.2.2.2.1]; exact RowA.nil, gri⟩
        · obtain rfl := hE4 hG
          clear hE0 hE4
          have hgood : pGood t = false ∧ pAt t = pre.length := by
            rcases Bool.eq_false_or_eq_true (cutB r) with hC | hC
            · exact HST.out.bad hC (by rw [HGL.out, hG, Bool.and_false])
            · exact HST.out.open_ HR0.out hC
          have HG := Lib.hid hgood
          go_wp2_with (first | (go_at_call 47; ((with_reducible refine (HCUT.out _ inferInstance).mono ?_); rintro _ _ ⟨rfl, g1, rfl⟩)) | (go_at_call 48; ((with_reducible refine (HAO.out _ inferInstance inferInstance).mono ?_); rintro _ _ ⟨Ad, qd, Ap, qp, rfl, hd1, hd2, hp1, hp2, g2, rfl⟩; have HD1 := Lib.hid hd1; have HD2 := Lib.hid hd2; have HP1 := Lib.hid hp1; have HP2 := Lib.hid hp2; clear hd1 hd2 hp1 hp2)) | (at_builtin; refine wp_append_act rfl _ _ rfl (w.heap.size + 2) (.slice Av xs.length cv) xs ?hs2 ?own2 ⟨⟨ak, an, am, ⟨ok, ov, ot, os, oa, oc, od⟩, af, ap⟩, Ad, qd, Ap, qp⟩ _ rfl ?hc2 ?len2 ?base2 ?_))
          case hs2 => rfl
          case own2 => exact HOW.out.gr gri
          case hc2 => show BlockAt _ _ #[.int .i64 ak, .int .i64 an, .int .i64 am, .int .i64 ok, .int .u64 ov, .int .u64 ot, .int .i64 os, .int .i64 oa, .int .i64 oc, .slice Ad od.length qd, .bool af, .slice Ap ap.length qp] 56; infer_instance
          case len2 => have := HLE.out; have := HLN.out; omega
          case base2 => exact Nat.le_trans HSZ.out (gri : Gr wr _).below.size
          intro v4 W4 a4
          have hy : AM.Ok (grown (grown wr g1) g2) ⟨⟨ak, an, am, ⟨ok, ov, ot, os, oa, oc, od⟩, af, ap⟩, Ad, qd, Ap, qp⟩ := ⟨HBD.out.bd, HBD.out.n0, HBD.out.n1, HBD.out.m0, HBD.out.m1, HD1.out, HBD.out.bq, HD2.out, HP1.out, HBD.out.bv, HBD.out.pk, HP2.out⟩
          have hra := RA.put (RA.gr (W := wr) ⟨HOW.out, HOK.out⟩ gri) (hy.gr gri) a4
          obtain ⟨A4, c4, rfl, hc4, _⟩ := hra.own.row hra.oks
          have hl4 : (xs ++ [(⟨⟨ak, an, am, ⟨ok, ov, ot, os, oa, oc, od⟩, af, ap⟩, Ad, qd, Ap, qp⟩ : AM)]).length = i := by have := HLN.out; simpa using this
          have bX4 : BlockAt W4 (w.heap.size + 1) #[.int .i64 m0, .int .i64 m1, .int .i64 d0, .int .i64 d1, .int .i64 g, (.slice Av xs.length cv)] 52 := a4.keep _ _ _ (BX.out.gr gri) (by decide)
          have bR4 : BlockAt W4 w.heap.size #[.int .i64 0, .int .i64 0, .int .i64 0, .int .i64 0, .int .i64 0, .slice none 0 0] 52 := a4.keep _ _ _ (BR.out.gr gri) (by decide)
          haveI : GrC w W4 := ⟨(show GrC w _ from inferInstance).b.trans (a4.below.mono (by omega))⟩
          have hw4 : Gr W1 W4 := Gr.of (((HGR.out.trans gri : Gr W1 _)).below.trans (a4.below.mono (by have := HN1.out; omega)))
          rw [hl4] at hc4
          have hsz4 : w.heap.size + 2 ≤ W4.heap.size := Nat.le_trans (Nat.le_trans HSZ.out (gri : Gr wr _).below.size) a4.size
          have HRA := Lib.hid hra; have HC4 := Lib.hid hc4; have BX4 := Lib.hid bX4; have BR4 := Lib.hid bR4; have HW4 := Lib.hid hw4; have HL4 := Lib.hid hl4; have HSZ4 := Lib.hid hsz4
          rw [hl4]
          haveI : Old (w.heap.size + 1) W4 := bX4.old
          haveI : Old w.heap.size W4 := bR4.old
          clear x0 x1 x2 x3 x4 x5 y0 y1 y2 y3 y4 y5 z0 z1 z2 z3 z4 z5 u0 u1 u2 u3 u4 u5 hy hra a4 hl4 hw4 hsz4 hc4
          have x0 : W4.cell? ⟨w.heap.size + 1, 0, none⟩ = some (.int .i64 m0) := (@block_cells _ _ 0 _ _ bX4).trans rfl
          have u0 : W4.frozen? ⟨w.heap.size + 1, 0, none⟩ = false := @block_frozen _ _ 0 _ _ bX4
          have y0 : W4.cell? ⟨w.heap.size, 0, none⟩ = some (.int .i64 0) := (@block_cells _ _ 0 _ _ bR4).trans rfl
          have z0 : W4.frozen? ⟨w.heap.size, 0, none⟩ = false := @block_frozen _ _ 0 _ _ bR4
          have x1 : W4.cell? ⟨w.heap.size + 1, 1, none⟩ = some (.int .i64 m1) := (@block_cells _ _ 1 _ _ bX4).trans rfl
          have u1 : W4.frozen? ⟨w.heap.size + 1, 1, none⟩ = false := @block_frozen _ _ 1 _ _ bX4
          have y1 : W4.cell? ⟨w.heap.size, 1, none⟩ = some (.int .i64 0) := (@block_cells _ _ 1 _ _ bR4).trans rfl
          have z1 : W4.frozen? ⟨w.heap.size, 1, none⟩ = false := @block_frozen _ _ 1 _ _ bR4
          have x2 : W4.cell? ⟨w.heap.size + 1, 2, none⟩ = some (.int .i64 d0) := (@block_cells _ _ 2 _ _ bX4).trans rfl
          have u2 : W4.frozen? ⟨w.heap.size + 1, 2, none⟩ = false := @block_frozen _ _ 2 _ _ bX4
          have y2 : W4.cell? ⟨w.heap.size, 2, none⟩ = some (.int .i64 0) := (@block_cells _ _ 2 _ _ bR4).trans rfl
          have z2 : W4.frozen? ⟨w.heap.size, 2, none⟩ = false := @block_frozen _ _ 2 _ _ bR4
          have x3 : W4.cell? ⟨w.heap.size + 1, 3, none⟩ = some (.int .i64 d1) := (@block_cells _ _ 3 _ _ bX4).trans rfl
          have u3 : W4.frozen? ⟨w.heap.size + 1, 3, none⟩ = false := @block_frozen _ _ 3 _ _ bX4
          have y3 : W4.cell? ⟨w.heap.size, 3, none⟩ = some (.int .i64 0) := (@block_cells _ _ 3 _ _ bR4).trans rfl
          have z3 : W4.frozen? ⟨w.heap.size, 3, none⟩ = false := @block_frozen _ _ 3 _ _ bR4
          have x4 : W4.cell? ⟨w.heap.size + 1, 4, none⟩ = some (.int .i64 g) := (@block_cells _ _ 4 _ _ bX4).trans rfl
          have u4 : W4.frozen? ⟨w.heap.size + 1, 4, none⟩ = false := @block_frozen _ _ 4 _ _ bX4
          have y4 : W4.cell? ⟨w.heap.size, 4, none⟩ = some (.int .i64 0) := (@block_cells _ _ 4 _ _ bR4).trans rfl
          have z4 : W4.frozen? ⟨w.heap.size, 4, none⟩ = false := @block_frozen _ _ 4 _ _ bR4
          have x5 : W4.cell? ⟨w.heap.size + 1, 5, none⟩ = some (.slice Av xs.length cv) := (@block_cells _ _ 5 _ _ bX4).trans rfl
          have u5 : W4.frozen? ⟨w.heap.size + 1, 5, none⟩ = false := @block_frozen _ _ 5 _ _ bX4
          have y5 : W4.cell? ⟨w.heap.size, 5, none⟩ = some (.slice none 0 0) := (@block_cells _ _ 5 _ _ bR4).trans rfl
          have z5 : W4.frozen? ⟨w.heap.size, 5, none⟩ = false := @block_frozen _ _ 5 _ _ bR4
          clear bX4 bR4
          go_wp2
          (try rw [Exit.noGoto_ret]); exact bodyPost_ret (v := .tuple #[.agg #[.int .i64 0, .int .i64 0, .int .i64 0, .int .i64 0, .int .i64 0, .slice none 0 0], .int .i64 i, .int .i64 4]) (by simp [results, Tryd.results21, go_sem, x0, x1, x2, x3, x4, x5, y0, y1, y2, y3, y4, y5, z0, z1, z2, z3, z4, z5, u0, u1, u2, u3, u4, u5]) rfl ⟨none, 0, by obtain ⟨h1, h2, h3, h4, h5, h6, h7⟩ := HNO.out HG.out.1; rw [h1, h2, h3, h4, h5, h6, h7, HG.out.2]; first | rfl | (rw [HPL.out]; rfl), Nat.le_trans (by rw [(HNO.out HG.out.1).2.2.2.2.2.1]; exact Nat.le_refl _) (Nat.le_refl _), by rw [(HNO.out HG.out.1).2.2.2.2.2.1]; exact RowA.nil, gri⟩
end Go.Proofs.YtgjdgafoidppaaaDoor
namespace Go.Proofs.YtgjdgafoidppaaaDoor
open Go.RowKit
set_option linter.unusedVariables false
set_option linter.unusedSimpArgs false
set_option linter.unnecessarySimpa false
theorem textF_any (k nd m ok ov ot os oa oc : Int) (D P : Option Addr) (n q pn pq : Nat) (f : Bool) (B : Bool) (w : World) (h : ∀ W, Gr w W → Calls Tryd.prog 22 #[.agg #[.int .i64 k, .int .i64 nd, .int .i64 m, .int .i64 ok, .int .u64 ov, .int .u64 ot, .int .i64 os, .int .i64 oa, .int .i64 oc, .slice D n q, .bool f, .slice P pn pq]] W (fun e w' => e = .returned (.bool B) ∧ Gr W w')) :
    Calls Tryd.prog 42 #[.agg #[.int .i64 k, .int .i64 nd, .int .i64 m, .int .i64 ok, .int .u64 ov, .int .u64 ot, .int .i64 os, .int .i64 oa, .int .i64 oc, .slice D n q, .bool f, .slice P pn pq]] w fun e w' => e = .returned (.bool (!B)) ∧ Gr w w' := by
  have H := Lib.hid h; clear h
  go_enter Tryd.func42, Tryd.ntmps42
  go_wp2_with (go_at_call 22; ((with_reducible refine (H.out _ gri).mono ?_); rintro _ _ ⟨rfl, g1, rfl⟩))
  go_ret
  exact ⟨rfl, gri⟩
def noMay (l : List ActV) : Bool := l.any fun a => !a.may
set_option maxRecDepth 100000 in
set_option maxHeartbeats 4000000 in
theorem indexFuncA_any (A : Option Addr) (n c : Nat) (l : List ActV) (w : World) (hl : l.length = n) (hn : n ≤ 9223372036854775807) (h : RowA w A l) :
    Calls Tryd.prog 68 #[.slice A n c, .func (.func 42) #[] #[]] w (SomeIdx (noMay l) w) := by
  have HL := Lib.hid hl; have H := Lib.hid h; clear hl h
  go_enter Tryd.func68, Tryd.ntmps68
  go_wp2
  go_loopw [8] (fun i wr => ∃ k : Nat, i = .int .i64 k ∧ k ≤ n ∧ Hid ((l.take k).any (fun a => !a.may) = false) ∧ Gr w wr) (fun i _ => n - (intOf i).toNat)
  case atStart => exact ⟨0, rfl, Nat.zero_le _, Lib.hid (by simp), Gr.refl _⟩
  case round =>
    obtain ⟨j, rfl, hj, hg, gj, rfl⟩ := hrel
    by_cases hlt : j < n
    · have hjl : j < l.length := by have := HL.out; omega
      have hgj := List.getElem?_eq_getElem hjl
      obtain ⟨b, o, rfl, hb, hc⟩ := (H.out.gr (Gr.of (grown_below w gj))).at_ (by rintro rfl; simp at hjl)
      obtain ⟨Ad, qd, Av, qv, hm⟩ := hc j _ hgj
      have hta := take_any (fun a : ActV => !a.may) l j _ hgj
      generalize l[j] = a at *
      obtain ⟨k, nd, m, ⟨ok, ov, ot, os, oa, oc, od⟩, f, pk⟩ := a
      have x0 : (grown w gj).cell? ⟨b, o + j * 12, none⟩ = some (.int .i64 k) := hm.c 0 _ rfl
      have x1 : (grown w gj).cell? ⟨b, o + j * 12 + 1, none⟩ = some (.int .i64 nd) := hm.c 1 _ rfl
      have x2 : (grown w gj).cell? ⟨b, o + j * 12 + 2, none⟩ = some (.int .i64 m) := hm.c 2 _ rfl
      have x3 : (grown w gj).cell? ⟨b, o + j * 12 + 3, none⟩ = some (.int .i64 ok) := hm.c 3 _ rfl
      have x4 : (grown w gj).cell? ⟨b, o + j * 12 + 4, none⟩ = some (.int .u64 ov) := hm.c 4 _ rfl
      have x5 : (grown w gj).cell? ⟨b, o + j * 12 + 5, none⟩ = some (.int .u64 ot) := hm.c 5 _ rfl
      have x6 : (grown w gj).cell? ⟨b, o + j * 12 + 6, none⟩ = some (.int .i64 os) := hm.c 6 _ rfl
      have x7 : (grown w gj).cell? ⟨b, o + j * 12 + 7, none⟩ = some (.int .i64 oa) := hm.c 7 _ rfl
      have x8 : (grown w gj).cell? ⟨b, o + j * 12 + 8, none⟩ = some (.int .i64 oc) := hm.c 8 _ rfl
      have x9 : (grown w gj).cell? ⟨b, o + j * 12 + 9, none⟩ = some (.slice Ad od.length qd) := hm.c 9 _ rfl
      have x10 : (grown w gj).cell? ⟨b, o + j * 12 + 10, none⟩ = some (.bool f) := hm.c 10 _ rfl
      have x11 : (grown w gj).cell? ⟨b, o + j * 12 + 11, none⟩ = some (.slice Av pk.length qv) := hm.c 11 _ rfl
      have hji : (j : Int) < (n : Int) := by omega
      have HMA := Lib.hid (fun W (hW : Gr (grown w gj) W) => textF_any k nd m ok ov ot os oa oc Ad Av od.length qd pk.length qv f (mayActB k nd m ok ov ot os oa oc f od.length pk.length od pk) W (fun V hV => mayAct_any k nd m ok ov ot os oa oc Ad Av od.length qd pk.length qv f od pk V rfl hm.bq (hm.d.gr (hW.trans hV)) rfl hm.bv (hm.v.gr (hW.trans hV))))
      have HTA := Lib.hid hta
      have hmay : (⟨k, nd, m, ⟨ok, ov, ot, os, oa, oc, od⟩, f, pk⟩ : ActV).may = mayActB k nd m ok ov ot os oa oc f od.length pk.length od pk := rfl
      have HMAY := Lib.hid hmay
      have HLJ := Lib.hid hgj
      clear hc hm hta hmay hgj hjl
      rcases Bool.eq_false_or_eq_true (mayActB k nd m ok ov ot os oa oc f od.length pk.length od pk) with hq | hq
      · rw [hq] at HMA HMAY
        go_wp2_with (go_at_call 42; ((with_reducible refine (HMA.out _ gri).mono ?_); rintro _ _ ⟨rfl, g2, rfl⟩))
        go_roundw
        case rel => exact ⟨j + 1, by go_num, by omega, Lib.hid (by rw [HTA.out, hg.out, HMAY.out]; rfl), gri⟩
        case measure => simp [intOf]; omega
      · rw [hq] at HMA HMAY
        have hp : decide (0 ≤ (j : Int)) = noMay l := by
          have : noMay l = true := List.any_eq_true.2 ⟨_, List.mem_of_getElem? HLJ.out, by rw [HMAY.out]; rfl⟩
          rw [this]; simp
        have HP := Lib.hid hp; clear hp
        go_wp2_with (go_at_call 42; ((with_reducible refine (HMA.out _ gri).mono ?_); rintro _ _ ⟨rfl, g2, rfl⟩))
        go_ret
        exact ⟨j, HP.out, rfl, gri⟩
    · have hp : decide (0 ≤ (-1 : Int)) = noMay l := by
        have := hg.out
        rw [List.take_of_length_le (by have := HL.out; omega)] at this
        rw [noMay, this]; rfl
      have HP := Lib.hid hp; clear hp
      have hji : ¬ (j : Int) < (n : Int) := by omega
      go_wp2
      go_ret
      exact ⟨-1, HP.out, rfl, gri⟩
theorem containsA_any (A : Option Addr) (n c : Nat) (l : List ActV) (w : World) (hl : l.length = n) (hn : n ≤ 9223372036854775807) (h : RowA w A l) :
    Calls Tryd.prog 41 #[.slice A n c, .func (.func 42) #[] #[]] w fun e w' => e = .returned (.bool (noMay l)) ∧ Gr w w' := by
  have HI := Lib.hid (indexFuncA_any A n c l w hl hn h); clear h hl
  go_enter Tryd.func41, Tryd.ntmps41
  go_wp2_with (go_at_call 68; ((with_reducible refine HI.out.mono ?_); rintro _ _ ⟨r, hr, rfl, g, rfl⟩; have HR := Lib.hid hr; clear hr))
  go_ret
  exact ⟨by rw [← HR.out]; rfl, gri⟩
end Go.Proofs.YtgjdgafoidppaaaDoor
namespace Go.Proofs.YtgjdgafoidppaaaDoor
open Go.RowKit
set_option linter.unusedVariables false
set_option linter.unusedSimpArgs false
set_option linter.unnecessarySimpa false
def tE (m0 m1 d0 d1 g : Int) (l : List ActV) : Int := if mayStB m0 m1 d0 d1 g && !noMay l then (if 5000 < l.length then 3 else 0) else 2
def tS (m0 m1 d0 d1 g : Int) (l : List ActV) : ByteArray := if tE m0 m1 d0 d1 g l = 0 then ⟨(scTextL m0 m1 d0 d1 g l).toArray⟩ else ⟨#[]⟩
theorem noMay_no {l : List ActV} (h : noMay l = false) : ∀ a ∈ l, a.may = true := by
  intro a ha
  rw [noMay, List.any_eq_false] at h
  simpa using h a ha
theorem bldAt_gr {T e : TypeId} {B b : Nat} {p : Value} {bs : List Value} {w w' : World} (h : Lib.BuilderAtF T e B b p bs w) (g : Gr w w') : Lib.BuilderAtF T e B b p bs w' := by
  obtain ⟨hB, v, hb, hown, hne⟩ := h
  refine ⟨hB, v, (g.below.block b (Array.getElem?_eq_some_iff.1 hb).1).trans hb, ⟨hown.1, ?_⟩, hne⟩
  rcases hown.2 with hn | ⟨gg, cap, cur, fz, hv, hbg, hg, rest⟩
  · exact .inl hn
  · exact .inr ⟨gg, cap, cur, fz, hv, hbg, (g.below.block gg (Array.getElem?_eq_some_iff.1 hg).1).trans hg, rest⟩
theorem bld_gr {T e : TypeId} {B b : Nat} {bs : List Value} {w w' : World} (h : Lib.IsBuilderF T e B b bs w) (g : Gr w w') : Lib.IsBuilderF T e B b bs w' := h.elim (fun h => .inl (bldAt_gr h g)) (fun h => .inr (bldAt_gr h g))
theorem glue_take_le (L : List (List UInt8)) (j : Nat) : (glueL (L.take j)).length ≤ (glueL L).length := by
  have h : ∀ (p q : List (List UInt8)), glueL (p ++ q) = glueL p ++ glueL q := by
    intro p q
    induction p with
    | nil => rfl
    | cons x p ih => simp [glueL, ih]
  conv => rhs; rw [← List.take_append_drop j L, h, List.length_append]
  omega
theorem line_cells (l : List UInt8) : Lib.strCells (({ data := l.toArray } : ByteArray) ++ { data := #[10] }) = Lib.byteCells (l ++ [10]) := by
  rw [Lib.strCells_eq]; congr 1
theorem line_size (l : List UInt8) : (({ data := l.toArray } : ByteArray) ++ { data := #[10] }).size = l.length + 1 := by
  rw [← Lib.strCells_length, line_cells, Lib.byteCells_length, List.length_append]; rfl
set_option maxRecDepth 100000 in
set_option maxHeartbeats 8000000 in
theorem text_any (m0 m1 d0 d1 g : Int) (A : Option Addr) (n q : Nat) (l : List ActV) (w : World) [hk : Tb w] (hl : l.length = n) (hn : n ≤ 9223372036854775807) (h : RowA w A l) (hlen : mayStB m0 m1 d0 d1 g = true → noMay l = false → n ≤ 5000 → (scTextL m0 m1 d0 d1 g l).length ≤ 16777216) :
    Calls Tryd.prog 20 #[.agg #[.int .i64 m0, .int .i64 m1, .int .i64 d0, .int .i64 d1, .int .i64 g, .slice A n q]] w fun e w' => e = .returned (.tuple #[.string (tS m0 m1 d0 d1 g l), .int .i64 (tE m0 m1 d0 d1 g l)]) ∧ Gr w w' := by
  have HL := Lib.hid hl; have H := Lib.hid h; have HLEN := Lib.hid hlen; clear hl h hlen
  have HMS := Lib.hid (fun W => mayStage_any m0 m1 d0 d1 g W)
  have HCO := Lib.hid (fun W (hW : Gr w W) => containsA_any A n q l W HL.out hn (H.out.gr hW))
  rcases Bool.eq_false_or_eq_true (mayStB m0 m1 d0 d1 g) with hs | hs
  · rw [hs] at HMS
    rcases Bool.eq_false_or_eq_true (noMay l) with hb | hb
    · rw [hb] at HCO
      have hE : tE m0 m1 d0 d1 g l = 2 := by simp [tE, hs, hb]
      have hS : tS m0 m1 d0 d1 g l = ⟨#[]⟩ := by simp [tS, hE]
      have HE := Lib.hid hE; have HS := Lib.hid hS; clear hE hS hs hb
      go_enter Tryd.func20, Tryd.ntmps20
      go_wp2_with (first | (go_at_call 13; ((with_reducible refine (HMS.out _).mono ?_); rintro _ _ ⟨rfl, g1, rfl⟩)) | (go_at_call 41; ((with_reducible refine (HCO.out _ gri).mono ?_); rintro _ _ ⟨rfl, g2, rfl⟩)))
      go_ret2
      exact ⟨by rw [HE.out, HS.out]; rfl, gri⟩
    · rw [hb] at HCO
      have HCL := Lib.hid (HLEN.out hs hb)
      have HNM := Lib.hid hb
      have hbd : StBd m0 m1 d0 d1 g := ⟨by simp only [mayStB, Bool.and_eq_true, decide_eq_true_eq] at hs; omega⟩
      have HBD := Lib.hid hbd
      by_cases h5 : n ≤ 5000
      · have h5i : ¬ (5000 : Int) < (n : Int) := by omega
        have h6 : ¬ 5000 < l.length := by have := HL.out; omega
        have hE : tE m0 m1 d0 d1 g l = 0 := by simp [tE, hs, hb, h6]
        have hS : tS m0 m1 d0 d1 g l = ⟨(scTextL m0 m1 d0 d1 g l).toArray⟩ := by rw [tS, if_pos hE]
        have HE := Lib.hid hE; have HS := Lib.hid hS; have HSZ := Lib.hid (HCL.out h5); clear hE hS hs hb hbd HCL h6
        go_enter Tryd.func20, Tryd.ntmps20
        go_upto_region 5 with (first | (go_at_call 13; ((with_reducible refine (HMS.out _).mono ?_); rintro _ _ ⟨rfl, g1, rfl⟩)) | (go_at_call 41; ((with_reducible refine (HCO.out _ gri).mono ?_); rintro _ _ ⟨rfl, g2, rfl⟩)))
        have hbox : BlockAt (grown (grown (w.alloc (.cells #[.int .i64 m0, .int .i64 m1, .int .i64 d0, .int .i64 d1, .int .i64 g, .slice A n q] 52)) g1) g2) w.heap.size #[.int .i64 m0, .int .i64 m1, .int .i64 d0, .int .i64 d1, .int .i64 g, .slice A n q] 52 := inferInstance
        have hgw : Gr w (grown (grown (w.alloc (.cells #[.int .i64 m0, .int .i64 m1, .int .i64 d0, .int .i64 d1, .int .i64 g, .slice A n q] 52)) g1) g2) := gri
        haveI htb3 : Tb (grown (grown (w.alloc (.cells #[.int .i64 m0, .int .i64 m1, .int .i64 d0, .int .i64 d1, .int .i64 g, .slice A n q] 52)) g1) g2) := inferInstance
        generalize grown (grown (w.alloc (.cells #[.int .i64 m0, .int .i64 m1, .int .i64 d0, .int .i64 d1, .int .i64 g, .slice A n q] 52)) g1) g2 = W3 at *
        have x0 : W3.cell? ⟨w.heap.size, 0, none⟩ = some (.int .i64 m0) := (@block_cells _ _ 0 _ _ hbox).trans rfl
        have x1 : W3.cell? ⟨w.heap.size, 1, none⟩ = some (.int .i64 m1) := (@block_cells _ _ 1 _ _ hbox).trans rfl
        have x2 : W3.cell? ⟨w.heap.size, 2, none⟩ = some (.int .i64 d0) := (@block_cells _ _ 2 _ _ hbox).trans rfl
        have x3 : W3.cell? ⟨w.heap.size, 3, none⟩ = some (.int .i64 d1) := (@block_cells _ _ 3 _ _ hbox).trans rfl
        have x4 : W3.cell? ⟨w.heap.size, 4, none⟩ = some (.int .i64 g) := (@block_cells _ _ 4 _ _ hbox).trans rfl
        have x5 : W3.cell? ⟨w.heap.size, 5, none⟩ = some (.slice A n q) := (@block_cells _ _ 5 _ _ hbox).trans rfl
        haveI : Old w.heap.size W3 := hbox.old
        have HBOX := Lib.hid hbox; have HGW := Lib.hid hgw; clear hbox hgw
        have hI0 : Lib.IsBuilderF 83 5 W3.heap.size W3.heap.size (Lib.byteCells []) (W3.alloc (.cells #[.pointer none, .slice none 0 0] 83)) := Lib.IsBuilderF.of (Lib.fresh_isBuilder 83 5 W3)
        have HI0 := Lib.hid hI0; clear hI0
        have HST := Lib.hid (fun W (_ : Tb W) => stageText_any m0 m1 d0 d1 g HBD.out W)
        have hstl := stageWords_len HBD.out
        go_upto_region 7 with (first | (go_at_call 30; ((with_reducible refine (HST.out _ inferInstance).mono ?_); rintro _ _ ⟨rfl, g3, rfl⟩)))
        have hsz0 : (Lib.byteCells []).length + (({ data := (stageTextL m0 m1 d0 d1 g).toArray } : ByteArray) ++ { data := #[10] }).size ≤ 140737488355328 := by rw [line_size]; simp [Lib.byteCells]; omega
        have HSZ0 := Lib.hid hsz0; clear hsz0 hstl
        go_wp2_with ((go_at_call 43; (refine (writeString_k W3.heap.size W3.heap.size (Lib.byteCells []) _ _ (bld_gr HI0.out gri) HSZ0.out (gri : Gr W3 _).below.size).mono ?_); rintro _ W4 ⟨rfl, h4, b4, k4⟩; have x5b : W4.cell? ⟨w.heap.size, 5, none⟩ = some (.slice A n q) := (b4.cell (p := ⟨w.heap.size, 5, none⟩) (inferInstance : Old w.heap.size W3).lt).trans ((@block_cells _ _ 5 _ _ (HBOX.out.gr gri)).trans rfl)))
        go_loopw [28] (fun iv wr => ∃ j : Nat, iv = .int .i64 j ∧ j ≤ n ∧ Lib.IsBuilderF 83 5 W3.heap.size W3.heap.size (Lib.byteCells (glueL ((linesOf m0 m1 d0 d1 g l).take (j + 1)))) wr ∧ Below W3.heap.size W3 wr) (fun iv _ => n - (intOf iv).toNat)
        case atStart =>
          have h4' : Lib.IsBuilderF 83 5 W3.heap.size W3.heap.size _ W4 := Or.inr h4
          rw [line_cells] at h4'
          exact ⟨0, rfl, Nat.zero_le _, by simpa [linesOf, glueL, Lib.byteCells] using h4', (gri : Gr W3 _).below.trans b4⟩
        case round =>
          obtain ⟨j, rfl, hj, hI, hbw⟩ := hrel
          have hlj : ((Lib.byteCells (glueL ((linesOf m0 m1 d0 d1 g l).take (j + 1)))).length : Int) ≤ 16777216 := by
            have h1 := glue_take_le (linesOf m0 m1 d0 d1 g l) (j + 1)
            have h2 := HSZ.out
            unfold scTextL at h2
            rw [Lib.byteCells_length]
            omega
          have HI := Lib.hid hI; clear hI
          haveI : From W3 wr := ⟨hbw.size⟩
          haveI : GrC W3 wr := ⟨hbw⟩
          by_cases hlt : j < n
          · have hjl : j < l.length := by have := HL.out; omega
            have hgj := List.getElem?_eq_getElem hjl
            obtain ⟨b, o, rfl, hb, hc⟩ := (H.out.gr HGW.out).at_ (by rintro rfl; simp at hjl)
            obtain ⟨Ad, qd, Av, qv, hm⟩ := hc j _ hgj
            have hmay := noMay_no HNM.out _ (List.mem_of_getElem? hgj)
            have htk : (linesOf m0 m1 d0 d1 g l).take (j + 1 + 1) = (linesOf m0 m1 d0 d1 g l).take (j + 1) ++ [(l[j]).text] := by
              have h1 : (linesOf m0 m1 d0 d1 g l)[j + 1]? = some (l[j]).text := by
                rw [linesOf, List.getElem?_cons_succ, List.getElem?_map, hgj]; rfl
              rw [List.take_add_one (i := j + 1), h1]; rfl
            generalize l[j] = a at *
            obtain ⟨k, nd, m, ⟨ok, ov, ot, os, oa, oc, od⟩, f, pk⟩ := a
            have v0 : wr.cell? ⟨b, o + j * 12, none⟩ = some (.int .i64 k) := (hbw.cell (p := ⟨b, o + j * 12, none⟩) hb).trans (hm.c 0 _ rfl)
            have v1 : wr.cell? ⟨b, o + j * 12 + 1, none⟩ = some (.int .i64 nd) := (hbw.cell (p := ⟨b, o + j * 12 + 1, none⟩) hb).trans (hm.c 1 _ rfl)
            have v2 : wr.cell? ⟨b, o + j * 12 + 2, none⟩ = some (.int .i64 m) := (hbw.cell (p := ⟨b, o + j * 12 + 2, none⟩) hb).trans (hm.c 2 _ rfl)
            have v3 : wr.cell? ⟨b, o + j * 12 + 3, none⟩ = some (.int .i64 ok) := (hbw.cell (p := ⟨b, o + j * 12 + 3, none⟩) hb).trans (hm.c 3 _ rfl)
            have v4 : wr.cell? ⟨b, o + j * 12 + 4, none⟩ = some (.int .u64 ov) := (hbw.cell (p := ⟨b, o + j * 12 + 4, none⟩) hb).trans (hm.c 4 _ rfl)
            have v5 : wr.cell? ⟨b, o + j * 12 + 5, none⟩ = some (.int .u64 ot) := (hbw.cell (p := ⟨b, o + j * 12 + 5, none⟩) hb).trans (hm.c 5 _ rfl)
            have v6 : wr.cell? ⟨b, o + j * 12 + 6, none⟩ = some (.int .i64 os) := (hbw.cell (p := ⟨b, o + j * 12 + 6, none⟩) hb).trans (hm.c 6 _ rfl)
            have v7 : wr.cell? ⟨b, o + j * 12 + 7, none⟩ = some (.int .i64 oa) := (hbw.cell (p := ⟨b, o + j * 12 + 7, none⟩) hb).trans (hm.c 7 _ rfl)
            have v8 : wr.cell? ⟨b, o + j * 12 + 8, none⟩ = some (.int .i64 oc) := (hbw.cell (p := ⟨b, o + j * 12 + 8, none⟩) hb).trans (hm.c 8 _ rfl)
            have v9 : wr.cell? ⟨b, o + j * 12 + 9, none⟩ = some (.slice Ad od.length qd) := (hbw.cell (p := ⟨b, o + j * 12 + 9, none⟩) hb).trans (hm.c 9 _ rfl)
            have v10 : wr.cell? ⟨b, o + j * 12 + 10, none⟩ = some (.bool f) := (hbw.cell (p := ⟨b, o + j * 12 + 10, none⟩) hb).trans (hm.c 10 _ rfl)
            have v11 : wr.cell? ⟨b, o + j * 12 + 11, none⟩ = some (.slice Av pk.length qv) := (hbw.cell (p := ⟨b, o + j * 12 + 11, none⟩) hb).trans (hm.c 11 _ rfl)
            haveI : Old b wr := ⟨Nat.lt_of_lt_of_le hb hbw.size⟩
            have hji : (j : Int) < (n : Int) := by omega
            have HTX := Lib.hid (fun W (_ : Tb W) (hW : Gr W3 W) => actText_any k nd m ok ov ot os oa oc Ad Av od.length qd pk.length qv f od pk W hm.n0 hm.n1 hm.m0 hm.m1 hm.bd rfl hm.ld (hm.d.gr hW) rfl hm.lv hm.pk (hm.v.gr hW) hmay)
            obtain ⟨T, hT⟩ : ∃ T, (⟨k, nd, m, ⟨ok, ov, ot, os, oa, oc, od⟩, f, pk⟩ : ActV).text = T := ⟨_, rfl⟩
            have hT2 : actTextL k nd m ok ov ot os oa oc f od pk = T := hT
            rw [hT2] at HTX
            rw [hT] at htk
            have hsz9 : (Lib.byteCells (glueL ((linesOf m0 m1 d0 d1 g l).take (j + 1)))).length + (({ data := T.toArray } : ByteArray) ++ { data := #[10] }).size ≤ 140737488355328 := by
              have h1 := glue_take_le (linesOf m0 m1 d0 d1 g l) (j + 1 + 1)
              rw [htk, glueL_snoc] at h1
              have h2 := HSZ.out
              unfold scTextL at h2
              rw [line_size, Lib.byteCells_length]
              simp only [List.length_append] at h1
              omega
            have hTl : T.length ≤ 16777216 := by
              have h1 := glue_take_le (linesOf m0 m1 d0 d1 g l) (j + 1 + 1)
              rw [htk, glueL_snoc] at h1
              have h2 := HSZ.out
              unfold scTextL at h2
              simp only [List.length_append] at h1
              omega
            have HS9 := Lib.hid hsz9; have HTK := Lib.hid htk; have HBW := Lib.hid hbw
            clear hm hc hmay hgj hjl hT hT2 hsz9 htk
            haveI : Tb wr := htb3.of_below hbw
            go_wp2_with (first | (go_at_call 44; (refine (Tryd.Builder_Len_f W3.heap.size W3.heap.size _ _ (bld_gr HI.out gri)).mono ?_); rintro _ _ ⟨rfl, rfl⟩) | (go_at_call 45; ((with_reducible refine (HTX.out _ inferInstance gri).mono ?_); rintro _ _ ⟨rfl, g5, rfl⟩)) | (go_at_call 43; (refine (writeString_k W3.heap.size W3.heap.size _ _ _ (bld_gr HI.out gri) HS9.out (gri : Gr W3 _).below.size).mono ?_); rintro _ W6 ⟨rfl, h6, b6, k6⟩))
            go_roundw
            case rel =>
              have h6' : Lib.IsBuilderF 83 5 W3.heap.size W3.heap.size _ W6 := Or.inr h6
              rw [line_cells, ← Lib.byteCells_append, ← List.append_assoc, ← glueL_snoc, ← HTK.out] at h6'
              exact ⟨j + 1, by go_num, by omega, h6', (gri : Gr W3 _).below.trans b6⟩
            case measure => simp [intOf]; omega
          · have hji : ¬ (j : Int) < (n : Int) := by omega
            have hall : (linesOf m0 m1 d0 d1 g l).take (j + 1) = linesOf m0 m1 d0 d1 g l := List.take_of_length_le (by have := HL.out; simp [linesOf]; omega)
            have hI2 := HI.out
            rw [hall] at hI2 hlj
            have HI2 := Lib.hid hI2; clear hI2 hall HI
            obtain ⟨N, hN⟩ : ∃ N : Nat, (Lib.byteCells (glueL (linesOf m0 m1 d0 d1 g l))).length = N := ⟨_, rfl⟩
            have HLN := Lib.hid (show Calls Tryd.prog 44 #[.pointer (some ⟨W3.heap.size, 0, none⟩)] wr (fun e w' => e = .returned (.int .i64 (N : Int)) ∧ w' = wr) from hN ▸ Tryd.Builder_Len_f W3.heap.size W3.heap.size _ wr HI2.out)
            rw [hN] at hlj
            clear hN
            obtain ⟨T, hT⟩ : ∃ T, glueL (linesOf m0 m1 d0 d1 g l) = T := ⟨_, rfl⟩
            have HST9 := Lib.hid (show Calls Tryd.prog 46 #[.pointer (some ⟨W3.heap.size, 0, none⟩)] wr (fun e w' => e = .returned (.string ⟨T.toArray⟩) ∧ (Lib.IsBuilderF 83 5 W3.heap.size W3.heap.size (Lib.byteCells T) w' ∧ Below W3.heap.size wr w')) from hT ▸ Tryd.Builder_String_any_f W3.heap.size W3.heap.size (glueL (linesOf m0 m1 d0 d1 g l)) _ HI2.out hbw.size)
            have HTT := Lib.hid hT; have HBW := Lib.hid hbw
            clear hT hbw
            have hlj2 : ¬ (16777216 : Int) < (N : Int) := by omega
            clear hlj
            go_wp2_with (first | (go_at_call 44; (with_reducible refine (HLN.out).mono ?_); rintro _ _ ⟨rfl, rfl⟩) | (go_at_call 46; (with_reducible refine (HST9.out).mono ?_); rintro _ W7 ⟨rfl, _, b7⟩))
            go_ret2
            exact ⟨by rw [HE.out, HS.out, ← HTT.out]; rfl, Gr.of (HGW.out.below.trans ((HBW.out.trans b7).mono HGW.out.below.size))⟩
      · have h5i : (5000 : Int) < (n : Int) := by omega
        have h6 : 5000 < l.length := by have := HL.out; omega
        have hE : tE m0 m1 d0 d1 g l = 3 := by simp [tE, hs, hb, h6]
        have hS : tS m0 m1 d0 d1 g l = ⟨#[]⟩ := by simp [tS, hE]
        have HE := Lib.hid hE; have HS := Lib.hid hS; clear hE hS hs hb hbd h6
        go_enter Tryd.func20, Tryd.ntmps20
        go_wp2_with (first | (go_at_call 13; ((with_reducible refine (HMS.out _).mono ?_); rintro _ _ ⟨rfl, g1, rfl⟩)) | (go_at_call 41; ((with_reducible refine (HCO.out _ gri).mono ?_); rintro _ _ ⟨rfl, g2, rfl⟩)))
        go_ret2
        exact ⟨by rw [HE.out, HS.out]; rfl, gri⟩
  · rw [hs] at HMS
    have hE : tE m0 m1 d0 d1 g l = 2 := by simp [tE, hs]
    have hS : tS m0 m1 d0 d1 g l = ⟨#[]⟩ := by simp [tS, hE]
    have HE := Lib.hid hE; have HS := Lib.hid hS; clear hE hS hs
    go_enter Tryd.func20, Tryd.ntmps20
    go_wp2_with ((go_at_call 13; ((with_reducible refine (HMS.out _).mono ?_); rintro _ _ ⟨rfl, g1, rfl⟩)))
    go_ret2
    exact ⟨by rw [HE.out, HS.out]; rfl, gri⟩
end Go.Proofs.YtgjdgafoidppaaaDoor
namespace Go.Proofs.YtgjdgafoidppaaaDoor
open Go.RowKit
set_option linter.unusedVariables false
set_option linter.unusedSimpArgs false
set_option linter.unnecessarySimpa false
def allA : ActV := ⟨10, 0, 0, zOp, false, []⟩
def tickA : ActV := ⟨3, 0, 0, zOp, false, []⟩
def manyA (n : Nat) : List ActV := List.replicate n allA
theorem allA_may : allA.may = true := by decide +kernel
theorem tickA_may : tickA.may = true := by decide +kernel
theorem allA_text : allA.text = [97, 108, 108] := by decide +kernel
theorem st_may : mayStB 240 16 480 1 480 = true := by decide +kernel
theorem manyA_len (n : Nat) : (manyA n).length = n := List.length_replicate
theorem manyA_may (n : Nat) : ∀ a ∈ manyA n, a.may = true := fun a h => by rw [(List.mem_replicate.1 h).2]; exact allA_may
theorem manyA_no (n : Nat) : noMay (manyA n) = false := by
  rw [noMay, List.any_eq_false]
  intro a ha
  rw [manyA_may n a ha]; simp
def topL : List UInt8 := scTextL 240 16 480 1 480 (manyA 5000)
def topT : ByteArray := ⟨topL.toArray⟩
theorem glue_many (n : Nat) : (glueL ((manyA n).map ActV.text)).length = 4 * n := by
  have e : (manyA n).map ActV.text = List.replicate n [97, 108, 108] := by rw [manyA, List.map_replicate, allA_text]
  rw [e]
  induction n with
  | zero => rfl
  | succ n ih =>
    have h := ih (by rw [manyA, List.map_replicate, allA_text])
    have h2 : glueL (List.replicate (n + 1) [97, 108, 108]) = [97, 108, 108] ++ 10 :: glueL (List.replicate n [97, 108, 108]) := by rw [List.replicate_succ, glueL]
    rw [h2, List.length_append, List.length_cons]
    simp only [List.length_cons, List.length_nil] at h ⊢
    omega
theorem topL_len : topL.length ≤ 30000 := by
  have h1 := stage_small st_may
  have h2 := glue_many 5000
  simp only [topL, scTextL, linesOf, glueL, List.length_append, List.length_cons] at h2 ⊢
  omega
theorem top_e : tE 240 16 480 1 480 (manyA 5000) = 0 := by
  have h : ¬ 5000 < (manyA 5000).length := by rw [manyA_len]; omega
  rw [tE, st_may, manyA_no, if_neg h]; rfl
theorem top_s : tS 240 16 480 1 480 (manyA 5000) = topT := by rw [tS, if_pos top_e]; rfl
theorem top_back : BackS topT 240 16 480 1 480 (manyA 5000) := script_back topT _ _ _ _ _ _ st_may (manyA_may 5000) (by rw [manyA_len]; omega) (by simp [topT, topL])
def moreT : ByteArray := topT ++ ⟨#[116, 105, 99, 107, 32, 48, 10]⟩
theorem glueL_app (p q : List (List UInt8)) : glueL (p ++ q) = glueL p ++ glueL q := by
  induction p with
  | nil => rfl
  | cons x p ih => simp [glueL, ih]
theorem moreT_data : moreT.data.toList = glueL (linesOf 240 16 480 1 480 (manyA 5000) ++ [[116, 105, 99, 107, 32, 48]]) := by
  rw [glueL_app]
  simp [moreT, topT, topL, scTextL, glueL]
theorem moreT_size : moreT.size ≤ 40000 := by
  have h := topL_len
  have e : moreT.size = topL.length + 7 := by rw [moreT, ByteArray.size_append]; rfl
  omega
theorem badAt_top (l : List ActV) (h : l.length = 5000) (hl : ∀ a ∈ l, a.may = true) (y : ByteArray) (x : ByteArray) (hx : goodSt x = true) : badAt 0 (x :: (l.map ActV.text).map lineB ++ [y]) = 5001 := by
  have h1 : badAt 0 (x :: (l.map ActV.text).map lineB) = 0 + (x :: (l.map ActV.text).map lineB).length := by
    rw [badAt, if_pos (by rw [goodL, if_pos rfl]; exact hx), badAt_acts l 1 (by omega) (by omega) hl]
    simp; omega
  rw [badAt_app _ _ 0 h1]
  have h2 : 0 + (x :: (l.map ActV.text).map lineB).length = 5001 := by simp [h]
  rw [h2, badAt, if_neg]
  simp [goodL]
theorem more_bad : pAt moreT = 5001 ∧ pE moreT = 4 := by
  have hno : ∀ x ∈ linesOf 240 16 480 1 480 (manyA 5000) ++ [[116, 105, 99, 107, 32, 48]], (10 : UInt8) ∉ x := by
    intro x hx
    rcases List.mem_append.1 hx with hx | hx
    · exact linesOf_no _ _ _ _ _ _ x hx
    · obtain rfl : x = [116, 105, 99, 107, 32, 48] := by simpa using hx
      decide
  obtain ⟨e1, e2⟩ := glue_lines _ hno moreT moreT_data
  obtain ⟨s0, _⟩ := stage_back 240 16 480 1 480 st_may
  have e3 : linesB moreT = lineB (stageTextL 240 16 480 1 480) :: ((manyA 5000).map ActV.text).map lineB ++ [lineB [116, 105, 99, 107, 32, 48]] := by
    rw [e1, List.map_append]; rfl
  have hb : badAt 0 (linesB moreT) = 5001 := by rw [e3]; exact badAt_top (manyA 5000) (manyA_len 5000) (manyA_may 5000) _ _ s0
  have hlen : (linesB moreT).length = 5002 := by rw [e1, List.length_map, List.length_append, linesOf, List.length_cons, List.length_map, manyA_len]; rfl
  have hg : pGood moreT = false := by rw [pGood, hb, hlen]; rfl
  exact ⟨by rw [pAt, if_neg (by rw [hg]; simp), hb], by rw [pE, if_neg (by rw [hg]; simp)]⟩
theorem over_e : tE 240 16 480 1 480 (manyA 5000 ++ [tickA]) = 3 := by
  have h : 5000 < (manyA 5000 ++ [tickA]).length := by rw [List.length_append, manyA_len]; exact Nat.lt_succ_self 5000
  have h2 : noMay (manyA 5000 ++ [tickA]) = false := by
    have := manyA_no 5000
    unfold noMay at this ⊢
    rw [List.any_append, this]
    simp [tickA_may]
  rw [tE, st_may, h2, if_pos h]; rfl
end Go.Proofs.YtgjdgafoidppaaaDoor
namespace Go.Proofs.YtgjdgafoidppaaaDoor
open Go.RowKit
set_option linter.unusedVariables false
set_option linter.unusedSimpArgs false
set_option linter.unnecessarySimpa false
theorem num26_any (n : Int) (w : World) : Calls Tryd.prog 12 #[.int .i64 n] w fun e w' => e = .returned (.int .i64 n) ∧ w = w' := by
  go_enter Tryd.func12, Tryd.ntmps12
  go_wp2
  go_ret
  exact ⟨rfl, rfl⟩
theorem dec_small (u : Nat) (h : u < 10) : Lib.decDigits u = [UInt8.ofNat (48 + u)] := by rw [Lib.decDigits, dif_pos h]
theorem itoa_small (u : Nat) (h : u < 10) : Lib.itoa (u : Int) = [UInt8.ofNat (48 + u)] := by rw [Lib.itoa_nonneg, dec_small u h]
theorem known_text1 : actTextL 4 1 0 0 0 0 0 0 0 false [] [0, 2] = [111, 102, 102, 32, 49, 32, 48, 44, 50] := by
  have e0 : Lib.itoa 0 = [48] := itoa_small 0 (by omega)
  have e1 : Lib.itoa 1 = [49] := itoa_small 1 (by omega)
  have e2 : Lib.itoa 2 = [50] := itoa_small 2 (by omega)
  simp [actTextL, actPieces, rowL, pickT, e0, e1, e2, Lib.join, List.intercalate]
def blk7 : List UInt8 := 7 :: List.replicate 127 0
theorem known_data : dataL blk7 = [48, 55, 44, 45] := by decide +kernel
theorem known_text2 : actTextL 1 0 0 5 3 0 0 5 0 false blk7 [] = [97, 115, 107, 32, 48, 32, 119, 114, 105, 116, 101, 32, 51, 32, 53, 32, 48, 55, 44, 45] := by
  have e0 : Lib.itoa 0 = [48] := itoa_small 0 (by omega)
  have e5 : Lib.itoa 5 = [53] := itoa_small 5 (by omega)
  have e3 : Lib.decDigits 3 = [51] := dec_small 3 (by omega)
  simp [actTextL, actPieces, opTextL, opPieces, known_data, e0, e3, e5, Lib.join, List.intercalate]
theorem known_may1 : mayActB 4 1 0 0 0 0 0 0 0 false 0 2 [] [0, 2] = true := by decide
theorem known_may2 : mayActB 1 0 0 5 3 0 0 5 0 false 128 0 blk7 [] = true := by decide +kernel
theorem bd0 : Bd 0 0 0 0 0 := ⟨by omega, by omega, by omega, by omega, by omega, by omega, by omega, by omega, by omega, by omega⟩
theorem bd1 : Bd 3 0 0 5 0 := ⟨by omega, by omega, by omega, by omega, by omega, by omega, by omega, by omega, by omega, by omega⟩
theorem known_call1 (b : Nat) (W : World) [hk : Tb W] (hb : b < W.heap.size) (c0 : W.cell? ⟨b, 0, none⟩ = some (.int .i64 0)) (c1 : W.cell? ⟨b, 1, none⟩ = some (.int .i64 2)) :
    Calls Tryd.prog 26 #[(Value.agg #[.int .i64 4, .int .i64 1, .int .i64 0, .int .i64 0, .int .u64 0, .int .u64 0, .int .i64 0, .int .i64 0, .int .i64 0, .slice none 0 0, .bool false, .slice (some ⟨b, 0, none⟩) 2 2])] W fun e w' => e = .returned (.tuple #[.string ⟨#[111, 102, 102, 32, 49, 32, 48, 44, 50]⟩, .int .i64 0]) ∧ Gr W w' := by
  have h := ActText_any 4 1 0 0 0 0 0 0 0 none (some ⟨b, 0, none⟩) 0 0 2 2 false [] [0, 2] W (by omega) (by omega) (by omega) (by omega) bd0 rfl (by omega) Row.nil rfl (by omega) ⟨by intro n hn; simp at hn; omega, by intro n hn; simp at hn; omega⟩ ⟨fun _ => ⟨b, 0, rfl, hb, fun j x hx => by
    match j, hx with
    | 0, hx => simp at hx; subst hx; exact c0
    | 1, hx => simp at hx; subst hx; exact c1⟩⟩ (by omega) (by omega)
  rw [known_may1, known_text1] at h
  exact h
theorem known_call2 (b : Nat) (W : World) [hk : Tb W] (hr : Row bv W (some ⟨b, 0, none⟩) blk7) :
    Calls Tryd.prog 26 #[(Value.agg #[.int .i64 1, .int .i64 0, .int .i64 0, .int .i64 5, .int .u64 3, .int .u64 0, .int .i64 0, .int .i64 5, .int .i64 0, .slice (some ⟨b, 0, none⟩) 128 128, .bool false, .slice none 0 0])] W fun e w' => e = .returned (.tuple #[.string ⟨#[97, 115, 107, 32, 48, 32, 119, 114, 105, 116, 101, 32, 51, 32, 53, 32, 48, 55, 44, 45]⟩, .int .i64 0]) ∧ Gr W w' := by
  have h := ActText_any 1 0 0 5 3 0 0 5 0 (some ⟨b, 0, none⟩) none 128 128 0 0 false blk7 [] W (by omega) (by omega) (by omega) (by omega) bd1 rfl (by omega) hr rfl (by omega) ⟨by intro n hn; simp at hn, by intro n hn; simp at hn⟩ Row.nil (by omega) (by omega)
  rw [known_may2, known_text2] at h
  exact h
def zeros128 : Array Value := Array.replicate 128 (.int .u8 0)
theorem make128 (W : World) : (Instr.makeSlice 41 (.int .i64 128) (.int .i64 128)).run Tryd.prog W = .ok (.slice (some ⟨W.heap.size, 0, none⟩) 128 128) (W.alloc (.cells zeros128 5)) := by kernel_rfl
theorem zeros128_at (j : Nat) (h : j < 128) : zeros128[j]? = some (.int .u8 0) := by
  unfold zeros128; rw [Array.getElem?_replicate, if_pos h]
theorem blk7_at (j : Nat) (x : UInt8) (h : blk7[j]? = some x) : j < 128 ∧ (j = 0 ∧ x = 7 ∨ j ≠ 0 ∧ x = 0) := by
  have hl : j < 128 := by
    have := (List.getElem?_eq_some_iff.1 h).1
    simpa [blk7] using this
  refine ⟨hl, ?_⟩
  cases j with
  | zero => left; simp [blk7] at h; exact ⟨rfl, h.symm⟩
  | succ j =>
    right
    have h2 : j < 127 := by omega
    have h3 : (List.replicate 127 (0 : UInt8))[j]? = some x := h
    rw [List.getElem?_replicate, if_pos h2] at h3
    exact ⟨by omega, (Option.some.inj h3).symm⟩
set_option maxRecDepth 100000 in
set_option maxHeartbeats 2000000 in
theorem known26_any (w : World) [hk : Tb w] : Calls Tryd.prog 9 #[] w fun e w' => e = .returned (.bool true) ∧ Gr w w' := by
  have C1 := Lib.hid (fun b W (_ : Tb W) hb c0 c1 => known_call1 b W hb c0 c1)
  have C2 := Lib.hid (fun b W (_ : Tb W) hr => known_call2 b W hr)
  go_enter Tryd.func9, Tryd.ntmps9
  go_wp2_with (go_at_call 26; ((with_reducible refine (C1.out w.heap.size _ inferInstance ?h1 ?h2 ?h3).mono ?_)))
  case h1 => exact (inferInstance : Old _ _).lt
  case h2 => simp [go_sem]
  case h3 => simp [go_sem]
  rintro _ _ ⟨rfl, g, rfl⟩
  clear C1
  have hmk := fun W => make128 W
  have z0 : ∀ W : World, (W.alloc (.cells zeros128 5)).cell? ⟨W.heap.size, 0, none⟩ = some (.int .u8 0) := fun W => by rw [World.cell?_alloc_new]; exact zeros128_at 0 (by omega)
  go_wp2_with (go_at_call 26; ((with_reducible refine (C2.out _ _ inferInstance ?h4).mono ?_)))
  case h4 =>
    refine ⟨fun _ => ⟨_, 0, rfl, (inferInstance : Old _ _).lt, fun j x hx => ?_⟩⟩
    obtain ⟨hj, h5⟩ := blk7_at j x hx
    have hs : zeros128.size = 128 := by unfold zeros128; simp
    rw [Nat.zero_add, World.cell?_alloc_new, Array.getElem?_setIfInBounds]
    rcases h5 with ⟨rfl, rfl⟩ | ⟨h6, rfl⟩
    · simp [hs]; rfl
    · rw [if_neg (fun e => h6 e.symm)]
      exact zeros128_at j hj
  rintro _ _ ⟨rfl, g2, rfl⟩
  go_wp2_with (go_at_call 12; ((with_reducible refine (num26_any _ _).mono ?_); rintro _ _ ⟨rfl, rfl⟩))
  go_ret
  exact ⟨rfl, gri⟩
end Go.Proofs.YtgjdgafoidppaaaDoor
namespace Go.Proofs.YtgjdgafoidppaaaDoor
open Go.RowKit
set_option linter.unusedVariables false
set_option linter.unusedSimpArgs false
set_option linter.unnecessarySimpa false
def zAM (a : ActV) : AM := ⟨a, none, 0, none, 0⟩
theorem zAM_ok (k : Int) (W : World) : (zAM ⟨k, 0, 0, zOp, false, []⟩).Ok W :=
  ⟨⟨by simp [zAM, zOp], by simp [zAM, zOp], by simp [zAM, zOp], by simp [zAM, zOp], by simp [zAM, zOp], by simp [zAM, zOp], by simp [zAM, zOp], by simp [zAM, zOp], by simp [zAM, zOp], by simp [zAM, zOp]⟩, by simp [zAM], by simp [zAM], by simp [zAM], by simp [zAM], Nat.le_refl _, by simp [zAM, zOp], ⟨0, OwnR.nil _ _⟩, Nat.le_refl _, by simp [zAM], ⟨fun n hn => by simp [zAM] at hn, fun n hn => by simp [zAM] at hn⟩, ⟨0, OwnR.nil _ _⟩⟩
def manyM (n : Nat) : List AM := List.replicate n (zAM allA)
theorem manyM_len (n : Nat) : (manyM n).length = n := List.length_replicate
theorem manyM_a (n : Nat) : (manyM n).map (·.a) = manyA n := by rw [manyM, List.map_replicate]; rfl
theorem manyM_ok (n : Nat) (W : World) : ∀ x ∈ manyM n, x.Ok W := fun x h => by rw [(List.mem_replicate.1 h).2]; exact zAM_ok 10 W
theorem manyM_next (n : Nat) : manyM n ++ [zAM allA] = manyM (n + 1) := by rw [manyM, manyM, List.replicate_succ']
def zsI (n : Nat) : Array Value := Array.replicate n (.int .i64 0)
theorem mkz99 (w : World) : (Instr.makeSlice 54 (.int .i64 99) (.int .i64 99)).run Tryd.prog w = .ok (.slice (some ⟨w.heap.size, 0, none⟩) 99 99) (w.alloc (.cells (zsI 99) 3)) := by kernel_rfl
theorem mkz100 (w : World) : (Instr.makeSlice 54 (.int .i64 100) (.int .i64 100)).run Tryd.prog w = .ok (.slice (some ⟨w.heap.size, 0, none⟩) 100 100) (w.alloc (.cells (zsI 100) 3)) := by kernel_rfl
theorem mkz101 (w : World) : (Instr.makeSlice 54 (.int .i64 101) (.int .i64 101)).run Tryd.prog w = .ok (.slice (some ⟨w.heap.size, 0, none⟩) 101 101) (w.alloc (.cells (zsI 101) 3)) := by kernel_rfl
set_option maxRecDepth 100000 in
set_option maxHeartbeats 8000000 in
theorem limits_walk (w : World) [hk : Tb w] [hml : Ml w] : Calls Tryd.prog 6 #[] w fun e w' => e = .returned (.bool true) ∧ Gr w w' := by
  go_enter Tryd.func6, Tryd.ntmps6
  go_wp2
  go_loopw [2] (fun iv wr => ∃ (j : Nat) (v : Value), iv = .int .i64 j ∧ j ≤ 5000 ∧ BlockAt wr w.heap.size #[.int .i64 240, .int .i64 16, .int .i64 480, .int .i64 1, .int .i64 480, v] 52 ∧ OwnA (w.heap.size + 1) wr v (manyM j) ∧ Gr w wr) (fun iv _ => 5000 - (intOf iv).toNat)
  case atStart => exact ⟨0, .slice none 0 0, rfl, Nat.zero_le _, (by show BlockAt _ _ #[.int .i64 240, .int .i64 16, .int .i64 480, .int .i64 1, .int .i64 480, .slice none 0 0] _; infer_instance), OwnA.nil _ _, gri⟩
  case round =>
    obtain ⟨j, v, rfl, hj, bX, hown, hgr⟩ := hrel
    obtain ⟨gj, rfl⟩ := hgr
    have HOW := Lib.hid hown; have BX := Lib.hid bX
    have hlt0 : w.heap.size < (grown w gj).heap.size := bX.lt
    have x0 : (grown w gj).cell? ⟨w.heap.size, 0, none⟩ = some (.int .i64 240) := (@block_cells _ _ 0 _ _ bX).trans rfl
    have x1 : (grown w gj).cell? ⟨w.heap.size, 1, none⟩ = some (.int .i64 16) := (@block_cells _ _ 1 _ _ bX).trans rfl
    have x2 : (grown w gj).cell? ⟨w.heap.size, 2, none⟩ = some (.int .i64 480) := (@block_cells _ _ 2 _ _ bX).trans rfl
    have x3 : (grown w gj).cell? ⟨w.heap.size, 3, none⟩ = some (.int .i64 1) := (@block_cells _ _ 3 _ _ bX).trans rfl
    have x4 : (grown w gj).cell? ⟨w.heap.size, 4, none⟩ = some (.int .i64 480) := (@block_cells _ _ 4 _ _ bX).trans rfl
    obtain ⟨A, c, rfl, hc, hrow⟩ := hown.row (manyM_ok j _)
    rw [manyM_len] at hc
    have HC := Lib.hid hc
    rw [manyM_len] at HOW BX bX
    have x5 : (grown w gj).cell? ⟨w.heap.size, 5, none⟩ = some (.slice A j c) := (@block_cells _ _ 5 _ _ bX).trans rfl
    have u5 : (grown w gj).frozen? ⟨w.heap.size, 5, none⟩ = false := @block_frozen _ _ 5 _ _ bX
    rw [manyM_a] at hrow
    have HROW := Lib.hid hrow
    haveI : Old w.heap.size (grown w gj) := bX.old
    clear hown bX hc hrow
    by_cases hlt : j < 5000
    · have hji : (j : Int) < 5000 := by omega
      go_wp2_with (at_builtin; refine wp_append_act rfl _ _ rfl (w.heap.size + 1) (.slice A j c) (manyM j) ?hs1 ?own1 (zAM allA) _ rfl ?hc1 ?len1 ?base1 ?_)
      case hs1 => rfl
      case own1 => exact HOW.out.gr gri
      case hc1 => show BlockAt _ _ #[.int .i64 10, .int .i64 0, .int .i64 0, .int .i64 0, .int .u64 0, .int .u64 0, .int .i64 0, .int .i64 0, .int .i64 0, .slice none 0 0, .bool false, .slice none 0 0] 56; infer_instance
      case len1 => rw [manyM_len]; omega
      case base1 => simp; omega
      intro v4 W4 a4
      have bX4 : BlockAt W4 w.heap.size #[.int .i64 240, .int .i64 16, .int .i64 480, .int .i64 1, .int .i64 480, (.slice A j c)] 52 := a4.keep _ _ _ (BX.out.gr gri) (by decide)
      have hown4 := a4.own
      rw [manyM_next] at hown4
      obtain ⟨A4, c4, rfl, hc4, _⟩ := hown4.row (manyM_ok (j + 1) _)
      rw [manyM_len] at hown4 ⊢
      have hw4 : Gr w W4 := Gr.of ((gri : Gr w _).below.trans (a4.below.mono (by omega)))
      have u5 : W4.frozen? ⟨w.heap.size, 5, none⟩ = false := @block_frozen _ _ 5 _ _ bX4
      have x5 : W4.cell? ⟨w.heap.size, 5, none⟩ = some (.slice A j c) := (@block_cells _ _ 5 _ _ bX4).trans rfl
      have HO4 := Lib.hid hown4; have BX4 := Lib.hid bX4; have HW4 := Lib.hid hw4
      haveI : Old w.heap.size W4 := bX4.old
      clear hown4 bX4 hw4 a4 hc4
      go_wp2
      go_roundw
      case rel =>
        haveI := BX4.out
        exact ⟨j + 1, .slice A4 (j + 1) c4, by go_num, by omega, (by show BlockAt _ _ #[.int .i64 240, .int .i64 16, .int .i64 480, .int .i64 1, .int .i64 480, .slice A4 (j + 1) c4] _; infer_instance), HO4.out.set_ w.heap.size 5 _ (by decide), Gr.of (below_set_le HW4.out.below (Nat.le_refl _) _)⟩
      case measure => simp [intOf]; omega
    · obtain rfl : j = 5000 := by omega
      have hji : ¬ (5000 : Int) < 5000 := by omega
      have HT1 := Lib.hid (fun W (_ : Tb W) (hW : Gr (grown w gj) W) => (show Calls Tryd.prog 20 #[.agg #[.int .i64 240, .int .i64 16, .int .i64 480, .int .i64 1, .int .i64 480, .slice A 5000 c]] W (fun e w' => e = .returned (.tuple #[.string topT, .int .i64 0]) ∧ Gr W w') from by
        have h := text_any 240 16 480 1 480 A 5000 c (manyA 5000) W (manyA_len 5000) (by omega) (HROW.out.gr hW) (fun _ _ _ => Nat.le_trans topL_len (by omega))
        rw [top_s, top_e] at h
        exact h))
      have hpr : ∀ (t : ByteArray) (a e9 : Int), t.size ≤ 200000 → (pAt t : Int) = a → pE t = e9 → ∀ W, Tb W → Ml W → Calls Tryd.prog 21 #[.string t] W (fun e w' => ∃ s0 s1 s2 s3 s4 A n q, e = .returned (.tuple #[.agg #[.int .i64 s0, .int .i64 s1, .int .i64 s2, .int .i64 s3, .int .i64 s4, .slice A n q], .int .i64 a, .int .i64 e9]) ∧ Gr W w') := by
        rintro t a e9 ht rfl rfl W h1 h2
        refine (parse_any t ht W).mono ?_
        rintro e w' ⟨A, q, rfl, _, _, g⟩
        exact ⟨_, _, _, _, _, A, _, q, rfl, g⟩
      have HP1 := Lib.hid (fun W (h1 : Tb W) (h2 : Ml W) => hpr topT 0 0 (by have := topL_len; show topL.length ≤ 200000; omega) (by rw [top_back.at_]; rfl) top_back.e W h1 h2)
      have HP2 := Lib.hid (fun W (h1 : Tb W) (h2 : Ml W) => (show Calls Tryd.prog 21 #[.string (topT ++ ⟨#[116, 105, 99, 107, 32, 48, 10]⟩)] W (fun e w' => ∃ s0 s1 s2 s3 s4 A n q, e = .returned (.tuple #[.agg #[.int .i64 s0, .int .i64 s1, .int .i64 s2, .int .i64 s3, .int .i64 s4, .slice A n q], .int .i64 5001, .int .i64 4]) ∧ Gr W w') from hpr moreT 5001 4 (by have := moreT_size; omega) (by rw [more_bad.1]; rfl) more_bad.2 W h1 h2))
      clear hpr
      have hts : topT.size ≤ 30000 := by have := topL_len; show topL.length ≤ 30000; omega
      go_wp2_with (first | (go_at_call 20; ((with_reducible refine (HT1.out _ inferInstance gri).mono ?_); rintro _ _ ⟨rfl, g1, rfl⟩)) | (go_at_call 21; ((with_reducible refine (HP1.out _ inferInstance inferInstance).mono ?_); rintro _ _ ⟨s0, s1, s2, s3, s4, A1, n1, q1, rfl, g2, rfl⟩)) | (go_at_call 21; ((with_reducible refine (HP2.out _ inferInstance inferInstance).mono ?_); rintro _ _ ⟨r0, r1, r2, r3, r4, A2, n2, q2, rfl, g3, rfl⟩)) | (at_builtin; refine wp_append_act rfl _ _ rfl (w.heap.size + 1) (.slice A 5000 c) (manyM 5000) ?hs2 ?own2 (zAM tickA) _ rfl ?hc2 ?len2 ?base2 ?_))
      case hs2 => rfl
      case own2 => exact HOW.out.gr gri
      case hc2 => show BlockAt _ _ #[.int .i64 3, .int .i64 0, .int .i64 0, .int .i64 0, .int .u64 0, .int .u64 0, .int .i64 0, .int .i64 0, .int .i64 0, .slice none 0 0, .bool false, .slice none 0 0] 56; infer_instance
      case len2 => rw [manyM_len]; omega
      case base2 => exact Nat.le_trans (Nat.succ_le_of_lt hlt0) (gri : Gr (grown w gj) _).below.size
      intro v4 W4 a4
      have bX4 : BlockAt W4 w.heap.size #[.int .i64 240, .int .i64 16, .int .i64 480, .int .i64 1, .int .i64 480, (.slice A 5000 c)] 52 := a4.keep _ _ _ (BX.out.gr gri) (by decide)
      have hok4 : ∀ (W : World), ∀ x ∈ manyM 5000 ++ [zAM tickA], x.Ok W := fun W x hx => by
        rcases List.mem_append.1 hx with hx | hx
        · exact manyM_ok 5000 W x hx
        · obtain rfl : x = zAM tickA := List.mem_singleton.1 hx
          exact zAM_ok 3 W
      have hl4 : (manyM 5000 ++ [zAM tickA]).length = 5001 := by rw [List.length_append, manyM_len]; rfl
      have ha4 : (manyM 5000 ++ [zAM tickA]).map (·.a) = manyA 5000 ++ [tickA] := by rw [List.map_append, manyM_a]; rfl
      have hla : (manyA 5000 ++ [tickA]).length = 5001 := by rw [List.length_append, manyA_len]; rfl
      have hown4 := a4.own
      obtain ⟨A4, c4, rfl, hc4, _⟩ := hown4.row (hok4 W4)
      rw [hl4] at hown4 ⊢
      have hw4 : Gr w W4 := Gr.of ((gri : Gr w _).below.trans (a4.below.mono (by omega)))
      have hr4 : RowA (W4.setCell ⟨w.heap.size, 5, none⟩ (.slice A4 5001 c4)) A4 (manyA 5000 ++ [tickA]) := by
        obtain ⟨A9, c9, e9, _, h9⟩ := (hown4.set_ w.heap.size 5 (.slice A4 5001 c4) (T := 52) (hB := bX4) (by decide)).row (hok4 _)
        cases e9
        rw [ha4] at h9
        exact h9
      have HT3 := Lib.hid (fun W (_ : Tb W) (hW : Gr (W4.setCell ⟨w.heap.size, 5, none⟩ (.slice A4 5001 c4)) W) => (show Calls Tryd.prog 20 #[.agg #[.int .i64 240, .int .i64 16, .int .i64 480, .int .i64 1, .int .i64 480, .slice A4 5001 c4]] W (fun e w' => e = .returned (.tuple #[.string ⟨#[]⟩, .int .i64 3]) ∧ Gr W w') from by
        have h := text_any 240 16 480 1 480 A4 5001 c4 (manyA 5000 ++ [tickA]) W hla (by omega) (hr4.gr hW) (fun _ _ h => by omega)
        rw [show tS 240 16 480 1 480 (manyA 5000 ++ [tickA]) = ⟨#[]⟩ by rw [tS, over_e]; rfl, over_e] at h
        exact h))
      have x0 : W4.cell? ⟨w.heap.size, 0, none⟩ = some (.int .i64 240) := (@block_cells _ _ 0 _ _ bX4).trans rfl
      have x1 : W4.cell? ⟨w.heap.size, 1, none⟩ = some (.int .i64 16) := (@block_cells _ _ 1 _ _ bX4).trans rfl
      have x2 : W4.cell? ⟨w.heap.size, 2, none⟩ = some (.int .i64 480) := (@block_cells _ _ 2 _ _ bX4).trans rfl
      have x3 : W4.cell? ⟨w.heap.size, 3, none⟩ = some (.int .i64 1) := (@block_cells _ _ 3 _ _ bX4).trans rfl
      have x4 : W4.cell? ⟨w.heap.size, 4, none⟩ = some (.int .i64 480) := (@block_cells _ _ 4 _ _ bX4).trans rfl
      have x5 : W4.cell? ⟨w.heap.size, 5, none⟩ = some (.slice A 5000 c) := (@block_cells _ _ 5 _ _ bX4).trans rfl
      have u5 : W4.frozen? ⟨w.heap.size, 5, none⟩ = false := @block_frozen _ _ 5 _ _ bX4
      haveI : Old w.heap.size W4 := bX4.old
      haveI : GrC w W4 := ⟨hw4.below⟩
      haveI : Tb W4 := hk.of_below hw4.below
      haveI : Far w.heap.size := ⟨hk.size⟩
      clear hown4 bX4 hw4 a4 hc4 hok4 hl4 ha4 hla hr4
      go_wp2_with (first | (go_at_call 20; ((with_reducible refine (HT3.out _ inferInstance gri).mono ?_); rintro _ _ ⟨rfl, g5, rfl⟩)) | (go_at_call 12; ((with_reducible refine (num26_any _ _).mono ?_); rintro _ _ ⟨rfl, rfl⟩)))
      have hw5 : Gr w (grown (W4.setCell ⟨w.heap.size, 5, none⟩ (.slice A4 5001 c4)) g5) := gri
      have htb5 : Tb (grown (W4.setCell ⟨w.heap.size, 5, none⟩ (.slice A4 5001 c4)) g5) := inferInstance
      clear x0 x1 x2 x3 x4 x5 u5
      generalize grown (W4.setCell ⟨w.heap.size, 5, none⟩ (.slice A4 5001 c4)) g5 = W5 at *
      haveI : GrC w W5 := ⟨hw5.below⟩
      clear HT3 HT1 HP1 HP2 hw5
      have hC : ∀ (n : Int) (b : Bool), mayActB 2 0 n 0 0 0 0 0 0 false 0 0 [] [] = b → ∀ W, Calls Tryd.prog 22 #[.agg #[.int .i64 2, .int .i64 0, .int .i64 n, .int .i64 0, .int .u64 0, .int .u64 0, .int .i64 0, .int .i64 0, .int .i64 0, .slice none 0 0, .bool false, .slice none 0 0]] W (fun e w' => e = .returned (.bool b) ∧ Gr W w') := by
        rintro n b rfl W
        exact mayAct_any 2 0 n 0 0 0 0 0 0 none none 0 0 0 0 false [] [] W rfl (by omega) Row.nil rfl (by omega) Row.nil
      have hD : ∀ (n : Int) (b : Bool), mayActB 5 0 0 0 0 0 0 0 0 false 0 2 [] [0, n] = b → ∀ W B, BlockAt W B #[.int .i64 0, .int .i64 n] 3 → Calls Tryd.prog 22 #[.agg #[.int .i64 5, .int .i64 0, .int .i64 0, .int .i64 0, .int .u64 0, .int .u64 0, .int .i64 0, .int .i64 0, .int .i64 0, .slice none 0 0, .bool false, .slice (some ⟨B, 0, none⟩) 2 2]] W (fun e w' => e = .returned (.bool b) ∧ Gr W w') := by
        rintro n b rfl W B hB
        refine mayAct_any 5 0 0 0 0 0 0 0 0 none _ 0 0 2 2 false [] [0, n] W rfl (by omega) Row.nil rfl (by omega) ⟨fun _ => ⟨B, 0, rfl, hB.lt, fun j x hj => ?_⟩⟩
        rw [Nat.zero_add, @block_cells W B j _ _ hB]
        match j, hj with
        | 0, hj => cases hj; rfl
        | 1, hj => cases hj; rfl
        | j + 2, hj => cases hj
      have C1 := Lib.hid (hC 999999 true (by decide +kernel)); have C2 := Lib.hid (hC 1000000 true (by decide +kernel)); have C3 := Lib.hid (hC 1000001 false (by decide +kernel))
      have D1 := Lib.hid (hD 999999 true (by decide +kernel)); have D2 := Lib.hid (hD 1000000 true (by decide +kernel)); have D3 := Lib.hid (hD 1000001 false (by decide +kernel))
      have hE : ∀ (n : Nat) (b : Bool), (n ≤ 1000) → mayActB 4 0 0 0 0 0 0 0 0 false 0 n [] (List.replicate n 0) = b → ∀ W B, BlockAt W B (zsI n) 3 → Calls Tryd.prog 22 #[.agg #[.int .i64 4, .int .i64 0, .int .i64 0, .int .i64 0, .int .u64 0, .int .u64 0, .int .i64 0, .int .i64 0, .int .i64 0, .slice none 0 0, .bool false, .slice (some ⟨B, 0, none⟩) n n]] W (fun e w' => e = .returned (.bool b) ∧ Gr W w') := by
        rintro n b hn rfl W B hB
        refine mayAct_any 4 0 0 0 0 0 0 0 0 none _ 0 0 n n false [] (List.replicate n 0) W rfl (by omega) Row.nil (by simp) (by omega) ⟨fun _ => ⟨B, 0, rfl, hB.lt, fun j x hj => ?_⟩⟩
        rw [Nat.zero_add, @block_cells W B j _ _ hB]
        rw [List.getElem?_replicate] at hj
        split at hj
        · rename_i h1
          cases hj
          simp [zsI, h1]
        · cases hj
      have E1 := Lib.hid (fun W B (h : BlockAt W B (zsI 99) 3) => (show Calls Tryd.prog 22 #[.agg #[.int .i64 4, .int .i64 0, .int .i64 0, .int .i64 0, .int .u64 0, .int .u64 0, .int .i64 0, .int .i64 0, .int .i64 0, .slice none 0 0, .bool false, .slice (some ⟨B, 0, none⟩) 99 99]] W (fun e w' => e = .returned (.bool true) ∧ Gr W w') from hE 99 true (by omega) (by decide +kernel) W B h))
      have E2 := Lib.hid (fun W B (h : BlockAt W B (zsI 100) 3) => (show Calls Tryd.prog 22 #[.agg #[.int .i64 4, .int .i64 0, .int .i64 0, .int .i64 0, .int .u64 0, .int .u64 0, .int .i64 0, .int .i64 0, .int .i64 0, .slice none 0 0, .bool false, .slice (some ⟨B, 0, none⟩) 100 100]] W (fun e w' => e = .returned (.bool true) ∧ Gr W w') from hE 100 true (by omega) (by decide +kernel) W B h))
      have E3 := Lib.hid (fun W B (h : BlockAt W B (zsI 101) 3) => (show Calls Tryd.prog 22 #[.agg #[.int .i64 4, .int .i64 0, .int .i64 0, .int .i64 0, .int .u64 0, .int .u64 0, .int .i64 0, .int .i64 0, .int .i64 0, .slice none 0 0, .bool false, .slice (some ⟨B, 0, none⟩) 101 101]] W (fun e w' => e = .returned (.bool false) ∧ Gr W w') from hE 101 false (by omega) (by decide +kernel) W B h))
      clear hC hD hE
      refine wp_loop_rounds 4 ?_
      rw [rounds_succ]
      go_wp2_with (first | (go_at_call 22; ((with_reducible refine (C1.out _).mono ?_); rintro _ _ ⟨rfl, g6, rfl⟩)) | (go_at_call 22; ((with_reducible refine (D1.out _ _ inferInstance).mono ?_); rintro _ _ ⟨rfl, g7, rfl⟩)))
      rw [rounds_succ]
      go_wp2_with (first | (go_at_call 22; ((with_reducible refine (C2.out _).mono ?_); rintro _ _ ⟨rfl, g6, rfl⟩)) | (go_at_call 22; ((with_reducible refine (D2.out _ _ inferInstance).mono ?_); rintro _ _ ⟨rfl, g7, rfl⟩)))
      rw [rounds_succ]
      go_wp2_with (first | (go_at_call 22; ((with_reducible refine (C3.out _).mono ?_); rintro _ _ ⟨rfl, g6, rfl⟩)) | (go_at_call 22; ((with_reducible refine (D3.out _ _ inferInstance).mono ?_); rintro _ _ ⟨rfl, g7, rfl⟩)))
      rw [rounds_succ]
      go_wp2
      have M1 := mkz99; have M2 := mkz100; have M3 := mkz101
      refine wp_loop_rounds 4 ?_
      rw [rounds_succ]
      go_wp2_with (first | (go_at_call 22; ((with_reducible refine (E1.out _ _ inferInstance).mono ?_); rintro _ _ ⟨rfl, g8, rfl⟩)))
      rw [rounds_succ]
      go_wp2_with (first | (go_at_call 22; ((with_reducible refine (E2.out _ _ inferInstance).mono ?_); rintro _ _ ⟨rfl, g8, rfl⟩)))
      rw [rounds_succ]
      go_wp2_with (first | (go_at_call 22; ((with_reducible refine (E3.out _ _ inferInstance).mono ?_); rintro _ _ ⟨rfl, g8, rfl⟩)))
      rw [rounds_succ]
      go_wp2_with ((go_at_call 9; ((with_reducible refine (known26_any _).mono ?_); rintro _ _ ⟨rfl, g9, rfl⟩)))
      go_ret
      exact ⟨rfl, gri⟩
end Go.Proofs.YtgjdgafoidppaaaDoor
