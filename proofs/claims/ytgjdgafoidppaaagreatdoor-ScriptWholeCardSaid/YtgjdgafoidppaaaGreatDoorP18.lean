/- The reference's Parse. Conditions: a text of at most 200000 bytes; the tables stand. slices.IndexFunc, slices.ContainsFunc at acts, with 'it may not be told'. Conditions: what is read stands in memory. script.Text. Conditions: what is read stands in memory; the tables stand; what is told is at most 16 MiB. Bytes of a string, as a slice of the call's own, and appends onto it. Conditions: at most 10^8 bytes. -/
import Derived.Test.YtgjdgafoidppaaaGreatDoorP13
import Derived.Test.YtgjdgafoidppaaaGreatDoorP17
import Derived.Test.YtgjdgafoidppaaaGreatDoorP11
import Derived.Test.YtgjdgafoidppaaaGreatDoorP09
import Derived.Test.YtgjdgafoidppaaaGreatDoorP12
import Derived.Test.YtgjdgafoidppaaaGreatDoorP01
import Derived.Test.YtgjdgafoidppaaaGreatDoorP02
import Derived.Laws.IdiomStrings
import Derived.ArgAppend
import Derived.Lib.AppendStr
namespace Go.Proofs.YtgjdgafoidppaaaGreatDoor
open Go.RowKit
set_option linter.unusedVariables false
set_option linter.unusedSimpArgs false
set_option linter.unnecessarySimpa false
theorem linesB_le (t : ByteArray) : (linesB t).length ≤ t.size := by
 have := wordsB_le 10 t
 simp only [linesB, List.length_dropLast]
 omega
theorem linesB_each (t : ByteArray) : ∀ y ∈ linesB t, y.size ≤ t.size := fun y hy => wordsB_each 10 t y (List.dropLast_subset _ hy)
theorem rstageOf_row (s : ByteArray) (hs : s.size ≤ 800000) (G : Bool) (hG : goodSt s = G) (m0 m1 d0 d1 g : Int) (h0 : (if G then (nW s 1 : Int) else 0) = m0) (h1 : (if G then (nW s 3 : Int) else 0) = m1) (h2 : (if G then (nW s 2 : Int) else 0) = d0) (h3 : (if G then (nW s 4 : Int) else 0) = d1) (h4 : (if G then (nW s 5 : Int) else 0) = g) (w : World) :
  Calls Tryz.prog 66 #[.string s] w fun e w' => e = .returned (.tuple #[.agg #[.int .i64 m0, .int .i64 m1, .int .i64 d0, .int .i64 d1, .int .i64 g], .bool G]) ∧ Gr w w' := by
 have h := stageOf26_any s hs w
 subst hG h0 h1 h2 h3 h4
 cases hg : goodSt s
 ·rw [← st26_no hg] at h; simpa [hg] using h
 ·rw [← st26_yes hg] at h; simpa [hg] using h
set_option maxRecDepth 100000 in
set_option maxHeartbeats 8000000 in
theorem rparse_any (t : ByteArray) (ht : t.size ≤ 200000) (w : World) [hk : Tb w] : Calls Tryz.prog 27 #[.string t] w fun e w' => ∃ A q, e = .returned (.tuple #[.agg #[.int .i64 (pS t 1), .int .i64 (pS t 3), .int .i64 (pS t 2), .int .i64 (pS t 4), .int .i64 (pS t 5), .slice A (pActs t).length q], .int .i64 (pAt t), .int .i64 (pE t)]) ∧ (pActs t).length ≤ q ∧ RowA w' A (pActs t) ∧ Gr w w' := by
 have hsz : ¬ (16777216 : Int) < (t.size : Int) := by omega
 have HLN := Lib.hid (fun V => lines26_any t (by omega) V)
 have hle := linesB_le t
 have heach := linesB_each t
 have hgood : pGood t = ((badAt 0 (linesB t) == (linesB t).length) && (restB t).data.toList.isEmpty && !(linesB t).isEmpty) := rfl
 have hno : pGood t = false → pS t 1 = 0 ∧ pS t 3 = 0 ∧ pS t 2 = 0 ∧ pS t 4 = 0 ∧ pS t 5 = 0 ∧ pActs t = [] ∧ pAt t = badAt 0 (linesB t) ∧ pE t = 4 := fun h => by simp [pS, pActs, pAt, pE, h]
 have hyes : pGood t = true → pS t 1 = (nW (hdW (linesB t)) 1 : Nat) ∧ pS t 3 = (nW (hdW (linesB t)) 3 : Nat) ∧ pS t 2 = (nW (hdW (linesB t)) 2 : Nat) ∧ pS t 4 = (nW (hdW (linesB t)) 4 : Nat) ∧ pS t 5 = (nW (hdW (linesB t)) 5 : Nat) ∧ pActs t = (linesB t).tail.map actRes ∧ pAt t = 0 ∧ pE t = 0 := fun h => by simp [pS, pActs, pAt, pE, h]
 have HGD := Lib.hid hgood; have HNO := Lib.hid hno; have HYES := Lib.hid hyes; have HLE0 := Lib.hid hle; have HEA := Lib.hid heach; have HT := Lib.hid ht
 clear hgood hno hyes hle heach
 go_enter Tryz.func27, Tryz.ntmps27
 go_wp2_with ((go_at_call 31; ((with_reducible refine (HLN.out _).mono ?_); rintro _ W2 ⟨lb, lc, cur, rfl, hlc, hlb, hlB, hlx, hlg⟩)))
 obtain ⟨L, hLL⟩ : ∃ L, linesB t = L := ⟨_, rfl⟩
 obtain ⟨rs, hrs⟩ : ∃ rs, restB t = rs := ⟨_, rfl⟩
 rw [hLL] at HNO HYES HLE0 HEA hlc hlx
 rw [hLL, hrs] at HGD
 rw [hLL, hrs]
 clear hLL hrs
 have bR0 : BlockAt W2 w.heap.size #[.int .i64 0, .int .i64 0, .int .i64 0, .int .i64 0, .int .i64 0, .slice none 0 0] 58 := by
  have h1 : BlockAt (w.alloc (.cells #[.int .i64 0, .int .i64 0, .int .i64 0, .int .i64 0, .int .i64 0, .slice none 0 0] 58)) w.heap.size #[.int .i64 0, .int .i64 0, .int .i64 0, .int .i64 0, .int .i64 0, .slice none 0 0] 58 := inferInstance
  exact h1.gr hlg
 have hbw2 : Below w.heap.size w W2 := Below.trans (below_alloc (Below.refl _ _) _) (hlg.below.mono (by simp))
 have hRl : w.heap.size < W2.heap.size := bR0.lt
 have hlbl := hlB.lt
 haveI : Tb W2 := hk.keep hbw2.size (fun j hj => hbw2.block j (by have := hk.size; omega))
 haveI : GrC w W2 := ⟨hbw2⟩
 have BR0 := Lib.hid bR0; have HBW := Lib.hid hbw2; have HLB := Lib.hid hlB; have HLX := Lib.hid hlx; have HWL := Lib.hid hRl; have HLBL := Lib.hid hlbl
 have HTB := Lib.hid (fun W (h : Gr W2 W) => ((show Tb W2 from inferInstance).of_below (Below.mono h.below (Nat.le_refl _)) : Tb W))
 have e1 : (w.heap.size = W2.heap.size) = False := by simp; omega
 have e2 : (W2.heap.size = w.heap.size) = False := by simp; omega
 clear bR0 hbw2 hlB hlx hlg HLN hRl hlbl
 go_loopw [8] (fun iv wr => ∃ (i : Nat) (m0 m1 d0 d1 g : Int) (xs : List AM) (v : Value), iv = .int .i64 i ∧ i ≤ L.length ∧ badAt 0 L = badAt i (L.drop i) ∧ (0 < i → m0 = (nW (hdW L) 1 : Nat) ∧ m1 = (nW (hdW L) 3 : Nat) ∧ d0 = (nW (hdW L) 2 : Nat) ∧ d1 = (nW (hdW L) 4 : Nat) ∧ g = (nW (hdW L) 5 : Nat)) ∧ BlockAt wr W2.heap.size #[.int .i64 m0, .int .i64 m1, .int .i64 d0, .int .i64 d1, .int .i64 g, v] 58 ∧ OwnA (W2.heap.size + 1) wr v xs ∧ (∀ x ∈ xs, x.Ok wr) ∧ xs.map (·.a) = ((L.take i).drop 1).map actRes ∧ BlockAt wr lb cur 9 ∧ Gr W2 wr ∧ W2.heap.size + 1 ≤ wr.heap.size) (fun iv _ => L.length - (intOf iv).toNat)
 case atStart => exact ⟨0, 0, 0, 0, 0, 0, [], .slice none 0 0, rfl, Nat.zero_le _, rfl, fun h => absurd h (Nat.lt_irrefl _), inferInstance, OwnA.nil _ _, (fun x hx => by simp at hx), by simp, by have := HLB.out; infer_instance, Gr.of (by (with_reducible repeat (first | exact Below.refl _ _ | apply below_alloc | refine below_set_le ?_ (by simp) _))), by simp⟩
 case round =>
  obtain ⟨i, m0, m1, d0, d1, g, xs, v, rfl, hi, hbad, hst, bX, hown, hoks, hmap, bL, hgr, hsz⟩ := hrel
  have HGR := Lib.hid hgr; have HOW := Lib.hid hown; have HOK := Lib.hid hoks; have HMAP := Lib.hid hmap; have HBAD := Lib.hid hbad; have HST := Lib.hid hst; have HSZ := Lib.hid hsz; have BL := Lib.hid bL
  clear hown hoks hmap hbad hst hsz
  haveI : Tb wr := HTB.out _ hgr
  have bR : BlockAt wr w.heap.size #[.int .i64 0, .int .i64 0, .int .i64 0, .int .i64 0, .int .i64 0, .slice none 0 0] 58 := BR0.out.gr hgr
  haveI : GrC w wr := ⟨HBW.out.trans (hgr.below.mono HBW.out.size)⟩
  haveI : Old W2.heap.size wr := bX.old
  haveI : Old w.heap.size wr := bR.old
  haveI : Old lb wr := bL.old
  obtain ⟨Av, cv, rfl, hcv, hrow⟩ := HOW.out.row HOK.out
  have BR := Lib.hid bR; have BX := Lib.hid bX; have HROW := Lib.hid hrow; have HCV := Lib.hid hcv
  clear hrow hcv hgr
  have x0 : wr.cell? ⟨W2.heap.size, 0, none⟩ = some (.int .i64 m0) := (@block_cells _ _ 0 _ _ bX).trans rfl
  have u0 : wr.frozen? ⟨W2.heap.size, 0, none⟩ = false := @block_frozen _ _ 0 _ _ bX
  have y0 : wr.cell? ⟨w.heap.size, 0, none⟩ = some (.int .i64 0) := (@block_cells _ _ 0 _ _ bR).trans rfl
  have z0 : wr.frozen? ⟨w.heap.size, 0, none⟩ = false := @block_frozen _ _ 0 _ _ bR
  have x1 : wr.cell? ⟨W2.heap.size, 1, none⟩ = some (.int .i64 m1) := (@block_cells _ _ 1 _ _ bX).trans rfl
  have u1 : wr.frozen? ⟨W2.heap.size, 1, none⟩ = false := @block_frozen _ _ 1 _ _ bX
  have y1 : wr.cell? ⟨w.heap.size, 1, none⟩ = some (.int .i64 0) := (@block_cells _ _ 1 _ _ bR).trans rfl
  have z1 : wr.frozen? ⟨w.heap.size, 1, none⟩ = false := @block_frozen _ _ 1 _ _ bR
  have x2 : wr.cell? ⟨W2.heap.size, 2, none⟩ = some (.int .i64 d0) := (@block_cells _ _ 2 _ _ bX).trans rfl
  have u2 : wr.frozen? ⟨W2.heap.size, 2, none⟩ = false := @block_frozen _ _ 2 _ _ bX
  have y2 : wr.cell? ⟨w.heap.size, 2, none⟩ = some (.int .i64 0) := (@block_cells _ _ 2 _ _ bR).trans rfl
  have z2 : wr.frozen? ⟨w.heap.size, 2, none⟩ = false := @block_frozen _ _ 2 _ _ bR
  have x3 : wr.cell? ⟨W2.heap.size, 3, none⟩ = some (.int .i64 d1) := (@block_cells _ _ 3 _ _ bX).trans rfl
  have u3 : wr.frozen? ⟨W2.heap.size, 3, none⟩ = false := @block_frozen _ _ 3 _ _ bX
  have y3 : wr.cell? ⟨w.heap.size, 3, none⟩ = some (.int .i64 0) := (@block_cells _ _ 3 _ _ bR).trans rfl
  have z3 : wr.frozen? ⟨w.heap.size, 3, none⟩ = false := @block_frozen _ _ 3 _ _ bR
  have x4 : wr.cell? ⟨W2.heap.size, 4, none⟩ = some (.int .i64 g) := (@block_cells _ _ 4 _ _ bX).trans rfl
  have u4 : wr.frozen? ⟨W2.heap.size, 4, none⟩ = false := @block_frozen _ _ 4 _ _ bX
  have y4 : wr.cell? ⟨w.heap.size, 4, none⟩ = some (.int .i64 0) := (@block_cells _ _ 4 _ _ bR).trans rfl
  have z4 : wr.frozen? ⟨w.heap.size, 4, none⟩ = false := @block_frozen _ _ 4 _ _ bR
  have x5 : wr.cell? ⟨W2.heap.size, 5, none⟩ = some (.slice Av xs.length cv) := (@block_cells _ _ 5 _ _ bX).trans rfl
  have u5 : wr.frozen? ⟨W2.heap.size, 5, none⟩ = false := @block_frozen _ _ 5 _ _ bX
  have y5 : wr.cell? ⟨w.heap.size, 5, none⟩ = some (.slice none 0 0) := (@block_cells _ _ 5 _ _ bR).trans rfl
  have z5 : wr.frozen? ⟨w.heap.size, 5, none⟩ = false := @block_frozen _ _ 5 _ _ bR
  haveI : Past w W2.heap.size := ⟨by have := HWL.out; omega⟩
  by_cases hlt : i < L.length
  ·obtain ⟨x, hx⟩ : ∃ x, L[i]? = some x := ⟨L[i], List.getElem?_eq_getElem hlt⟩
   have xl : wr.cell? ⟨lb, i, none⟩ = some (.string x) := (@block_cells _ _ i _ _ bL).trans (HLX.out i x hx)
   have hxs : x.size ≤ 200000 := Nat.le_trans (HEA.out x (List.mem_of_getElem? hx)) HT.out
   have hdr : L.drop i = x :: L.drop (i + 1) := by
    rw [List.drop_eq_getElem_cons hlt]
    rw [List.getElem?_eq_getElem hlt] at hx
    rw [Option.some.inj hx]
   have hbx : badAt 0 L = if goodL i x then badAt (i + 1) (L.drop (i + 1)) else i := by rw [HBAD.out, hdr, badAt]
   have hji : (i : Int) < (L.length : Int) := by omega
   have HX := Lib.hid hx; have HXS := Lib.hid hxs; have HBX := Lib.hid hbx; have HLT := Lib.hid hlt
   have hgf : goodL i x = false → pGood t = false ∧ badAt 0 L = i := fun h => by
    have h1 : badAt 0 L = i := by rw [HBX.out, h]; rfl
    refine ⟨?_, h1⟩
    rw [HGD.out, h1]
    have : (i == L.length) = false := by simp; have := HLT.out; omega
    rw [this]; rfl
   have HGF := Lib.hid hgf
   clear hx hxs hdr hbx hlt hgf bL bR bX
   rcases Nat.eq_zero_or_pos i with hi0 | hi0
   ·subst hi0
    obtain rfl : xs = [] := by have := HMAP.out; simpa using this
    have hhd : hdW L = x := by
     have := HX.out
     cases L with
     | nil => simp at this
     | cons y L => (have h2 : y = x := by simpa using this); exact h2
    have HHD := Lib.hid hhd; clear hhd
    obtain ⟨a1, ha1⟩ : ∃ a : Int, ((nW x 1 : Nat) : Int) = a := ⟨_, rfl⟩
    obtain ⟨a2, ha2⟩ : ∃ a : Int, ((nW x 2 : Nat) : Int) = a := ⟨_, rfl⟩
    obtain ⟨a3, ha3⟩ : ∃ a : Int, ((nW x 3 : Nat) : Int) = a := ⟨_, rfl⟩
    obtain ⟨a4, ha4⟩ : ∃ a : Int, ((nW x 4 : Nat) : Int) = a := ⟨_, rfl⟩
    obtain ⟨a5, ha5⟩ : ∃ a : Int, ((nW x 5 : Nat) : Int) = a := ⟨_, rfl⟩
    have HA := Lib.hid (And.intro ha1 (And.intro ha2 (And.intro ha3 (And.intro ha4 ha5))))
    rcases Bool.eq_false_or_eq_true (goodSt x) with hG | hG
    ·have HSO := Lib.hid (fun W => rstageOf_row x (by have := HXS.out; omega) true hG a1 a3 a2 a4 a5 ha1 ha3 ha2 ha4 ha5 W)
     clear ha1 ha2 ha3 ha4 ha5
     have hnx : badAt 0 L = badAt 1 (L.drop 1) := by rw [HBX.out, goodL, if_pos rfl, hG]; rfl
     have HNX := Lib.hid hnx; clear hnx
     go_wp2_with ((go_at_call 66; ((with_reducible refine (HSO.out _).mono ?_); rintro _ _ ⟨rfl, g2, rfl⟩)))
     go_roundw
     case rel =>
      haveI := BX.out
      haveI := BL.out
      haveI : BNe lb W2.heap.size := ⟨Nat.ne_of_lt HLBL.out⟩
      exact ⟨1, a1, a3, a2, a4, a5, [], .slice Av 0 cv, by go_num, HLT.out, HNX.out, fun _ => by rw [HHD.out]; exact ⟨HA.out.1.symm, HA.out.2.2.1.symm, HA.out.2.1.symm, HA.out.2.2.2.1.symm, HA.out.2.2.2.2.symm⟩, by show BlockAt _ _ #[.int .i64 a1, .int .i64 a3, .int .i64 a2, .int .i64 a4, .int .i64 a5, .slice Av 0 cv] _; infer_instance, (((((RA.gr ⟨HOW.out, HOK.out⟩ gri).set_ W2.heap.size 0 _).set_ W2.heap.size 1 _).set_ W2.heap.size 2 _).set_ W2.heap.size 3 _).set_ W2.heap.size 4 _ |>.own, (fun x hx => by simp at hx), by (cases L <;> simp), inferInstance, Gr.of (by (with_reducible repeat (first | exact HGR.out.below | apply below_alloc | refine below_set_le ?_ (Nat.le_refl _) _ | refine below_trans ?_ (grown_below _ _) | apply Below.drew))), (inferInstance : Old W2.heap.size _).lt⟩
     case measure => have := HLT.out; simp [intOf]; omega
    ·have HSO := Lib.hid (fun W => rstageOf_row x (by have := HXS.out; omega) false hG 0 0 0 0 0 rfl rfl rfl rfl rfl W)
     clear ha1 ha2 ha3 ha4 ha5
     have HG := Lib.hid (HGF.out (by rw [goodL, if_pos rfl]; exact hG))
     go_wp2_with ((go_at_call 66; ((with_reducible refine (HSO.out _).mono ?_); rintro _ _ ⟨rfl, g2, rfl⟩)))
     (try rw [Exit.noGoto_ret]); exact bodyPost_ret (v := .tuple #[.agg #[.int .i64 0, .int .i64 0, .int .i64 0, .int .i64 0, .int .i64 0, .slice none 0 0], .int .i64 0, .int .i64 4]) (by simp [results, Tryz.results27, go_sem, e1, e2, x0, x1, x2, x3, x4, x5, y0, y1, y2, y3, y4, y5, z0, z1, z2, z3, z4, z5, u0, u1, u2, u3, u4, u5]) rfl ⟨none, 0, by obtain ⟨h1, h2, h3, h4, h5, h6, h7, h8⟩ := HNO.out HG.out.1; rw [h1, h2, h3, h4, h5, h6, h7, h8, HG.out.2]; rfl, by rw [(HNO.out HG.out.1).2.2.2.2.2.1]; exact Nat.le_refl _, by rw [(HNO.out HG.out.1).2.2.2.2.2.1]; exact RowA.nil, gri⟩
   ·have hi9 : ((i : Int) == 0) = false := by simp; omega
    have HI := Lib.hid hi0; clear hi0
    have HAO := Lib.hid (fun W (_ : Tb W) => ractOf_own x HXS.out W)
    have hle : i ≤ 200001 := by have := HLE0.out; have := HT.out; omega
    have hlen : xs.length + 1 = i := by
     have h1 := congrArg List.length HMAP.out
     have h3 := HI.out
     have h4 := HLT.out
     simp only [List.length_map, List.length_drop, List.length_take] at h1
     omega
    have hbd := actRes_bd x HXS.out
    have hgl : goodL i x = (decide (i ≤ 5000) && goodA x) := by rw [goodL, if_neg (by have := HI.out; omega)]
    obtain ⟨a9, hA9⟩ : ∃ a9, actRes x = a9 := ⟨_, rfl⟩
    rw [hA9] at HAO
    rw [hA9] at hbd
    obtain ⟨ak, an, am, ⟨ok, ov, ot, os, oa, oc, od⟩, af, ap⟩ := a9
    obtain ⟨G9, hG9⟩ : ∃ G, goodA x = G := ⟨_, rfl⟩
    rw [hG9] at HAO hgl
    have HAO := Lib.hid (fun W (h1 : Tb W) => (show Calls Tryz.prog 20 #[.string x] W (fun e w' => ∃ Ad qd Av qv, e = .returned (.tuple #[.agg #[.int .i64 ak, .int .i64 an, .int .i64 am, .int .i64 ok, .int .u64 ov, .int .u64 ot, .int .i64 os, .int .i64 oa, .int .i64 oc, .slice Ad od.length qd, .bool af, .slice Av ap.length qv], .bool G9]) ∧ od.length ≤ qd ∧ (∃ b, OwnR bv 5 b w' (.slice Ad od.length qd) od) ∧ ap.length ≤ qv ∧ (∃ b, OwnR (Value.int .i64) 3 b w' (.slice Av ap.length qv) ap) ∧ Gr W w') from HAO.out W h1))
    have HLE := Lib.hid hle; have HLN := Lib.hid hlen; have HBD := Lib.hid hbd; have HGL := Lib.hid hgl; have HA9 := Lib.hid hA9
    clear hle hlen hbd hgl hA9 hG9
    by_cases h5 : i ≤ 5000
    ·have h5i : (i : Int) ≤ 5000 := by omega
     cases G9
     ·have HG := Lib.hid (HGF.out (by rw [HGL.out, Bool.and_false]))
      go_wp2_with (first | (go_at_call 20; ((with_reducible refine (HAO.out _ inferInstance).mono ?_); rintro _ _ ⟨Ad, qd, Ap, qp, rfl, hd1, hd2, hp1, hp2, g2, rfl⟩; have HD1 := Lib.hid hd1; have HD2 := Lib.hid hd2; have HP1 := Lib.hid hp1; have HP2 := Lib.hid hp2; clear hd1 hd2 hp1 hp2)) | (at_builtin; refine wp_append_act rfl _ _ rfl (W2.heap.size + 1) (.slice Av xs.length cv) xs ?hs1 ?own1 ⟨⟨ak, an, am, ⟨ok, ov, ot, os, oa, oc, od⟩, af, ap⟩, Ad, qd, Ap, qp⟩ _ rfl ?hc1 ?len1 ?base1 ?_))
      case hs1 => rfl
      case own1 => exact HOW.out.gr gri
      case hc1 => show BlockAt _ _ #[.int .i64 ak, .int .i64 an, .int .i64 am, .int .i64 ok, .int .u64 ov, .int .u64 ot, .int .i64 os, .int .i64 oa, .int .i64 oc, .slice Ad od.length qd, .bool af, .slice Ap ap.length qp] 42; infer_instance
      case len1 => have := HLE.out; have := HLN.out; omega
      case base1 => exact Nat.le_trans HSZ.out (gri : Gr wr _).below.size
      intro v4 W4 a4
      have hy : AM.Ok (grown wr g2) ⟨⟨ak, an, am, ⟨ok, ov, ot, os, oa, oc, od⟩, af, ap⟩, Ad, qd, Ap, qp⟩ := ⟨HBD.out.bd, HBD.out.n0, HBD.out.n1, HBD.out.m0, HBD.out.m1, HD1.out, HBD.out.bq, HD2.out, HP1.out, HBD.out.bv, HBD.out.pk, HP2.out⟩
      have hra := RA.put (RA.gr (W := wr) ⟨HOW.out, HOK.out⟩ gri) (hy.gr gri) a4
      obtain ⟨A4, c4, rfl, hc4, _⟩ := hra.own.row hra.oks
      have hl4 : (xs ++ [(⟨⟨ak, an, am, ⟨ok, ov, ot, os, oa, oc, od⟩, af, ap⟩, Ad, qd, Ap, qp⟩ : AM)]).length = i := by have := HLN.out; simpa using this
      have bX4 : BlockAt W4 W2.heap.size #[.int .i64 m0, .int .i64 m1, .int .i64 d0, .int .i64 d1, .int .i64 g, (.slice Av xs.length cv)] 58 := a4.keep _ _ _ (BX.out.gr gri) (by decide)
      have bR4 : BlockAt W4 w.heap.size #[.int .i64 0, .int .i64 0, .int .i64 0, .int .i64 0, .int .i64 0, .slice none 0 0] 58 := a4.keep _ _ _ (BR.out.gr gri) (by decide)
      have bL4 : BlockAt W4 lb cur 9 := a4.keep _ _ _ (BL.out.gr gri) (by decide)
      have hwl := HWL.out
      haveI : GrC w W4 := ⟨(show GrC w _ from inferInstance).b.trans (a4.below.mono (by omega))⟩
      have hw4 : Gr W2 W4 := Gr.of (((HGR.out.trans gri : Gr W2 _)).below.trans (a4.below.mono (by omega)))
      rw [hl4] at hc4
      have hsz4 : W2.heap.size + 1 ≤ W4.heap.size := Nat.le_trans (Nat.le_trans HSZ.out (gri : Gr wr _).below.size) a4.size
      have HRA := Lib.hid hra; have HC4 := Lib.hid hc4; have BX4 := Lib.hid bX4; have BR4 := Lib.hid bR4; have BL4 := Lib.hid bL4; have HW4 := Lib.hid hw4; have HL4 := Lib.hid hl4; have HSZ4 := Lib.hid hsz4
      rw [hl4]
      haveI : Old W2.heap.size W4 := bX4.old
      haveI : Old w.heap.size W4 := bR4.old
      clear x0 x1 x2 x3 x4 x5 y0 y1 y2 y3 y4 y5 z0 z1 z2 z3 z4 z5 u0 u1 u2 u3 u4 u5 hy hra a4 hl4 hw4 hsz4 hc4 hwl
      have x0 : W4.cell? ⟨W2.heap.size, 0, none⟩ = some (.int .i64 m0) := (@block_cells _ _ 0 _ _ bX4).trans rfl
      have u0 : W4.frozen? ⟨W2.heap.size, 0, none⟩ = false := @block_frozen _ _ 0 _ _ bX4
      have y0 : W4.cell? ⟨w.heap.size, 0, none⟩ = some (.int .i64 0) := (@block_cells _ _ 0 _ _ bR4).trans rfl
      have z0 : W4.frozen? ⟨w.heap.size, 0, none⟩ = false := @block_frozen _ _ 0 _ _ bR4
      have x1 : W4.cell? ⟨W2.heap.size, 1, none⟩ = some (.int .i64 m1) := (@block_cells _ _ 1 _ _ bX4).trans rfl
      have u1 : W4.frozen? ⟨W2.heap.size, 1, none⟩ = false := @block_frozen _ _ 1 _ _ bX4
      have y1 : W4.cell? ⟨w.heap.size, 1, none⟩ = some (.int .i64 0) := (@block_cells _ _ 1 _ _ bR4).trans rfl
      have z1 : W4.frozen? ⟨w.heap.size, 1, none⟩ = false := @block_frozen _ _ 1 _ _ bR4
      have x2 : W4.cell? ⟨W2.heap.size, 2, none⟩ = some (.int .i64 d0) := (@block_cells _ _ 2 _ _ bX4).trans rfl
      have u2 : W4.frozen? ⟨W2.heap.size, 2, none⟩ = false := @block_frozen _ _ 2 _ _ bX4
      have y2 : W4.cell? ⟨w.heap.size, 2, none⟩ = some (.int .i64 0) := (@block_cells _ _ 2 _ _ bR4).trans rfl
      have z2 : W4.frozen? ⟨w.heap.size, 2, none⟩ = false := @block_frozen _ _ 2 _ _ bR4
      have x3 : W4.cell? ⟨W2.heap.size, 3, none⟩ = some (.int .i64 d1) := (@block_cells _ _ 3 _ _ bX4).trans rfl
      have u3 : W4.frozen? ⟨W2.heap.size, 3, none⟩ = false := @block_frozen _ _ 3 _ _ bX4
      have y3 : W4.cell? ⟨w.heap.size, 3, none⟩ = some (.int .i64 0) := (@block_cells _ _ 3 _ _ bR4).trans rfl
      have z3 : W4.frozen? ⟨w.heap.size, 3, none⟩ = false := @block_frozen _ _ 3 _ _ bR4
      have x4 : W4.cell? ⟨W2.heap.size, 4, none⟩ = some (.int .i64 g) := (@block_cells _ _ 4 _ _ bX4).trans rfl
      have u4 : W4.frozen? ⟨W2.heap.size, 4, none⟩ = false := @block_frozen _ _ 4 _ _ bX4
      have y4 : W4.cell? ⟨w.heap.size, 4, none⟩ = some (.int .i64 0) := (@block_cells _ _ 4 _ _ bR4).trans rfl
      have z4 : W4.frozen? ⟨w.heap.size, 4, none⟩ = false := @block_frozen _ _ 4 _ _ bR4
      have x5 : W4.cell? ⟨W2.heap.size, 5, none⟩ = some (.slice Av xs.length cv) := (@block_cells _ _ 5 _ _ bX4).trans rfl
      have u5 : W4.frozen? ⟨W2.heap.size, 5, none⟩ = false := @block_frozen _ _ 5 _ _ bX4
      have y5 : W4.cell? ⟨w.heap.size, 5, none⟩ = some (.slice none 0 0) := (@block_cells _ _ 5 _ _ bR4).trans rfl
      have z5 : W4.frozen? ⟨w.heap.size, 5, none⟩ = false := @block_frozen _ _ 5 _ _ bR4
      clear bX4 bR4 bL4
      go_wp2
      (try rw [Exit.noGoto_ret]); exact bodyPost_ret (v := .tuple #[.agg #[.int .i64 0, .int .i64 0, .int .i64 0, .int .i64 0, .int .i64 0, .slice none 0 0], .int .i64 i, .int .i64 4]) (by simp [results, Tryz.results27, go_sem, e1, e2, x0, x1, x2, x3, x4, x5, y0, y1, y2, y3, y4, y5, z0, z1, z2, z3, z4, z5, u0, u1, u2, u3, u4, u5]) rfl ⟨none, 0, by obtain ⟨h1, h2, h3, h4, h5, h6, h7, h8⟩ := HNO.out HG.out.1; rw [h1, h2, h3, h4, h5, h6, h7, h8, HG.out.2]; rfl, by rw [(HNO.out HG.out.1).2.2.2.2.2.1]; exact Nat.le_refl _, by rw [(HNO.out HG.out.1).2.2.2.2.2.1]; exact RowA.nil, gri⟩
     ·have hnx : badAt 0 L = badAt (i + 1) (L.drop (i + 1)) := by rw [HBX.out, HGL.out, decide_eq_true h5]; rfl
      have HNX := Lib.hid hnx; clear hnx
      go_wp2_with (first | (go_at_call 20; ((with_reducible refine (HAO.out _ inferInstance).mono ?_); rintro _ _ ⟨Ad, qd, Ap, qp, rfl, hd1, hd2, hp1, hp2, g2, rfl⟩; have HD1 := Lib.hid hd1; have HD2 := Lib.hid hd2; have HP1 := Lib.hid hp1; have HP2 := Lib.hid hp2; clear hd1 hd2 hp1 hp2)) | (at_builtin; refine wp_append_act rfl _ _ rfl (W2.heap.size + 1) (.slice Av xs.length cv) xs ?hs2 ?own2 ⟨⟨ak, an, am, ⟨ok, ov, ot, os, oa, oc, od⟩, af, ap⟩, Ad, qd, Ap, qp⟩ _ rfl ?hc2 ?len2 ?base2 ?_))
      case hs2 => rfl
      case own2 => exact HOW.out.gr gri
      case hc2 => show BlockAt _ _ #[.int .i64 ak, .int .i64 an, .int .i64 am, .int .i64 ok, .int .u64 ov, .int .u64 ot, .int .i64 os, .int .i64 oa, .int .i64 oc, .slice Ad od.length qd, .bool af, .slice Ap ap.length qp] 42; infer_instance
      case len2 => have := HLE.out; have := HLN.out; omega
      case base2 => exact Nat.le_trans HSZ.out (gri : Gr wr _).below.size
      intro v4 W4 a4
      have hy : AM.Ok (grown wr g2) ⟨⟨ak, an, am, ⟨ok, ov, ot, os, oa, oc, od⟩, af, ap⟩, Ad, qd, Ap, qp⟩ := ⟨HBD.out.bd, HBD.out.n0, HBD.out.n1, HBD.out.m0, HBD.out.m1, HD1.out, HBD.out.bq, HD2.out, HP1.out, HBD.out.bv, HBD.out.pk, HP2.out⟩
      have hra := RA.put (RA.gr (W := wr) ⟨HOW.out, HOK.out⟩ gri) (hy.gr gri) a4
      obtain ⟨A4, c4, rfl, hc4, _⟩ := hra.own.row hra.oks
      have hl4 : (xs ++ [(⟨⟨ak, an, am, ⟨ok, ov, ot, os, oa, oc, od⟩, af, ap⟩, Ad, qd, Ap, qp⟩ : AM)]).length = i := by have := HLN.out; simpa using this
      have bX4 : BlockAt W4 W2.heap.size #[.int .i64 m0, .int .i64 m1, .int .i64 d0, .int .i64 d1, .int .i64 g, (.slice Av xs.length cv)] 58 := a4.keep _ _ _ (BX.out.gr gri) (by decide)
      have bR4 : BlockAt W4 w.heap.size #[.int .i64 0, .int .i64 0, .int .i64 0, .int .i64 0, .int .i64 0, .slice none 0 0] 58 := a4.keep _ _ _ (BR.out.gr gri) (by decide)
      have bL4 : BlockAt W4 lb cur 9 := a4.keep _ _ _ (BL.out.gr gri) (by decide)
      have hwl := HWL.out
      haveI : GrC w W4 := ⟨(show GrC w _ from inferInstance).b.trans (a4.below.mono (by omega))⟩
      have hw4 : Gr W2 W4 := Gr.of (((HGR.out.trans gri : Gr W2 _)).below.trans (a4.below.mono (by omega)))
      rw [hl4] at hc4
      have hsz4 : W2.heap.size + 1 ≤ W4.heap.size := Nat.le_trans (Nat.le_trans HSZ.out (gri : Gr wr _).below.size) a4.size
      have HRA := Lib.hid hra; have HC4 := Lib.hid hc4; have BX4 := Lib.hid bX4; have BR4 := Lib.hid bR4; have BL4 := Lib.hid bL4; have HW4 := Lib.hid hw4; have HL4 := Lib.hid hl4; have HSZ4 := Lib.hid hsz4
      rw [hl4]
      haveI : Old W2.heap.size W4 := bX4.old
      haveI : Old w.heap.size W4 := bR4.old
      clear x0 x1 x2 x3 x4 x5 y0 y1 y2 y3 y4 y5 z0 z1 z2 z3 z4 z5 u0 u1 u2 u3 u4 u5 hy hra a4 hl4 hw4 hsz4 hc4 hwl
      have x0 : W4.cell? ⟨W2.heap.size, 0, none⟩ = some (.int .i64 m0) := (@block_cells _ _ 0 _ _ bX4).trans rfl
      have u0 : W4.frozen? ⟨W2.heap.size, 0, none⟩ = false := @block_frozen _ _ 0 _ _ bX4
      have y0 : W4.cell? ⟨w.heap.size, 0, none⟩ = some (.int .i64 0) := (@block_cells _ _ 0 _ _ bR4).trans rfl
      have z0 : W4.frozen? ⟨w.heap.size, 0, none⟩ = false := @block_frozen _ _ 0 _ _ bR4
      have x1 : W4.cell? ⟨W2.heap.size, 1, none⟩ = some (.int .i64 m1) := (@block_cells _ _ 1 _ _ bX4).trans rfl
      have u1 : W4.frozen? ⟨W2.heap.size, 1, none⟩ = false := @block_frozen _ _ 1 _ _ bX4
      have y1 : W4.cell? ⟨w.heap.size, 1, none⟩ = some (.int .i64 0) := (@block_cells _ _ 1 _ _ bR4).trans rfl
      have z1 : W4.frozen? ⟨w.heap.size, 1, none⟩ = false := @block_frozen _ _ 1 _ _ bR4
      have x2 : W4.cell? ⟨W2.heap.size, 2, none⟩ = some (.int .i64 d0) := (@block_cells _ _ 2 _ _ bX4).trans rfl
      have u2 : W4.frozen? ⟨W2.heap.size, 2, none⟩ = false := @block_frozen _ _ 2 _ _ bX4
      have y2 : W4.cell? ⟨w.heap.size, 2, none⟩ = some (.int .i64 0) := (@block_cells _ _ 2 _ _ bR4).trans rfl
      have z2 : W4.frozen? ⟨w.heap.size, 2, none⟩ = false := @block_frozen _ _ 2 _ _ bR4
      have x3 : W4.cell? ⟨W2.heap.size, 3, none⟩ = some (.int .i64 d1) := (@block_cells _ _ 3 _ _ bX4).trans rfl
      have u3 : W4.frozen? ⟨W2.heap.size, 3, none⟩ = false := @block_frozen _ _ 3 _ _ bX4
      have y3 : W4.cell? ⟨w.heap.size, 3, none⟩ = some (.int .i64 0) := (@block_cells _ _ 3 _ _ bR4).trans rfl
      have z3 : W4.frozen? ⟨w.heap.size, 3, none⟩ = false := @block_frozen _ _ 3 _ _ bR4
      have x4 : W4.cell? ⟨W2.heap.size, 4, none⟩ = some (.int .i64 g) := (@block_cells _ _ 4 _ _ bX4).trans rfl
      have u4 : W4.frozen? ⟨W2.heap.size, 4, none⟩ = false := @block_frozen _ _ 4 _ _ bX4
      have y4 : W4.cell? ⟨w.heap.size, 4, none⟩ = some (.int .i64 0) := (@block_cells _ _ 4 _ _ bR4).trans rfl
      have z4 : W4.frozen? ⟨w.heap.size, 4, none⟩ = false := @block_frozen _ _ 4 _ _ bR4
      have x5 : W4.cell? ⟨W2.heap.size, 5, none⟩ = some (.slice Av xs.length cv) := (@block_cells _ _ 5 _ _ bX4).trans rfl
      have u5 : W4.frozen? ⟨W2.heap.size, 5, none⟩ = false := @block_frozen _ _ 5 _ _ bX4
      have y5 : W4.cell? ⟨w.heap.size, 5, none⟩ = some (.slice none 0 0) := (@block_cells _ _ 5 _ _ bR4).trans rfl
      have z5 : W4.frozen? ⟨w.heap.size, 5, none⟩ = false := @block_frozen _ _ 5 _ _ bR4
      clear bX4 bR4 bL4
      go_wp2
      go_roundw
      case rel =>
       haveI := BX4.out
       haveI := BL4.out
       haveI : BNe lb W2.heap.size := ⟨Nat.ne_of_lt HLBL.out⟩
       have hr9 : RA (W2.heap.size + 1) W4 (.slice A4 i c4) (xs ++ [⟨⟨ak, an, am, ⟨ok, ov, ot, os, oa, oc, od⟩, af, ap⟩, Ad, qd, Ap, qp⟩]) := by have h := HRA.out; rw [HL4.out] at h; exact h
       have hr8 := hr9.set_ W2.heap.size 5 (.slice A4 i c4)
       refine ⟨i + 1, m0, m1, d0, d1, g, xs ++ [⟨⟨ak, an, am, ⟨ok, ov, ot, os, oa, oc, od⟩, af, ap⟩, Ad, qd, Ap, qp⟩], .slice A4 i c4, by go_num, HLT.out, HNX.out, fun _ => HST.out HI.out, by show BlockAt _ _ #[.int .i64 m0, .int .i64 m1, .int .i64 d0, .int .i64 d1, .int .i64 g, .slice A4 i c4] _; infer_instance, hr8.own, hr8.oks, ?_, inferInstance, Gr.of (below_set_le HW4.out.below (Nat.le_refl _) _), Nat.le_trans HSZ4.out (by simp [World.setCell])⟩
       rw [List.take_add_one, HX.out, List.drop_append_of_le_length (by have := HI.out; have := HLT.out; rw [List.length_take]; omega), List.map_append, List.map_append, HMAP.out]
       simp only [Option.toList_some, List.map_cons, List.map_nil, HA9.out]
      case measure => have := HLT.out; simp [intOf]; omega
    ·have h5i : ¬ (i : Int) ≤ 5000 := by omega
     have HG := Lib.hid (HGF.out (by rw [HGL.out, decide_eq_false h5]; rfl))
     go_wp2_with (first | (go_at_call 20; ((with_reducible refine (HAO.out _ inferInstance).mono ?_); rintro _ _ ⟨Ad, qd, Ap, qp, rfl, hd1, hd2, hp1, hp2, g2, rfl⟩; have HD1 := Lib.hid hd1; have HD2 := Lib.hid hd2; have HP1 := Lib.hid hp1; have HP2 := Lib.hid hp2; clear hd1 hd2 hp1 hp2)) | (at_builtin; refine wp_append_act rfl _ _ rfl (W2.heap.size + 1) (.slice Av xs.length cv) xs ?hs3 ?own3 ⟨⟨ak, an, am, ⟨ok, ov, ot, os, oa, oc, od⟩, af, ap⟩, Ad, qd, Ap, qp⟩ _ rfl ?hc3 ?len3 ?base3 ?_))
     case hs3 => rfl
     case own3 => exact HOW.out.gr gri
     case hc3 => show BlockAt _ _ #[.int .i64 ak, .int .i64 an, .int .i64 am, .int .i64 ok, .int .u64 ov, .int .u64 ot, .int .i64 os, .int .i64 oa, .int .i64 oc, .slice Ad od.length qd, .bool af, .slice Ap ap.length qp] 42; infer_instance
     case len3 => have := HLE.out; have := HLN.out; omega
     case base3 => exact Nat.le_trans HSZ.out (gri : Gr wr _).below.size
     intro v4 W4 a4
     have hy : AM.Ok (grown wr g2) ⟨⟨ak, an, am, ⟨ok, ov, ot, os, oa, oc, od⟩, af, ap⟩, Ad, qd, Ap, qp⟩ := ⟨HBD.out.bd, HBD.out.n0, HBD.out.n1, HBD.out.m0, HBD.out.m1, HD1.out, HBD.out.bq, HD2.out, HP1.out, HBD.out.bv, HBD.out.pk, HP2.out⟩
     have hra := RA.put (RA.gr (W := wr) ⟨HOW.out, HOK.out⟩ gri) (hy.gr gri) a4
     obtain ⟨A4, c4, rfl, hc4, _⟩ := hra.own.row hra.oks
     have hl4 : (xs ++ [(⟨⟨ak, an, am, ⟨ok, ov, ot, os, oa, oc, od⟩, af, ap⟩, Ad, qd, Ap, qp⟩ : AM)]).length = i := by have := HLN.out; simpa using this
     have bX4 : BlockAt W4 W2.heap.size #[.int .i64 m0, .int .i64 m1, .int .i64 d0, .int .i64 d1, .int .i64 g, (.slice Av xs.length cv)] 58 := a4.keep _ _ _ (BX.out.gr gri) (by decide)
     have bR4 : BlockAt W4 w.heap.size #[.int .i64 0, .int .i64 0, .int .i64 0, .int .i64 0, .int .i64 0, .slice none 0 0] 58 := a4.keep _ _ _ (BR.out.gr gri) (by decide)
     have bL4 : BlockAt W4 lb cur 9 := a4.keep _ _ _ (BL.out.gr gri) (by decide)
     have hwl := HWL.out
     haveI : GrC w W4 := ⟨(show GrC w _ from inferInstance).b.trans (a4.below.mono (by omega))⟩
     have hw4 : Gr W2 W4 := Gr.of (((HGR.out.trans gri : Gr W2 _)).below.trans (a4.below.mono (by omega)))
     rw [hl4] at hc4
     have hsz4 : W2.heap.size + 1 ≤ W4.heap.size := Nat.le_trans (Nat.le_trans HSZ.out (gri : Gr wr _).below.size) a4.size
     have HRA := Lib.hid hra; have HC4 := Lib.hid hc4; have BX4 := Lib.hid bX4; have BR4 := Lib.hid bR4; have BL4 := Lib.hid bL4; have HW4 := Lib.hid hw4; have HL4 := Lib.hid hl4; have HSZ4 := Lib.hid hsz4
     rw [hl4]
     haveI : Old W2.heap.size W4 := bX4.old
     haveI : Old w.heap.size W4 := bR4.old
     clear x0 x1 x2 x3 x4 x5 y0 y1 y2 y3 y4 y5 z0 z1 z2 z3 z4 z5 u0 u1 u2 u3 u4 u5 hy hra a4 hl4 hw4 hsz4 hc4 hwl
     have x0 : W4.cell? ⟨W2.heap.size, 0, none⟩ = some (.int .i64 m0) := (@block_cells _ _ 0 _ _ bX4).trans rfl
     have u0 : W4.frozen? ⟨W2.heap.size, 0, none⟩ = false := @block_frozen _ _ 0 _ _ bX4
     have y0 : W4.cell? ⟨w.heap.size, 0, none⟩ = some (.int .i64 0) := (@block_cells _ _ 0 _ _ bR4).trans rfl
     have z0 : W4.frozen? ⟨w.heap.size, 0, none⟩ = false := @block_frozen _ _ 0 _ _ bR4
     have x1 : W4.cell? ⟨W2.heap.size, 1, none⟩ = some (.int .i64 m1) := (@block_cells _ _ 1 _ _ bX4).trans rfl
     have u1 : W4.frozen? ⟨W2.heap.size, 1, none⟩ = false := @block_frozen _ _ 1 _ _ bX4
     have y1 : W4.cell? ⟨w.heap.size, 1, none⟩ = some (.int .i64 0) := (@block_cells _ _ 1 _ _ bR4).trans rfl
     have z1 : W4.frozen? ⟨w.heap.size, 1, none⟩ = false := @block_frozen _ _ 1 _ _ bR4
     have x2 : W4.cell? ⟨W2.heap.size, 2, none⟩ = some (.int .i64 d0) := (@block_cells _ _ 2 _ _ bX4).trans rfl
     have u2 : W4.frozen? ⟨W2.heap.size, 2, none⟩ = false := @block_frozen _ _ 2 _ _ bX4
     have y2 : W4.cell? ⟨w.heap.size, 2, none⟩ = some (.int .i64 0) := (@block_cells _ _ 2 _ _ bR4).trans rfl
     have z2 : W4.frozen? ⟨w.heap.size, 2, none⟩ = false := @block_frozen _ _ 2 _ _ bR4
     have x3 : W4.cell? ⟨W2.heap.size, 3, none⟩ = some (.int .i64 d1) := (@block_cells _ _ 3 _ _ bX4).trans rfl
     have u3 : W4.frozen? ⟨W2.heap.size, 3, none⟩ = false := @block_frozen _ _ 3 _ _ bX4
     have y3 : W4.cell? ⟨w.heap.size, 3, none⟩ = some (.int .i64 0) := (@block_cells _ _ 3 _ _ bR4).trans rfl
     have z3 : W4.frozen? ⟨w.heap.size, 3, none⟩ = false := @block_frozen _ _ 3 _ _ bR4
     have x4 : W4.cell? ⟨W2.heap.size, 4, none⟩ = some (.int .i64 g) := (@block_cells _ _ 4 _ _ bX4).trans rfl
     have u4 : W4.frozen? ⟨W2.heap.size, 4, none⟩ = false := @block_frozen _ _ 4 _ _ bX4
     have y4 : W4.cell? ⟨w.heap.size, 4, none⟩ = some (.int .i64 0) := (@block_cells _ _ 4 _ _ bR4).trans rfl
     have z4 : W4.frozen? ⟨w.heap.size, 4, none⟩ = false := @block_frozen _ _ 4 _ _ bR4
     have x5 : W4.cell? ⟨W2.heap.size, 5, none⟩ = some (.slice Av xs.length cv) := (@block_cells _ _ 5 _ _ bX4).trans rfl
     have u5 : W4.frozen? ⟨W2.heap.size, 5, none⟩ = false := @block_frozen _ _ 5 _ _ bX4
     have y5 : W4.cell? ⟨w.heap.size, 5, none⟩ = some (.slice none 0 0) := (@block_cells _ _ 5 _ _ bR4).trans rfl
     have z5 : W4.frozen? ⟨w.heap.size, 5, none⟩ = false := @block_frozen _ _ 5 _ _ bR4
     clear bX4 bR4 bL4
     go_wp2
     (try rw [Exit.noGoto_ret]); exact bodyPost_ret (v := .tuple #[.agg #[.int .i64 0, .int .i64 0, .int .i64 0, .int .i64 0, .int .i64 0, .slice none 0 0], .int .i64 i, .int .i64 4]) (by simp [results, Tryz.results27, go_sem, e1, e2, x0, x1, x2, x3, x4, x5, y0, y1, y2, y3, y4, y5, z0, z1, z2, z3, z4, z5, u0, u1, u2, u3, u4, u5]) rfl ⟨none, 0, by obtain ⟨h1, h2, h3, h4, h5, h6, h7, h8⟩ := HNO.out HG.out.1; rw [h1, h2, h3, h4, h5, h6, h7, h8, HG.out.2]; rfl, by rw [(HNO.out HG.out.1).2.2.2.2.2.1]; exact Nat.le_refl _, by rw [(HNO.out HG.out.1).2.2.2.2.2.1]; exact RowA.nil, gri⟩
  ·have hiL : i = L.length := by omega
   subst hiL
   have hji : ¬ (L.length : Int) < (L.length : Int) := by omega
   have hb0 : badAt 0 L = L.length := by rw [HBAD.out, List.drop_length]; rfl
   clear hlt bL bR bX
   by_cases hr0 : rs.data.toList = []
   ·have hre : rs.toList.isEmpty = true := by rw [Lib.toList_data, hr0]; rfl
    cases L with
    | nil =>
     have hG : pGood t = false ∧ badAt 0 ([] : List ByteArray) = ([] : List ByteArray).length := ⟨by rw [HGD.out]; simp, rfl⟩
     have HG := Lib.hid hG; clear hG hr0 hb0
     go_wp2
     (try rw [Exit.noGoto_ret]); exact bodyPost_ret (v := .tuple #[.agg #[.int .i64 0, .int .i64 0, .int .i64 0, .int .i64 0, .int .i64 0, .slice none 0 0], .int .i64 0, .int .i64 4]) (by simp [results, Tryz.results27, go_sem, e1, e2, x0, x1, x2, x3, x4, x5, y0, y1, y2, y3, y4, y5, z0, z1, z2, z3, z4, z5, u0, u1, u2, u3, u4, u5]) rfl ⟨none, 0, by obtain ⟨h1, h2, h3, h4, h5, h6, h7, h8⟩ := HNO.out HG.out.1; rw [h1, h2, h3, h4, h5, h6, h7, h8, HG.out.2]; rfl, by rw [(HNO.out HG.out.1).2.2.2.2.2.1]; exact Nat.le_refl _, by rw [(HNO.out HG.out.1).2.2.2.2.2.1]; exact RowA.nil, gri⟩
    | cons y L =>
     have hlp : (((y :: L).length : Int) == 0) = false := by simp; omega
     have hgd : pGood t = true := by rw [HGD.out, hb0, hr0]; simp
     have hf : pS t 1 = m0 ∧ pS t 3 = m1 ∧ pS t 2 = d0 ∧ pS t 4 = d1 ∧ pS t 5 = g ∧ pActs t = xs.map (·.a) ∧ pAt t = 0 ∧ pE t = 0 := by
      obtain ⟨h1, h2, h3, h4, h5, h6, h7, h8⟩ := HYES.out hgd
      obtain ⟨n1, n2, n3, n4, n5⟩ := HST.out (by simp)
      rw [h1, h2, h3, h4, h5, h6, HMAP.out]
      exact ⟨n1.symm, n2.symm, n3.symm, n4.symm, n5.symm, by rw [List.take_length]; rfl, h7, h8⟩
     have HF := Lib.hid hf; clear hf hgd hr0 hb0
     haveI := BR.out
     go_wp2
     (try rw [Exit.noGoto_ret])
     exact bodyPost_ret (v := .tuple #[.agg #[.int .i64 m0, .int .i64 m1, .int .i64 d0, .int .i64 d1, .int .i64 g, .slice Av xs.length cv], .int .i64 0, .int .i64 0]) (by simp [results, Tryz.results27, go_sem, e1, e2, x0, x1, x2, x3, x4, x5, y0, y1, y2, y3, y4, y5, z0, z1, z2, z3, z4, z5, u0, u1, u2, u3, u4, u5]) rfl ⟨Av, cv, by obtain ⟨h1, h2, h3, h4, h5, h6, h7, h8⟩ := HF.out; rw [h1, h2, h3, h4, h5, h6, h7, h8, List.length_map]; rfl, by rw [HF.out.2.2.2.2.2.1, List.length_map]; exact HCV.out, by rw [HF.out.2.2.2.2.2.1]; exact RA.row ((((((RA.set_ ⟨HOW.out, HOK.out⟩ w.heap.size 0 _).set_ w.heap.size 1 _).set_ w.heap.size 2 _).set_ w.heap.size 3 _).set_ w.heap.size 4 _).set_ w.heap.size 5 _), gri⟩
   ·have hre : rs.toList.isEmpty = false := by
     rw [Lib.toList_data]
     cases hd : rs.data.toList with
     | nil => exact absurd hd hr0
     | cons => rfl
    have hgd : pGood t = false ∧ badAt 0 L = L.length := ⟨by
     rw [HGD.out]
     rw [Lib.toList_data] at hre
     rw [hre, Bool.and_false, Bool.false_and], hb0⟩
    have HG := Lib.hid hgd; clear hgd hr0 hb0
    go_wp2
    (try rw [Exit.noGoto_ret]); exact bodyPost_ret (v := .tuple #[.agg #[.int .i64 0, .int .i64 0, .int .i64 0, .int .i64 0, .int .i64 0, .slice none 0 0], .int .i64 L.length, .int .i64 4]) (by simp [results, Tryz.results27, go_sem, e1, e2, x0, x1, x2, x3, x4, x5, y0, y1, y2, y3, y4, y5, z0, z1, z2, z3, z4, z5, u0, u1, u2, u3, u4, u5]) rfl ⟨none, 0, by obtain ⟨h1, h2, h3, h4, h5, h6, h7, h8⟩ := HNO.out HG.out.1; rw [h1, h2, h3, h4, h5, h6, h7, h8, HG.out.2]; rfl, by rw [(HNO.out HG.out.1).2.2.2.2.2.1]; exact Nat.le_refl _, by rw [(HNO.out HG.out.1).2.2.2.2.2.1]; exact RowA.nil, gri⟩
theorem textF_any (k nd m ok ov ot os oa oc : Int) (D P : Option Addr) (n q pn pq : Nat) (f : Bool) (B : Bool) (w : World) (h : ∀ W, Gr w W → Calls Tryz.prog 22 #[.agg #[.int .i64 k, .int .i64 nd, .int .i64 m, .int .i64 ok, .int .u64 ov, .int .u64 ot, .int .i64 os, .int .i64 oa, .int .i64 oc, .slice D n q, .bool f, .slice P pn pq]] W (fun e w' => e = .returned (.bool B) ∧ Gr W w')) :
  Calls Tryz.prog 69 #[.agg #[.int .i64 k, .int .i64 nd, .int .i64 m, .int .i64 ok, .int .u64 ov, .int .u64 ot, .int .i64 os, .int .i64 oa, .int .i64 oc, .slice D n q, .bool f, .slice P pn pq]] w fun e w' => e = .returned (.bool (!B)) ∧ Gr w w' := by
 have H := Lib.hid h; clear h
 go_enter Tryz.func69, Tryz.ntmps69
 go_wp2_with (go_at_call 22; ((with_reducible refine (H.out _ gri).mono ?_); rintro _ _ ⟨rfl, g1, rfl⟩))
 go_ret
 exact ⟨rfl, gri⟩
def noMay (l : List ActV) : Bool := l.any fun a => !a.may
set_option maxRecDepth 100000 in
set_option maxHeartbeats 4000000 in
theorem indexFuncA_any (A : Option Addr) (n c : Nat) (l : List ActV) (w : World) (hl : l.length = n) (hn : n ≤ 9223372036854775807) (h : RowA w A l) :
  Calls Tryz.prog 97 #[.slice A n c, .func (.func 69) #[] #[]] w (SomeIdx (noMay l) w) := by
 have HL := Lib.hid hl; have H := Lib.hid h; clear hl h
 go_enter Tryz.func97, Tryz.ntmps97
 go_wp2
 go_loopw [8] (fun i wr => ∃ k : Nat, i = .int .i64 k ∧ k ≤ n ∧ Hid ((l.take k).any (fun a => !a.may) = false) ∧ Gr w wr) (fun i _ => n - (intOf i).toNat)
 case atStart => exact ⟨0, rfl, Nat.zero_le _, Lib.hid (by simp), Gr.refl _⟩
 case round =>
  obtain ⟨j, rfl, hj, hg, gj, rfl⟩ := hrel
  by_cases hlt : j < n
  ·have hjl : j < l.length := by have := HL.out; omega
   have hgj := List.getElem?_eq_getElem hjl
   obtain ⟨b, o, rfl, hb, hc⟩ := (H.out.gr (Gr.of (grown_below w gj))).at_ (by rintro rfl; simp at hjl)
   obtain ⟨Ad, qd, Av, qv, hm⟩ := hc j _ hgj
   have hta := take_any (fun a : ActV => !a.may) l j _ hgj
   generalize l[j] = a at *
   obtain ⟨k, nd, m, ⟨ok, ov, ot, os, oa, oc, od⟩, f, pk⟩ := a
   have x0 : (grown w gj).cell? ⟨b, o + j * 12, none⟩ = some (.int .i64 k) := hm.c 0 _ rfl
   have x1 : (grown w gj).cell? ⟨b, o + j * 12 + 1, none⟩ = some (.int .i64 nd) := hm.c 1 _ rfl
   have x2 : (grown w gj).cell? ⟨b, o + j * 12 + 2, none⟩ = some (.int .i64 m) := hm.c 2 _ rfl
   have x3 : (grown w gj).cell? ⟨b, o + j * 12 + 3, none⟩ = some (.int .i64 ok) := hm.c 3 _ rfl
   have x4 : (grown w gj).cell? ⟨b, o + j * 12 + 4, none⟩ = some (.int .u64 ov) := hm.c 4 _ rfl
   have x5 : (grown w gj).cell? ⟨b, o + j * 12 + 5, none⟩ = some (.int .u64 ot) := hm.c 5 _ rfl
   have x6 : (grown w gj).cell? ⟨b, o + j * 12 + 6, none⟩ = some (.int .i64 os) := hm.c 6 _ rfl
   have x7 : (grown w gj).cell? ⟨b, o + j * 12 + 7, none⟩ = some (.int .i64 oa) := hm.c 7 _ rfl
   have x8 : (grown w gj).cell? ⟨b, o + j * 12 + 8, none⟩ = some (.int .i64 oc) := hm.c 8 _ rfl
   have x9 : (grown w gj).cell? ⟨b, o + j * 12 + 9, none⟩ = some (.slice Ad od.length qd) := hm.c 9 _ rfl
   have x10 : (grown w gj).cell? ⟨b, o + j * 12 + 10, none⟩ = some (.bool f) := hm.c 10 _ rfl
   have x11 : (grown w gj).cell? ⟨b, o + j * 12 + 11, none⟩ = some (.slice Av pk.length qv) := hm.c 11 _ rfl
   have hji : (j : Int) < (n : Int) := by omega
   have HMA := Lib.hid (fun W (hW : Gr (grown w gj) W) => textF_any k nd m ok ov ot os oa oc Ad Av od.length qd pk.length qv f (mayActB k nd m ok ov ot os oa oc f od.length pk.length od pk) W (fun V hV => mayAct_any k nd m ok ov ot os oa oc Ad Av od.length qd pk.length qv f od pk V rfl hm.bq (hm.d.gr (hW.trans hV)) rfl hm.bv (hm.v.gr (hW.trans hV))))
   have HTA := Lib.hid hta
   have hmay : (⟨k, nd, m, ⟨ok, ov, ot, os, oa, oc, od⟩, f, pk⟩ : ActV).may = mayActB k nd m ok ov ot os oa oc f od.length pk.length od pk := rfl
   have HMAY := Lib.hid hmay
   have HLJ := Lib.hid hgj
   clear hc hm hta hmay hgj hjl
   rcases Bool.eq_false_or_eq_true (mayActB k nd m ok ov ot os oa oc f od.length pk.length od pk) with hq | hq
   ·rw [hq] at HMA HMAY
    go_wp2_with (go_at_call 69; ((with_reducible refine (HMA.out _ gri).mono ?_); rintro _ _ ⟨rfl, g2, rfl⟩))
    go_roundw
    case rel => exact ⟨j + 1, by go_num, by omega, Lib.hid (by rw [HTA.out, hg.out, HMAY.out]; rfl), gri⟩
    case measure => simp [intOf]; omega
   ·rw [hq] at HMA HMAY
    have hp : decide (0 ≤ (j : Int)) = noMay l := by
     have : noMay l = true := List.any_eq_true.2 ⟨_, List.mem_of_getElem? HLJ.out, by rw [HMAY.out]; rfl⟩
     rw [this]; simp
    have HP := Lib.hid hp; clear hp
    go_wp2_with (go_at_call 69; ((with_reducible refine (HMA.out _ gri).mono ?_); rintro _ _ ⟨rfl, g2, rfl⟩))
    go_ret
    exact ⟨j, HP.out, rfl, gri⟩
  ·have hp : decide (0 ≤ (-1 : Int)) = noMay l := by
    have := hg.out
    rw [List.take_of_length_le (by have := HL.out; omega)] at this
    rw [noMay, this]; rfl
   have HP := Lib.hid hp; clear hp
   have hji : ¬ (j : Int) < (n : Int) := by omega
   go_wp2
   go_ret
   exact ⟨-1, HP.out, rfl, gri⟩
theorem containsA_any (A : Option Addr) (n c : Nat) (l : List ActV) (w : World) (hl : l.length = n) (hn : n ≤ 9223372036854775807) (h : RowA w A l) :
  Calls Tryz.prog 68 #[.slice A n c, .func (.func 69) #[] #[]] w fun e w' => e = .returned (.bool (noMay l)) ∧ Gr w w' := by
 have HI := Lib.hid (indexFuncA_any A n c l w hl hn h); clear h hl
 go_enter Tryz.func68, Tryz.ntmps68
 go_wp2_with (go_at_call 97; ((with_reducible refine HI.out.mono ?_); rintro _ _ ⟨r, hr, rfl, g, rfl⟩; have HR := Lib.hid hr; clear hr))
 go_ret
 exact ⟨by rw [← HR.out]; rfl, gri⟩
def tE (m0 m1 d0 d1 g : Int) (l : List ActV) : Int := if mayStB m0 m1 d0 d1 g && !noMay l then (if 5000 < l.length then 3 else 0) else 2
def tS (m0 m1 d0 d1 g : Int) (l : List ActV) : ByteArray := if tE m0 m1 d0 d1 g l = 0 then ⟨(scTextL m0 m1 d0 d1 g l).toArray⟩ else ⟨#[]⟩
theorem noMay_no {l : List ActV} (h : noMay l = false) : ∀ a ∈ l, a.may = true := by
 intro a ha
 rw [noMay, List.any_eq_false] at h
 simpa using h a ha
theorem bldAt_gr {T e : TypeId} {B b : Nat} {p : Value} {bs : List Value} {w w' : World} (h : Lib.BuilderAtF T e B b p bs w) (g : Gr w w') : Lib.BuilderAtF T e B b p bs w' := by
 obtain ⟨hB, v, hb, hown, hne⟩ := h
 refine ⟨hB, v, (g.below.block b (Array.getElem?_eq_some_iff.1 hb).1).trans hb, ⟨hown.1, ?_⟩, hne⟩
 rcases hown.2 with hn | ⟨gg, cap, cur, fz, hv, hbg, hg, rest⟩
 ·exact .inl hn
 ·exact .inr ⟨gg, cap, cur, fz, hv, hbg, (g.below.block gg (Array.getElem?_eq_some_iff.1 hg).1).trans hg, rest⟩
theorem bld_gr {T e : TypeId} {B b : Nat} {bs : List Value} {w w' : World} (h : Lib.IsBuilderF T e B b bs w) (g : Gr w w') : Lib.IsBuilderF T e B b bs w' := h.elim (fun h => .inl (bldAt_gr h g)) (fun h => .inr (bldAt_gr h g))
theorem glue_take_le (L : List (List UInt8)) (j : Nat) : (glueL (L.take j)).length ≤ (glueL L).length := by
 have h : ∀ (p q : List (List UInt8)), glueL (p ++ q) = glueL p ++ glueL q := by
  intro p q
  induction p with
  | nil => rfl
  | cons x p ih => simp [glueL, ih]
 conv => rhs; rw [← List.take_append_drop j L, h, List.length_append]
 omega
theorem line_cells (l : List UInt8) : Lib.strCells (({ data := l.toArray } : ByteArray) ++ { data := #[10] }) = Lib.byteCells (l ++ [10]) := by
 rw [Lib.strCells_eq]; congr 1
theorem line_size (l : List UInt8) : (({ data := l.toArray } : ByteArray) ++ { data := #[10] }).size = l.length + 1 := by
 rw [← Lib.strCells_length, line_cells, Lib.byteCells_length, List.length_append]; rfl
set_option maxRecDepth 100000 in
set_option maxHeartbeats 8000000 in
theorem text_any (m0 m1 d0 d1 g : Int) (A : Option Addr) (n q : Nat) (l : List ActV) (w : World) [hk : Tb w] (hl : l.length = n) (hn : n ≤ 9223372036854775807) (h : RowA w A l) (hlen : mayStB m0 m1 d0 d1 g = true → noMay l = false → n ≤ 5000 → (scTextL m0 m1 d0 d1 g l).length ≤ 16777216) :
  Calls Tryz.prog 29 #[.agg #[.int .i64 m0, .int .i64 m1, .int .i64 d0, .int .i64 d1, .int .i64 g, .slice A n q]] w fun e w' => e = .returned (.tuple #[.string (tS m0 m1 d0 d1 g l), .int .i64 (tE m0 m1 d0 d1 g l)]) ∧ Gr w w' := by
 have HL := Lib.hid hl; have H := Lib.hid h; have HLEN := Lib.hid hlen; clear hl h hlen
 have HMS := Lib.hid (fun W => mayStage_any m0 m1 d0 d1 g W)
 have HCO := Lib.hid (fun W (hW : Gr w W) => containsA_any A n q l W HL.out hn (H.out.gr hW))
 rcases Bool.eq_false_or_eq_true (mayStB m0 m1 d0 d1 g) with hs | hs
 ·rw [hs] at HMS
  rcases Bool.eq_false_or_eq_true (noMay l) with hb | hb
  ·rw [hb] at HCO
   have hE : tE m0 m1 d0 d1 g l = 2 := by simp [tE, hs, hb]
   have hS : tS m0 m1 d0 d1 g l = ⟨#[]⟩ := by simp [tS, hE]
   have HE := Lib.hid hE; have HS := Lib.hid hS; clear hE hS hs hb
   go_enter Tryz.func29, Tryz.ntmps29
   go_wp2_with (first | (go_at_call 67; ((with_reducible refine (HMS.out _).mono ?_); rintro _ _ ⟨rfl, g1, rfl⟩)) | (go_at_call 68; ((with_reducible refine (HCO.out _ gri).mono ?_); rintro _ _ ⟨rfl, g2, rfl⟩)))
   go_ret2
   exact ⟨by rw [HE.out, HS.out]; rfl, gri⟩
  ·rw [hb] at HCO
   have HCL := Lib.hid (HLEN.out hs hb)
   have HNM := Lib.hid hb
   have hbd : StBd m0 m1 d0 d1 g := ⟨by simp only [mayStB, Bool.and_eq_true, decide_eq_true_eq] at hs; omega⟩
   have HBD := Lib.hid hbd
   by_cases h5 : n ≤ 5000
   ·have h5i : ¬ (5000 : Int) < (n : Int) := by omega
    have h6 : ¬ 5000 < l.length := by have := HL.out; omega
    have hE : tE m0 m1 d0 d1 g l = 0 := by simp [tE, hs, hb, h6]
    have hS : tS m0 m1 d0 d1 g l = ⟨(scTextL m0 m1 d0 d1 g l).toArray⟩ := by rw [tS, if_pos hE]
    have HE := Lib.hid hE; have HS := Lib.hid hS; have HSZ := Lib.hid (HCL.out h5); clear hE hS hs hb hbd HCL h6
    go_enter Tryz.func29, Tryz.ntmps29
    go_upto_region 5 with (first | (go_at_call 67; ((with_reducible refine (HMS.out _).mono ?_); rintro _ _ ⟨rfl, g1, rfl⟩)) | (go_at_call 68; ((with_reducible refine (HCO.out _ gri).mono ?_); rintro _ _ ⟨rfl, g2, rfl⟩)))
    have hbox : BlockAt (grown (grown (w.alloc (.cells #[.int .i64 m0, .int .i64 m1, .int .i64 d0, .int .i64 d1, .int .i64 g, .slice A n q] 58)) g1) g2) w.heap.size #[.int .i64 m0, .int .i64 m1, .int .i64 d0, .int .i64 d1, .int .i64 g, .slice A n q] 58 := inferInstance
    have hgw : Gr w (grown (grown (w.alloc (.cells #[.int .i64 m0, .int .i64 m1, .int .i64 d0, .int .i64 d1, .int .i64 g, .slice A n q] 58)) g1) g2) := gri
    haveI htb3 : Tb (grown (grown (w.alloc (.cells #[.int .i64 m0, .int .i64 m1, .int .i64 d0, .int .i64 d1, .int .i64 g, .slice A n q] 58)) g1) g2) := inferInstance
    generalize grown (grown (w.alloc (.cells #[.int .i64 m0, .int .i64 m1, .int .i64 d0, .int .i64 d1, .int .i64 g, .slice A n q] 58)) g1) g2 = W3 at *
    have x0 : W3.cell? ⟨w.heap.size, 0, none⟩ = some (.int .i64 m0) := (@block_cells _ _ 0 _ _ hbox).trans rfl
    have x1 : W3.cell? ⟨w.heap.size, 1, none⟩ = some (.int .i64 m1) := (@block_cells _ _ 1 _ _ hbox).trans rfl
    have x2 : W3.cell? ⟨w.heap.size, 2, none⟩ = some (.int .i64 d0) := (@block_cells _ _ 2 _ _ hbox).trans rfl
    have x3 : W3.cell? ⟨w.heap.size, 3, none⟩ = some (.int .i64 d1) := (@block_cells _ _ 3 _ _ hbox).trans rfl
    have x4 : W3.cell? ⟨w.heap.size, 4, none⟩ = some (.int .i64 g) := (@block_cells _ _ 4 _ _ hbox).trans rfl
    have x5 : W3.cell? ⟨w.heap.size, 5, none⟩ = some (.slice A n q) := (@block_cells _ _ 5 _ _ hbox).trans rfl
    haveI : Old w.heap.size W3 := hbox.old
    have HBOX := Lib.hid hbox; have HGW := Lib.hid hgw; clear hbox hgw
    have hI0 : Lib.IsBuilderF 110 5 W3.heap.size W3.heap.size (Lib.byteCells []) (W3.alloc (.cells #[.pointer none, .slice none 0 0] 110)) := Lib.IsBuilderF.of (Lib.fresh_isBuilder 110 5 W3)
    have HI0 := Lib.hid hI0; clear hI0
    have HST := Lib.hid (fun W (_ : Tb W) => stageText_any m0 m1 d0 d1 g HBD.out W)
    have hstl := stageWords_len HBD.out
    go_upto_region 7 with ((go_at_call 71; ((with_reducible refine (HST.out _ inferInstance).mono ?_); rintro _ _ ⟨rfl, g3, rfl⟩)))
    have hsz0 : (Lib.byteCells []).length + (({ data := (stageTextL m0 m1 d0 d1 g).toArray } : ByteArray) ++ { data := #[10] }).size ≤ 140737488355328 := by rw [line_size]; simp [Lib.byteCells]; omega
    have HSZ0 := Lib.hid hsz0; clear hsz0 hstl
    go_wp2_with ((go_at_call 70; (refine (writeString_k W3.heap.size W3.heap.size (Lib.byteCells []) _ _ (bld_gr HI0.out gri) HSZ0.out (gri : Gr W3 _).below.size).mono ?_); rintro _ W4 ⟨rfl, h4, b4, k4⟩; have x5b : W4.cell? ⟨w.heap.size, 5, none⟩ = some (.slice A n q) := (b4.cell (p := ⟨w.heap.size, 5, none⟩) (inferInstance : Old w.heap.size W3).lt).trans ((@block_cells _ _ 5 _ _ (HBOX.out.gr gri)).trans rfl)))
    go_loopw [28] (fun iv wr => ∃ j : Nat, iv = .int .i64 j ∧ j ≤ n ∧ Lib.IsBuilderF 110 5 W3.heap.size W3.heap.size (Lib.byteCells (glueL ((linesOf m0 m1 d0 d1 g l).take (j + 1)))) wr ∧ Below W3.heap.size W3 wr) (fun iv _ => n - (intOf iv).toNat)
    case atStart =>
     have h4' : Lib.IsBuilderF 110 5 W3.heap.size W3.heap.size _ W4 := Or.inr h4
     rw [line_cells] at h4'
     exact ⟨0, rfl, Nat.zero_le _, by simpa [linesOf, glueL, Lib.byteCells] using h4', (gri : Gr W3 _).below.trans b4⟩
    case round =>
     obtain ⟨j, rfl, hj, hI, hbw⟩ := hrel
     have hlj : ((Lib.byteCells (glueL ((linesOf m0 m1 d0 d1 g l).take (j + 1)))).length : Int) ≤ 16777216 := by
      have h1 := glue_take_le (linesOf m0 m1 d0 d1 g l) (j + 1)
      have h2 := HSZ.out
      unfold scTextL at h2
      rw [Lib.byteCells_length]
      omega
     have HI := Lib.hid hI; clear hI
     haveI : From W3 wr := ⟨hbw.size⟩
     haveI : GrC W3 wr := ⟨hbw⟩
     by_cases hlt : j < n
     ·have hjl : j < l.length := by have := HL.out; omega
      have hgj := List.getElem?_eq_getElem hjl
      obtain ⟨b, o, rfl, hb, hc⟩ := (H.out.gr HGW.out).at_ (by rintro rfl; simp at hjl)
      obtain ⟨Ad, qd, Av, qv, hm⟩ := hc j _ hgj
      have hmay := noMay_no HNM.out _ (List.mem_of_getElem? hgj)
      have htk : (linesOf m0 m1 d0 d1 g l).take (j + 1 + 1) = (linesOf m0 m1 d0 d1 g l).take (j + 1) ++ [(l[j]).text] := by
       have h1 : (linesOf m0 m1 d0 d1 g l)[j + 1]? = some (l[j]).text := by
        rw [linesOf, List.getElem?_cons_succ, List.getElem?_map, hgj]; rfl
       rw [List.take_add_one (i := j + 1), h1]; rfl
      generalize l[j] = a at *
      obtain ⟨k, nd, m, ⟨ok, ov, ot, os, oa, oc, od⟩, f, pk⟩ := a
      have v0 : wr.cell? ⟨b, o + j * 12, none⟩ = some (.int .i64 k) := (hbw.cell (p := ⟨b, o + j * 12, none⟩) hb).trans (hm.c 0 _ rfl)
      have v1 : wr.cell? ⟨b, o + j * 12 + 1, none⟩ = some (.int .i64 nd) := (hbw.cell (p := ⟨b, o + j * 12 + 1, none⟩) hb).trans (hm.c 1 _ rfl)
      have v2 : wr.cell? ⟨b, o + j * 12 + 2, none⟩ = some (.int .i64 m) := (hbw.cell (p := ⟨b, o + j * 12 + 2, none⟩) hb).trans (hm.c 2 _ rfl)
      have v3 : wr.cell? ⟨b, o + j * 12 + 3, none⟩ = some (.int .i64 ok) := (hbw.cell (p := ⟨b, o + j * 12 + 3, none⟩) hb).trans (hm.c 3 _ rfl)
      have v4 : wr.cell? ⟨b, o + j * 12 + 4, none⟩ = some (.int .u64 ov) := (hbw.cell (p := ⟨b, o + j * 12 + 4, none⟩) hb).trans (hm.c 4 _ rfl)
      have v5 : wr.cell? ⟨b, o + j * 12 + 5, none⟩ = some (.int .u64 ot) := (hbw.cell (p := ⟨b, o + j * 12 + 5, none⟩) hb).trans (hm.c 5 _ rfl)
      have v6 : wr.cell? ⟨b, o + j * 12 + 6, none⟩ = some (.int .i64 os) := (hbw.cell (p := ⟨b, o + j * 12 + 6, none⟩) hb).trans (hm.c 6 _ rfl)
      have v7 : wr.cell? ⟨b, o + j * 12 + 7, none⟩ = some (.int .i64 oa) := (hbw.cell (p := ⟨b, o + j * 12 + 7, none⟩) hb).trans (hm.c 7 _ rfl)
      have v8 : wr.cell? ⟨b, o + j * 12 + 8, none⟩ = some (.int .i64 oc) := (hbw.cell (p := ⟨b, o + j * 12 + 8, none⟩) hb).trans (hm.c 8 _ rfl)
      have v9 : wr.cell? ⟨b, o + j * 12 + 9, none⟩ = some (.slice Ad od.length qd) := (hbw.cell (p := ⟨b, o + j * 12 + 9, none⟩) hb).trans (hm.c 9 _ rfl)
      have v10 : wr.cell? ⟨b, o + j * 12 + 10, none⟩ = some (.bool f) := (hbw.cell (p := ⟨b, o + j * 12 + 10, none⟩) hb).trans (hm.c 10 _ rfl)
      have v11 : wr.cell? ⟨b, o + j * 12 + 11, none⟩ = some (.slice Av pk.length qv) := (hbw.cell (p := ⟨b, o + j * 12 + 11, none⟩) hb).trans (hm.c 11 _ rfl)
      haveI : Old b wr := ⟨Nat.lt_of_lt_of_le hb hbw.size⟩
      have hji : (j : Int) < (n : Int) := by omega
      have HTX := Lib.hid (fun W (_ : Tb W) (hW : Gr W3 W) => actText_any k nd m ok ov ot os oa oc Ad Av od.length qd pk.length qv f od pk W hm.n0 hm.n1 hm.m0 hm.m1 hm.bd rfl hm.ld (hm.d.gr hW) rfl hm.lv hm.pk (hm.v.gr hW) hmay)
      obtain ⟨T, hT⟩ : ∃ T, (⟨k, nd, m, ⟨ok, ov, ot, os, oa, oc, od⟩, f, pk⟩ : ActV).text = T := ⟨_, rfl⟩
      have hT2 : actTextL k nd m ok ov ot os oa oc f od pk = T := hT
      rw [hT2] at HTX
      rw [hT] at htk
      have hsz9 : (Lib.byteCells (glueL ((linesOf m0 m1 d0 d1 g l).take (j + 1)))).length + (({ data := T.toArray } : ByteArray) ++ { data := #[10] }).size ≤ 140737488355328 := by
       have h1 := glue_take_le (linesOf m0 m1 d0 d1 g l) (j + 1 + 1)
       rw [htk, glueL_snoc] at h1
       have h2 := HSZ.out
       unfold scTextL at h2
       rw [line_size, Lib.byteCells_length]
       simp only [List.length_append] at h1
       omega
      have hTl : T.length ≤ 16777216 := by
       have h1 := glue_take_le (linesOf m0 m1 d0 d1 g l) (j + 1 + 1)
       rw [htk, glueL_snoc] at h1
       have h2 := HSZ.out
       unfold scTextL at h2
       simp only [List.length_append] at h1
       omega
      have HS9 := Lib.hid hsz9; have HTK := Lib.hid htk; have HBW := Lib.hid hbw
      clear hm hc hmay hgj hjl hT hT2 hsz9 htk
      haveI : Tb wr := htb3.of_below hbw
      go_wp2_with (first | (go_at_call 72; (refine (Tryz.Builder_Len_f W3.heap.size W3.heap.size _ _ (bld_gr HI.out gri)).mono ?_); rintro _ _ ⟨rfl, rfl⟩) | (go_at_call 42; ((with_reducible refine (HTX.out _ inferInstance gri).mono ?_); rintro _ _ ⟨rfl, g5, rfl⟩)) | (go_at_call 70; (refine (writeString_k W3.heap.size W3.heap.size _ _ _ (bld_gr HI.out gri) HS9.out (gri : Gr W3 _).below.size).mono ?_); rintro _ W6 ⟨rfl, h6, b6, k6⟩))
      go_roundw
      case rel =>
       have h6' : Lib.IsBuilderF 110 5 W3.heap.size W3.heap.size _ W6 := Or.inr h6
       rw [line_cells, ← Lib.byteCells_append, ← List.append_assoc, ← glueL_snoc, ← HTK.out] at h6'
       exact ⟨j + 1, by go_num, by omega, h6', (gri : Gr W3 _).below.trans b6⟩
      case measure => simp [intOf]; omega
     ·have hji : ¬ (j : Int) < (n : Int) := by omega
      have hall : (linesOf m0 m1 d0 d1 g l).take (j + 1) = linesOf m0 m1 d0 d1 g l := List.take_of_length_le (by have := HL.out; simp [linesOf]; omega)
      have hI2 := HI.out
      rw [hall] at hI2 hlj
      have HI2 := Lib.hid hI2; clear hI2 hall HI
      obtain ⟨N, hN⟩ : ∃ N : Nat, (Lib.byteCells (glueL (linesOf m0 m1 d0 d1 g l))).length = N := ⟨_, rfl⟩
      have HLN := Lib.hid (show Calls Tryz.prog 72 #[.pointer (some ⟨W3.heap.size, 0, none⟩)] wr (fun e w' => e = .returned (.int .i64 (N : Int)) ∧ w' = wr) from hN ▸ Tryz.Builder_Len_f W3.heap.size W3.heap.size _ wr HI2.out)
      rw [hN] at hlj
      clear hN
      obtain ⟨T, hT⟩ : ∃ T, glueL (linesOf m0 m1 d0 d1 g l) = T := ⟨_, rfl⟩
      have HST9 := Lib.hid (show Calls Tryz.prog 73 #[.pointer (some ⟨W3.heap.size, 0, none⟩)] wr (fun e w' => e = .returned (.string ⟨T.toArray⟩) ∧ (Lib.IsBuilderF 110 5 W3.heap.size W3.heap.size (Lib.byteCells T) w' ∧ Below W3.heap.size wr w')) from hT ▸ Tryz.Builder_String_any_f W3.heap.size W3.heap.size (glueL (linesOf m0 m1 d0 d1 g l)) _ HI2.out hbw.size)
      have HTT := Lib.hid hT; have HBW := Lib.hid hbw
      clear hT hbw
      have hlj2 : ¬ (16777216 : Int) < (N : Int) := by omega
      clear hlj
      go_wp2_with (first | (go_at_call 72; (with_reducible refine (HLN.out).mono ?_); rintro _ _ ⟨rfl, rfl⟩) | (go_at_call 73; (with_reducible refine (HST9.out).mono ?_); rintro _ W7 ⟨rfl, _, b7⟩))
      go_ret2
      exact ⟨by rw [HE.out, HS.out, ← HTT.out]; rfl, Gr.of (HGW.out.below.trans ((HBW.out.trans b7).mono HGW.out.below.size))⟩
   ·have h5i : (5000 : Int) < (n : Int) := by omega
    have h6 : 5000 < l.length := by have := HL.out; omega
    have hE : tE m0 m1 d0 d1 g l = 3 := by simp [tE, hs, hb, h6]
    have hS : tS m0 m1 d0 d1 g l = ⟨#[]⟩ := by simp [tS, hE]
    have HE := Lib.hid hE; have HS := Lib.hid hS; clear hE hS hs hb hbd h6
    go_enter Tryz.func29, Tryz.ntmps29
    go_wp2_with (first | (go_at_call 67; ((with_reducible refine (HMS.out _).mono ?_); rintro _ _ ⟨rfl, g1, rfl⟩)) | (go_at_call 68; ((with_reducible refine (HCO.out _ gri).mono ?_); rintro _ _ ⟨rfl, g2, rfl⟩)))
    go_ret2
    exact ⟨by rw [HE.out, HS.out]; rfl, gri⟩
 ·rw [hs] at HMS
  have hE : tE m0 m1 d0 d1 g l = 2 := by simp [tE, hs]
  have hS : tS m0 m1 d0 d1 g l = ⟨#[]⟩ := by simp [tS, hE]
  have HE := Lib.hid hE; have HS := Lib.hid hS; clear hE hS hs
  go_enter Tryz.func29, Tryz.ntmps29
  go_wp2_with ((go_at_call 67; ((with_reducible refine (HMS.out _).mono ?_); rintro _ _ ⟨rfl, g1, rfl⟩)))
  go_ret2
  exact ⟨by rw [HE.out, HS.out]; rfl, gri⟩
structure OwnB (base : Nat) (W : World) (v : Value) (l : List UInt8) : Prop where
 ex : ∃ g cap, v = .slice (some ⟨g, 0, none⟩) l.length cap ∧ base ≤ g ∧ g < W.heap.size ∧ l.length ≤ cap ∧ (∀ j x, l[j]? = some x → W.cell? ⟨g, j, none⟩ = some (bv x)) ∧ (∀ j, l.length ≤ j → j < cap → (W.cell? ⟨g, j, none⟩).isSome = true ∧ W.frozen? ⟨g, j, none⟩ = false)
theorem OwnB.gr {base : Nat} {W W' : World} {v : Value} {l : List UInt8} (h : OwnB base W v l) (k : Gr W W') : OwnB base W' v l := by
 obtain ⟨g, cap, hv, hb, hg, hc, h1, h2⟩ := h.ex
 refine ⟨g, cap, hv, hb, Nat.lt_of_lt_of_le hg k.below.size, hc, fun j x hj => (k.below.cell (p := ⟨g, j, none⟩) hg).trans (h1 j x hj), fun j hj hjc => ?_⟩
 rw [k.below.cell (p := ⟨g, j, none⟩) hg, k.below.frozen (p := ⟨g, j, none⟩) hg]
 exact h2 j hj hjc
theorem OwnB.row {base : Nat} {W : World} {v : Value} {l : List UInt8} (h : OwnB base W v l) : ∃ A cap, v = .slice A l.length cap ∧ l.length ≤ cap ∧ Row bv W A l := by
 obtain ⟨g, cap, hv, hb, hg, hc, h1, h2⟩ := h.ex
 exact ⟨_, cap, hv, hc, ⟨fun _ => ⟨g, 0, rfl, hg, fun j x hj => by rw [Nat.zero_add]; exact h1 j x hj⟩⟩⟩
theorem OwnB.of_own {base : Nat} {W : World} {v : Value} {n : Nat} {xs : List Value} {l : List UInt8} (h : W.ownsRow base 5 1 v n xs) (hx : xs = l.map bv) (hn : 0 < n) : OwnB base W v l := by
 subst hx
 have hl : l.length = n := by have := h.1; simpa using this
 subst hl
 have h0 := h
 rcases h.2 with ⟨_, hz⟩ | ⟨g, cap, cur, rfl, hb, hg, hnc, hcm, hcs, htk⟩
 ·omega
 ·refine ⟨g, cap, rfl, hb, (Array.getElem?_eq_some_iff.1 hg).1, hnc, fun j x hj => ?_, fun j hj hjc => ?_⟩
  ·have := World.ownsRow.cells h0 (g := g) rfl j (bv x) (by simp [hj])
   rw [Go.WideShapes.add_plain, Nat.zero_add] at this
   exact this
  ·have hs : cur.size = cap := by simpa using hcs
   refine ⟨by simp [World.cell?, hg, hs, hjc], by simp [World.frozen?, hg]⟩
theorem conv_bytes (W : World) (s : ByteArray) : (convert 9 24 (.string s)).run Tryz.prog W = .ok (.slice (some ⟨W.heap.size, 0, none⟩) s.size (grownCap W s.size 0 5)) (W.drew.alloc (.cells (bytesRow s (grownCap W s.size 0 5)) 5 ((bytesRow s (grownCap W s.size 0 5)).size, (bytesRow s (grownCap W s.size 0 5)).size + 1))) :=
 run_bytes_of_string W _ _ _ s Tryz.underlying9 Tryz.underlying24 Tryz.underlying5
theorem conv_bytes_own (W : World) (s : ByteArray) (l : List UInt8) (hl : s.data.toList = l) : OwnB W.heap.size (W.drew.alloc (.cells (bytesRow s (grownCap W s.size 0 5)) 5 ((bytesRow s (grownCap W s.size 0 5)).size, (bytesRow s (grownCap W s.size 0 5)).size + 1))) (.slice (some ⟨W.heap.size, 0, none⟩) s.size (grownCap W s.size 0 5)) l := by
 subst hl
 have hc := grownCap_ge W s.size 0 5
 generalize grownCap W s.size 0 5 = cap at *
 have hsz : s.data.toList.length = s.size := by simp
 have hds : s.data.size = s.size := rfl
 have hrs : (bytesRow s cap).size = cap := by simp [bytesRow]; omega
 obtain ⟨R, hR⟩ : ∃ R, bytesRow s cap = R := ⟨_, rfl⟩
 have hh : (W.drew.alloc (.cells R 5 (R.size, R.size + 1))).heap[W.heap.size]? = some (.cells R 5 (R.size, R.size + 1)) := by
  show (W.heap.push _)[W.heap.size]? = _
  simp
 rw [hR] at hrs ⊢
 refine ⟨W.heap.size, cap, by rw [hsz], Nat.le_refl _, by simp, by omega, fun j x hj => ?_, fun j hj hjc => ?_⟩
 ·obtain ⟨h1, h2⟩ := List.getElem?_eq_some_iff.1 hj
  have h3 := bytesRow_at s cap j (by simpa using h1)
  rw [hR] at h3
  simp only [World.cell?, hh, h3]
  rw [← h2]; rfl
 ·refine ⟨?_, ?_⟩
  ·simp only [World.cell?, hh]
   simp [hrs, hjc]
  ·simp only [World.frozen?, hh]
   simp; omega
theorem below_setCells {base b : Nat} (hb : base ≤ b) : ∀ (vs : List Value) (o : Nat) (W : World), Below base W (W.setCells b o vs)
 | [], _, W => Below.refl _ _
 | v :: r, o, W => ((Below.refl base W).setCell (p := ⟨b, o, none⟩) hb v).trans (below_setCells hb r (o + 1) _)
theorem setCells_size (b : Nat) : ∀ (vs : List Value) (o : Nat) (W : World), (W.setCells b o vs).heap.size = W.heap.size
 | [], _, _ => rfl
 | v :: r, o, W => by rw [World.setCells, setCells_size b r]; simp [World.setCell]
structure AppB (base : Nat) (W : World) (xs ys : List UInt8) (v' : Value) (W' : World) : Prop where
 own : OwnB base W' v' (xs ++ ys)
 below : Below base W W'
 size : W.heap.size ≤ W'.heap.size
theorem own_put {base g cap : Nat} {W : World} {xs ys : List UInt8} (hb : base ≤ g) (hg : g < W.heap.size) (h1 : ∀ j x, xs[j]? = some x → W.cell? ⟨g, j, none⟩ = some (bv x)) (h2 : ∀ j, xs.length ≤ j → j < cap → (W.cell? ⟨g, j, none⟩).isSome = true ∧ W.frozen? ⟨g, j, none⟩ = false) (hr : xs.length + ys.length ≤ cap) :
  AppB base W xs ys (.slice (some ⟨g, 0, none⟩) (xs.length + ys.length) cap) (W.setCells g xs.length (ys.map bv)) := by
 refine ⟨⟨g, cap, by rw [List.length_append], hb, by rw [setCells_size]; exact hg, by rw [List.length_append]; exact hr, fun j x hj => ?_, fun j hj hjc => ?_⟩, below_setCells hb _ _ _, by rw [setCells_size]; exact Nat.le_refl _⟩
 ·by_cases hjl : j < xs.length
  ·rw [List.getElem?_append_left hjl] at hj
   rw [World.cell?_setCells_out g _ _ _ _ (fun _ _ => Or.inl hjl)]
   exact h1 j x hj
  ·rw [List.getElem?_append_right (by omega)] at hj
   obtain ⟨h3, h4⟩ := List.getElem?_eq_some_iff.1 hj
   have h5 := World.cell?_setCells_in g (ys.map bv) xs.length W (fun i hi => (h2 (xs.length + i) (by omega) (by simp at hi; omega)).1) (j - xs.length) (by simpa using h3)
   rw [show xs.length + (j - xs.length) = j by omega] at h5
   rw [h5]
   simp [h4]
 ·rw [List.length_append] at hj
  rw [World.cell?_setCells_out g _ _ _ _ (fun _ _ => Or.inr (by simp; omega)), World.frozen?_setCells]
  exact h2 j (by omega) hjc
theorem strCells_bv (s : ByteArray) : Lib.strCells s = s.data.toList.map bv := rfl
theorem wp_append_bstr {ops : Array Oper} {rest : List Oper} {o : Oper} {a : Act} {Q : Exit → Act → World → Prop} (hgd : o.guard = none) (s x : Operand)
  (ho : o.op = .call { callee := .builtin .append, args := #[s, x], argTypes := #[24, 9] })
  (base : Nat) {W : World} (v : Value) (xs : List UInt8) (hs : a.eval s = v) (hown : OwnB base W v xs) (str : ByteArray) (ys : List UInt8) (hys : str.data.toList = ys) (hx : a.eval x = .string str) (hlen : xs.length + ys.length ≤ 100000000) (hne : 0 < xs.length) (hbase : base ≤ W.heap.size)
  (h : ∀ v' W', AppB base W xs ys v' W' → wpList Tryz.prog ops Q rest (a.put o.dst v') W') : wpList Tryz.prog ops Q (o :: rest) a W := by
 subst hys
 obtain ⟨g, cap, rfl, hb, hg, hc, h1, h2⟩ := hown.ex
 obtain ⟨i0, hi, hz0, hz1, hz2⟩ := info_parts infoByte
 have hsz : str.data.toList.length = str.size := by simp
 refine wpList_plain hgd fun K hK => ?_
 by_cases hr : xs.length + str.size ≤ cap
 ·have hst := run_storeCells_cells (P := Tryz.prog) g xs.length (Lib.strCells str) 0 W (fun j hj => (h2 _ (by omega) (by rw [Lib.strCells_length] at hj; omega)).1) (fun j hj => (h2 _ (by omega) (by rw [Lib.strCells_length] at hj; omega)).2) (Lib.strCells_oneCell str)
  have hfc := Lib.run_firstCells_string (P := Tryz.prog) W 1 str
  rw [Nat.add_zero, strCells_bv] at hst
  rw [strCells_bv] at hfc
  have hput := own_put (base := base) (W := W) (ys := str.data.toList) hb hg h1 h2 (by omega)
  rw [hsz] at hput
  have hrun : (Builtin.append_ #[24, 9] o.type #[.slice (some ⟨g, 0, none⟩) xs.length cap, .string str]).run Tryz.prog W = .ok (.slice (some ⟨g, 0, none⟩) (xs.length + str.size) cap) (W.setCells g xs.length (str.data.toList.map bv)) := by
   simp [Builtin.append_, run_underlying Tryz.underlying24, run_underlying Tryz.underlying9, sizeOf, typeInfo, hi, hz1, Builtin.lenOf, hr, hfc, Addr.add_lit, hst]
  unfold Oper.wp
  simp [execOp, ho, resolve, invoke, builtin, hs, hx, hrun, Result.andThen]
  exact hK _ _ (h _ _ hput)
 ·have holds : ∀ j u, (xs.map bv)[j]? = some u → W.cell? ((⟨g, 0, none⟩ : Addr).add j) = some u := fun j u hj => by
   rw [List.getElem?_map] at hj
   cases hx : xs[j]? with
   | none => rw [hx] at hj; cases hj
   | some y => rw [hx] at hj; cases hj; rw [Go.WideShapes.add_plain, Nat.zero_add]; exact h1 j y hx
  have hrun := Lib.run_append_grow_string (P := Tryz.prog) W 24 9 o.type 5 i0 (.int .u8 0) Tryz.underlying24 Tryz.underlying9 hi hz0 ⟨g, 0, none⟩ xs.length cap (xs.map bv) (by rw [hz1]; simp) holds str (by omega) (by omega) (by rw [hz2]; exact growslice_fits (by omega) (by omega))
  have hge := grownCap_ge W (xs.length + str.size) cap 5
  have hcm := grownCap_le_maxLen W (xs.length + str.size) cap 5 (by unfold maxLen; omega)
  have hown2 : (W.drew.alloc (.cells ((xs.map bv).toArray ++ (Lib.strCells str).toArray ++ Builtin.zeroCells (Value.int .u8 0).cells (grownCap W (xs.length + str.size) cap 5 - (xs.length + str.size))) 5)).ownsRow W.heap.size 5 1 (.slice (some ⟨W.heap.size, 0, none⟩) (xs.length + str.size) (grownCap W (xs.length + str.size) cap 5)) (xs.length + str.size) ((xs ++ str.data.toList).map bv) := by
   have hll : ((xs ++ str.data.toList).map bv).length = (xs.length + str.size) * 1 := by rw [List.length_map, List.length_append, hsz, Nat.mul_one]
   refine ⟨hll, .inr ⟨W.heap.size, _, _, rfl, Nat.le_refl _, heap_alloc_new W.drew _, hge, hcm, ?_, ?_⟩⟩
   ·have hz1 : (Value.int IntKind.u8 0).cells.size = 1 := rfl
    simp only [Array.size_append, List.size_toArray, size_zeroCells, hz1, List.length_map, Lib.strCells_length]
    omega
   ·have e : xs.map bv ++ Lib.strCells str = (xs ++ str.data.toList).map bv := by rw [strCells_bv, List.map_append]
    simp only [Array.toList_append]
    rw [e, ← hll]
    exact List.take_left
  have hB := OwnB.of_own hown2 rfl (by omega)
  obtain ⟨v2, w2, hrun2, hap⟩ : ∃ v2 w2, (Builtin.append_ #[24, 9] o.type #[.slice (some ⟨g, 0, none⟩) xs.length cap, .string str]).run Tryz.prog W = .ok v2 w2 ∧ AppB base W xs str.data.toList v2 w2 := by
   refine ⟨_, _, hrun, ⟨?_, ((Below.refl base W).drew).alloc hbase _, by simp⟩⟩
   obtain ⟨g2, c2, e, q1, q2, q3, q4, q5⟩ := hB.ex
   exact ⟨g2, c2, e, Nat.le_trans hbase q1, q2, q3, q4, q5⟩
  unfold Oper.wp
  simp [execOp, ho, resolve, invoke, builtin, hs, hx, hrun2, Result.andThen]
  exact hK _ _ (h _ _ hap)
theorem wp_append_b1 {ops : Array Oper} {rest : List Oper} {o : Oper} {a : Act} {Q : Exit → Act → World → Prop} (hgd : o.guard = none) (s x : Operand)
  (ho : o.op = .call { callee := .builtin .append, args := #[s, x], argTypes := #[24, 24] })
  (base : Nat) {W : World} (v : Value) (xs : List UInt8) (hs : a.eval s = v) (hown : OwnB base W v xs) (y : UInt8) (ad : Nat) (hx : a.eval x = .slice (some ⟨ad, 0, none⟩) 1 1) (hc : W.cell? ⟨ad, 0, none⟩ = some (bv y)) (hlen : xs.length ≤ 100000000) (hbase : base ≤ W.heap.size)
  (h : ∀ v' W', AppB base W xs [y] v' W' → wpList Tryz.prog ops Q rest (a.put o.dst v') W') : wpList Tryz.prog ops Q (o :: rest) a W := by
 obtain ⟨g, cap, rfl, hb, hg, hcap, h1, h2⟩ := hown.ex
 obtain ⟨i0, hi, hz0, hz1, hz2⟩ := info_parts infoByte
 refine wpList_append_arg W hgd s x 24 ho 5 i0 (.int .u8 0) 1 1 Tryz.underlying24 hi hz0 hz1 hz2 rfl (by decide) g 0 xs.length cap (xs.map bv) hs (by simp) (fun j u hj => ?_) ⟨ad, 0, none⟩ 1 1 [bv y] hx rfl ?_ ?_ ?_ ?_ ?_ ?_ ?_
 ·rw [List.getElem?_map] at hj
  cases hx : xs[j]? with
  | none => rw [hx] at hj; cases hj
  | some z => rw [hx] at hj; cases hj; rw [Nat.zero_add]; exact h1 j z hx
 ·intro j u hj
  match j, hj with
  | 0, hj => simp at hj; subst hj; simpa [Addr.add] using hc
 ·intro u hu; simp at hu; subst hu; rfl
 ·intro hr j hj
  have : j = 0 := by simpa using hj
  subst this
  have := h2 xs.length (Nat.le_refl _) (by omega)
  simpa using this
 ·unfold maxLen; omega
 ·omega
 ·intro hr
  have hput := own_put (base := base) (W := W) (ys := [y]) hb hg h1 h2 (by simpa using hr)
  have e : 0 + xs.length * 1 = xs.length := by omega
  rw [e]
  exact h _ _ hput
 ·intro hr v' W' hown' hgrow
  have hB := OwnB.of_own (l := xs ++ [y]) hown' (by simp) (by omega)
  refine h v' W' ⟨?_, (Below.refl base W).grown hgrow hbase (fun q hq => by cases hq), hgrow.size⟩
  obtain ⟨g2, c2, e, q1, q2, q3, q4, q5⟩ := hB.ex
  exact ⟨g2, c2, e, Nat.le_trans hbase q1, q2, q3, q4, q5⟩
end Go.Proofs.YtgjdgafoidppaaaGreatDoor
