/- The walk of ScriptEdits: it returns true. Conditions: the tables stand. -/
import Derived.Test.YtgjdgafoidppaaaGreatDoorU13
import Derived.Test.YtgjdgafoidppaaaGreatDoorU14
namespace Go.Proofs.YtgjdgafoidppaaaGreatDoor
open Go.RowKit
set_option linter.unusedVariables false
set_option linter.unusedSimpArgs false
set_option linter.unnecessarySimpa false
theorem parse_back (X : ByteArray) (m0 m1 d0 d1 g : Int) (l : List ActV) (n : Nat) (hl : l.length = n) (h : BackS X m0 m1 d0 d1 g l) (hX : X.size ≤ 200000) (V : World) [hk : Tb V] [hml : Ml V] : Calls Tryz.prog 26 #[.string X] V (fun e w' => ∃ A9 q9, e = .returned (.tuple #[.agg #[.int .i64 m0, .int .i64 m1, .int .i64 d0, .int .i64 d1, .int .i64 g, .slice A9 n q9], .int .i64 0, .int .i64 0]) ∧ RP w' A9 q9 l ∧ Gr V w') := by
 refine (parse_own X hX V).mono ?_
 rintro e w' ⟨A9, q9, rfl, _, hr, hg⟩
 obtain ⟨p1, p2, p3, p4, p5⟩ := h.st
 have hgd := h.good
 rw [h.acts] at hr
 refine ⟨A9, q9, ?_, hr, hg⟩
 simp only [pS, hgd, if_true, p1, p2, p3, p4, p5, h.acts, h.at_, h.e, hl]; rfl
theorem RP.st6 {W : World} {A : Option Addr} {q X : Nat} {l : List ActV} {z0 z1 z2 z3 z4 z5 : Value} (h : RP W A q l) (hX : BlockAt W X #[z0, z1, z2, z3, z4, z5] 58) (c0 c1 c2 c3 c4 c5 : Value) : RP (set6 W X c0 c1 c2 c3 c4 c5) A q l := by
 haveI := hX
 unfold set6
 exact (((((h.set_ X 0 c0).set_ X 1 c1).set_ X 2 c2).set_ X 3 c3).set_ X 4 c4).set_ X 5 c5
theorem tb_gr {W W' : World} [h : Tb W] (g : Gr W W') : Tb W' := by
 obtain ⟨g, rfl⟩ := g
 infer_instance
theorem ml_gr {W W' : World} [h : Ml W] (g : Gr W W') : Ml W' := by
 obtain ⟨g, rfl⟩ := g
 infer_instance
theorem wp_named {P : Program} {c : Code} {Q : Exit → Act → World → Prop} {a : Act} {w : World} (C : World → Prop) (hC : C w) (h : ∀ w, C w → c.wp P Q a w) : c.wp P Q a w := h w hC
set_option maxRecDepth 100000 in
set_option maxHeartbeats 16000000 in
set_option profiler true in
set_option profiler.threshold 2000 in
theorem edits_walk (m0 m1 d0 d1 g : Int) (A : Option Addr) (n q : Nat) (l : List ActV) (i k : Int) (o0 o1 p0 p1 og : Int) (w : World) [hk : Tb w] [hml : Ml w] (hC : CameL w A n q l) :
  Calls Tryz.prog 6 #[.agg #[.int .i64 m0, .int .i64 m1, .int .i64 d0, .int .i64 d1, .int .i64 g, .slice A n q], .int .i64 i, .int .i64 k, .agg #[.int .i64 o0, .int .i64 o1, .int .i64 p0, .int .i64 p1, .int .i64 og]] w fun e w' => e = .returned (.bool true) ∧ Gr w w' := by
 have HC := Lib.hid hC; clear hC
 obtain ⟨mu, hmu⟩ : ∃ b, muchB l = b := ⟨_, rfl⟩
 have HMU := Lib.hid (fun W (hW : Gr w W) => (show Calls Tryz.prog 25 #[.agg #[.int .i64 m0, .int .i64 m1, .int .i64 d0, .int .i64 d1, .int .i64 g, .slice A n q]] W (fun e w' => e = .returned (.bool mu) ∧ Gr W w') from hmu ▸ much26_any m0 m1 d0 d1 g A n q l W HC.out.len HC.out.big (HC.out.row.gr hW)))
 have HK := Lib.hid (fun W (_ : Tb W) => known26_any W)
 have HMUCH := Lib.hid hmu; clear hmu
 cases mu
 rotate_left
 ·as_aux_lemma =>
   go_enter Tryz.func6, Tryz.ntmps6
   go_wp2_with (first | (go_at_call 25; ((with_reducible refine (HMU.out _ gri).mono ?_); rintro _ _ ⟨rfl, g1, rfl⟩)) | (go_at_call 9; ((with_reducible refine (HK.out _ inferInstance).mono ?_); rintro _ _ ⟨rfl, g2, rfl⟩)) | (go_at_call 29; ((with_reducible refine (HTX.out _ inferInstance gri).mono ?_); rintro _ _ ⟨rfl, g3, rfl⟩)) | (go_at_call 13; ((with_reducible refine (num26_any _ _).mono ?_); rintro _ _ ⟨rfl, rfl⟩)))
   go_ret
   exact ⟨rfl, gri⟩
 by_cases hn0 : n = 0
 ·subst hn0
  as_aux_lemma =>
   go_enter Tryz.func6, Tryz.ntmps6
   go_wp2_with (first | (go_at_call 25; ((with_reducible refine (HMU.out _ gri).mono ?_); rintro _ _ ⟨rfl, g1, rfl⟩)) | (go_at_call 9; ((with_reducible refine (HK.out _ inferInstance).mono ?_); rintro _ _ ⟨rfl, g2, rfl⟩)) | (go_at_call 29; ((with_reducible refine (HTX.out _ inferInstance gri).mono ?_); rintro _ _ ⟨rfl, g3, rfl⟩)) | (go_at_call 13; ((with_reducible refine (num26_any _ _).mono ?_); rintro _ _ ⟨rfl, rfl⟩)))
   go_ret
   exact ⟨rfl, gri⟩
 by_cases hi0 : i < 0
 ·as_aux_lemma =>
   have hn9 : ((n : Int) == 0) = false := by simp; omega
   go_enter Tryz.func6, Tryz.ntmps6
   go_wp2_with (first | (go_at_call 25; ((with_reducible refine (HMU.out _ gri).mono ?_); rintro _ _ ⟨rfl, g1, rfl⟩)) | (go_at_call 9; ((with_reducible refine (HK.out _ inferInstance).mono ?_); rintro _ _ ⟨rfl, g2, rfl⟩)) | (go_at_call 29; ((with_reducible refine (HTX.out _ inferInstance gri).mono ?_); rintro _ _ ⟨rfl, g3, rfl⟩)) | (go_at_call 13; ((with_reducible refine (num26_any _ _).mono ?_); rintro _ _ ⟨rfl, rfl⟩)))
   go_ret
   exact ⟨rfl, gri⟩
 by_cases hk0 : k < 0
 ·as_aux_lemma =>
   have hn9 : ((n : Int) == 0) = false := by simp; omega
   go_enter Tryz.func6, Tryz.ntmps6
   go_wp2_with (first | (go_at_call 25; ((with_reducible refine (HMU.out _ gri).mono ?_); rintro _ _ ⟨rfl, g1, rfl⟩)) | (go_at_call 9; ((with_reducible refine (HK.out _ inferInstance).mono ?_); rintro _ _ ⟨rfl, g2, rfl⟩)) | (go_at_call 29; ((with_reducible refine (HTX.out _ inferInstance gri).mono ?_); rintro _ _ ⟨rfl, g3, rfl⟩)) | (go_at_call 13; ((with_reducible refine (num26_any _ _).mono ?_); rintro _ _ ⟨rfl, rfl⟩)))
   go_ret
   exact ⟨rfl, gri⟩
 by_cases hin : (n : Int) ≤ i
 ·as_aux_lemma =>
   have hn9 : ((n : Int) == 0) = false := by simp; omega
   go_enter Tryz.func6, Tryz.ntmps6
   go_wp2_with (first | (go_at_call 25; ((with_reducible refine (HMU.out _ gri).mono ?_); rintro _ _ ⟨rfl, g1, rfl⟩)) | (go_at_call 9; ((with_reducible refine (HK.out _ inferInstance).mono ?_); rintro _ _ ⟨rfl, g2, rfl⟩)) | (go_at_call 29; ((with_reducible refine (HTX.out _ inferInstance gri).mono ?_); rintro _ _ ⟨rfl, g3, rfl⟩)) | (go_at_call 13; ((with_reducible refine (num26_any _ _).mono ?_); rintro _ _ ⟨rfl, rfl⟩)))
   go_ret
   exact ⟨rfl, gri⟩
 by_cases hkn : (n : Int) ≤ k
 ·as_aux_lemma =>
   have hn9 : ((n : Int) == 0) = false := by simp; omega
   go_enter Tryz.func6, Tryz.ntmps6
   go_wp2_with (first | (go_at_call 25; ((with_reducible refine (HMU.out _ gri).mono ?_); rintro _ _ ⟨rfl, g1, rfl⟩)) | (go_at_call 9; ((with_reducible refine (HK.out _ inferInstance).mono ?_); rintro _ _ ⟨rfl, g2, rfl⟩)) | (go_at_call 29; ((with_reducible refine (HTX.out _ inferInstance gri).mono ?_); rintro _ _ ⟨rfl, g3, rfl⟩)) | (go_at_call 13; ((with_reducible refine (num26_any _ _).mono ?_); rintro _ _ ⟨rfl, rfl⟩)))
   go_ret
   exact ⟨rfl, gri⟩
 obtain ⟨i, rfl⟩ := Int.eq_ofNat_of_zero_le (show 0 ≤ i by omega)
 obtain ⟨k, rfl⟩ := Int.eq_ofNat_of_zero_le (show 0 ≤ k by omega)
 have hi : i < n := by omega
 have hkk : k < n := by omega
 have hn9 : ((n : Int) == 0) = false := by simp; omega
 have hn30 := much_no HMUCH.out
 have hnl : n ≤ 30 := by have := HC.out.len; omega
 have HN30 := Lib.hid hn30
 have hlen : mayStB m0 m1 d0 d1 g = true → noMay l = false → n ≤ 5000 → (scTextL m0 m1 d0 d1 g l).length ≤ 16777216 := fun h1 h2 _ => Nat.le_trans (script_small m0 m1 d0 d1 g l h1 (noMay_no h2) (rowA_bd HC.out.row) HN30.out) (by omega)
 have hTX := fun W (_ : Tb W) (hW : Gr w W) => text_any m0 m1 d0 d1 g A n q l W HC.out.len HC.out.big (HC.out.row.gr hW) hlen
 have h5 : ¬ 5000 < l.length := by omega
 obtain ⟨Es, hEs⟩ : ∃ b, (mayStB m0 m1 d0 d1 g && !noMay l) = b := ⟨_, rfl⟩
 have htE : tE m0 m1 d0 d1 g l = if Es then 0 else 2 := by rw [tE, hEs, if_neg h5]
 cases Es
 ·have htE2 : tE m0 m1 d0 d1 g l = 2 := htE
  rw [htE2] at hTX
  have HTX := Lib.hid hTX
  clear hTX htE htE2 hEs hlen h5 hn30
  as_aux_lemma =>
   go_enter Tryz.func6, Tryz.ntmps6
   go_wp2_with (first | (go_at_call 25; ((with_reducible refine (HMU.out _ gri).mono ?_); rintro _ _ ⟨rfl, g1, rfl⟩)) | (go_at_call 9; ((with_reducible refine (HK.out _ inferInstance).mono ?_); rintro _ _ ⟨rfl, g2, rfl⟩)) | (go_at_call 29; ((with_reducible refine (HTX.out _ inferInstance gri).mono ?_); rintro _ _ ⟨rfl, g3, rfl⟩)) | (go_at_call 13; ((with_reducible refine (num26_any _ _).mono ?_); rintro _ _ ⟨rfl, rfl⟩)))
   go_ret
   exact ⟨rfl, gri⟩
 have hX : tS m0 m1 d0 d1 g l = ⟨(scTextL m0 m1 d0 d1 g l).toArray⟩ := by simp [tS, htE]
 have htE0 : tE m0 m1 d0 d1 g l = 0 := htE
 simp only [Bool.and_eq_true, Bool.not_eq_true'] at hEs
 obtain ⟨hms, hnm⟩ := hEs
 have hmay := noMay_no hnm
 have hab := rowA_bd HC.out.row
 have hXl : linesB (tS m0 m1 d0 d1 g l) = lines m0 m1 d0 d1 g l := (glue_lines _ (linesOf_no m0 m1 d0 d1 g l) _ (by rw [hX]; rfl)).1
 have hXs : (tS m0 m1 d0 d1 g l).size ≤ 200000 := by
  rw [hX]
  have := script_small m0 m1 d0 d1 g l hms hmay hab hn30
  show (scTextL m0 m1 d0 d1 g l).length ≤ 200000
  omega
 rw [htE0] at hTX
 generalize tS m0 m1 d0 d1 g l = X at hTX hXl hXs
 have HTX := Lib.hid hTX; have HMAY := Lib.hid hmay; have HAB := Lib.hid hab; have HMS := Lib.hid hms
 have HLN := Lib.hid (fun V => (show Calls Tryz.prog 31 #[.string X] V (fun e w' => ∃ (b cap : Nat) (cur : Array Value) (r : ByteArray), e = .returned (.tuple #[.slice (some ⟨b, 0, none⟩) (n + 1) cap, .string r]) ∧ n + 1 ≤ cap ∧ b < w'.heap.size ∧ CellsS w' b 0 (lines m0 m1 d0 d1 g l) ∧ Gr V w') from by
  refine (lines26_any X (by omega) V).mono ?_
  rintro e w' ⟨b, cap, cur, rfl, h1, _, h3, h4, h5⟩
  rw [hXl, lines_len, HC.out.len] at h1 ⊢
  exact ⟨b, cap, cur, _, rfl, h1, h3.lt, fun j y hj => by rw [Nat.zero_add]; exact (@block_cells w' b j cur _ h3).trans (h4 j y (by rw [hXl]; exact hj)), h5⟩))
 clear hTX hX htE htE0 hlen h5 hnm hms hmay hab hXl hXs hn30
 go_enter Tryz.func6, Tryz.ntmps6
 go_upto_region 10 with (first | (go_at_call 25; ((with_reducible refine (HMU.out _ gri).mono ?_); rintro _ _ ⟨rfl, g1, rfl⟩)) | (go_at_call 9; ((with_reducible refine (HK.out _ inferInstance).mono ?_); rintro _ _ ⟨rfl, g2, rfl⟩)) | (go_at_call 29; ((with_reducible refine (HTX.out _ inferInstance gri).mono ?_); rintro _ _ ⟨rfl, g3, rfl⟩)) | (go_at_call 13; ((with_reducible refine (num26_any _ _).mono ?_); rintro _ _ ⟨rfl, rfl⟩)) | (go_at_call 31; ((with_reducible refine (HLN.out _).mono ?_); rintro _ _ ⟨lb, lc, cur, rs, rfl, hlc, hlb, hls, g4, rfl⟩; have HLC := Lib.hid hlc; have HLB := Lib.hid hlb; have HLS := Lib.hid hls; clear hlc hlb hls)))
 have hlc := HLC.out
 have hqn := HC.out.cap
 have hbg := HC.out.big
 refine wp_named (fun W => BlockAt W w.heap.size #[.int .i64 m0, .int .i64 m1, .int .i64 d0, .int .i64 d1, .int .i64 g, .slice A n q] 58 ∧ BlockAt W (w.heap.size + 1) #[.int .i64 o0, .int .i64 o1, .int .i64 p0, .int .i64 p1, .int .i64 og] 55 ∧ Gr w W ∧ Tb W ∧ Ml W ∧ CellsS W lb 0 (lines m0 m1 d0 d1 g l) ∧ lb < W.heap.size) ⟨inferInstance, inferInstance, gri, inferInstance, inferInstance, HLS.out, HLB.out⟩ ?_
 rintro wr ⟨b58, b55, gr, tbr, mlr, cls, clb⟩
 have CLS := Lib.hid cls; have CLB := Lib.hid clb
 clear cls clb HLS HLB HLC HLN HTX HMU hn9 g1 g3 g4
 haveI := b58; haveI := b55; haveI := tbr; haveI := mlr
 haveI : Old w.heap.size wr := b58.old
 haveI : Old (w.heap.size + 1) wr := b55.old
 have xx0 : wr.cell? ⟨w.heap.size, 0, none⟩ = some (.int .i64 m0) := (@block_cells _ _ 0 _ _ b58).trans rfl
 have xx1 : wr.cell? ⟨w.heap.size, 1, none⟩ = some (.int .i64 m1) := (@block_cells _ _ 1 _ _ b58).trans rfl
 have xx2 : wr.cell? ⟨w.heap.size, 2, none⟩ = some (.int .i64 d0) := (@block_cells _ _ 2 _ _ b58).trans rfl
 have xx3 : wr.cell? ⟨w.heap.size, 3, none⟩ = some (.int .i64 d1) := (@block_cells _ _ 3 _ _ b58).trans rfl
 have xx4 : wr.cell? ⟨w.heap.size, 4, none⟩ = some (.int .i64 g) := (@block_cells _ _ 4 _ _ b58).trans rfl
 have xx5 : wr.cell? ⟨w.heap.size, 5, none⟩ = some (.slice A n q) := (@block_cells _ _ 5 _ _ b58).trans rfl
 obtain ⟨bA, pA, xs, rfl, hbA, hxs, hok, hcl⟩ := rowA_am (HC.out.row.gr gr) (by rintro rfl; have := HC.out.len; simp at this; omega)
 have HXS := Lib.hid hxs; have HOK := Lib.hid hok; have HCL := Lib.hid hcl; have HBA := Lib.hid hbA
 clear hxs hok hcl hbA
 have hi1 : i ≤ q := by omega
 have hw1 : IntKind.i64.wrap ((i : Int) + 1) = (i : Int) + 1 := by rw [IntKind.wrap_i64]; omega
 have hw2 : (0 : Int) ≤ (i : Int) + 1 := by omega
 have hw3 : (i : Int) + 1 ≤ (n : Int) := by omega
 have hw4 : ((i : Int) + 1).toNat = i + 1 := by omega
 have hxl : xs.length = n := by have := HC.out.len; rw [← HXS.out] at this; simpa using this
 obtain ⟨P, hP, hPc⟩ : ∃ P, (if q = i + 1 then some (⟨bA, pA, none⟩ : Addr) else some ⟨bA, pA + (i + 1) * 12, none⟩) = some ⟨bA, P, none⟩ ∧ CellsA wr bA P (xs.drop (i + 1)) := by
  by_cases hq : q = i + 1
  ·exact ⟨pA, by rw [if_pos hq], by rw [List.drop_eq_nil_of_le (by omega)]; exact fun j x hj => by simp at hj⟩
  ·exact ⟨_, by rw [if_neg hq], HCL.out.drop (i + 1)⟩
 have HPC := Lib.hid hPc; have HXL := Lib.hid hxl
 clear hPc hxl
 refine wp_region_flo (W := wr) (I := InCls wr) (inCls_ghost _) (Cls.none _) ⟨gri, trivial⟩ [0,1,2,3,4,5,7,8,9,10,11] [(6,false),(12,false),(13,true)] 14 15 [] rfl rfl Tryz.zeroValue58 rfl rfl (by kernel_rfl) (by kernel_rfl) (by kernel_rfl) ?_
 simp only [pick, List.drop_succ_cons, List.drop_zero, List.take_succ_cons, List.take_zero, List.nil_append, List.cons_append, pick, List.getElem_toArray, List.getElem_cons_succ, List.getElem_cons_zero]
 repeat (refine wpCalm_step (fun K hK => ?_); go_simp; first | (refine hK _ ?_; clear hK K) | (apply Exists.intro; refine ⟨fun _ => ?_, hK _ ?_⟩; (skip); clear hK K))
 refine wpCalm_nil ?_
 simp only [pickF, List.getElem?_cons_succ, List.getElem?_cons_zero]
 refine flo_eff rfl (fun w1 hI1 => ?_)
 refine effAt_append_acts _ _ rfl wr.heap.size (.slice none 0 0) [] rfl (OwnA.nil _ _) bA pA (xs.take i) i q (by rw [List.length_take]; have := HXL.out; omega) rfl ((HCL.out.take i).gr HBA.out hI1.1) (by rw [List.length_take]; simp; omega) hI1.1.below.size (fun v1 w2 h1 => ?_)
 refine ⟨fun B cs hB => h1.keep B cs _ hB (by decide), Cls.just wr (fun W => OwnA wr.heap.size W v1 (xs.take i)) (fun _ _ h g => h.gr g), ⟨Gr.of (hI1.1.below.trans h1.below), h1.own⟩, ?_⟩
 go_simp
 refine flo_eff rfl (fun w3 hI3 => ?_)
 refine effAt_append_acts _ _ rfl wr.heap.size v1 (xs.take i) rfl hI3.2 bA P (xs.drop (i + 1)) (n - (i + 1)) (q - (i + 1)) (by rw [List.length_drop]; have := HXL.out; omega) rfl (HPC.out.gr HBA.out hI3.1) (by simp; have := HXL.out; omega) hI3.1.below.size (fun v2 w4 h2 => ?_)
 have hg4 : Gr wr w4 := Gr.of (hI3.1.below.trans h2.below)
 obtain ⟨ys, hys⟩ : ∃ ys : List AM, xs.take i ++ xs.drop (i + 1) = ys := ⟨_, rfl⟩
 have hown := h2.own
 rw [hys] at hown
 have hlok : ∀ x ∈ ys, x.OkR w4 := fun x hx => by
  rw [← hys, List.mem_append] at hx
  exact (HOK.out x (hx.elim List.mem_of_mem_take List.mem_of_mem_drop)).gr hg4
 obtain ⟨A2, q2, rfl, hq2, _⟩ := hown.rowR hlok
 refine ⟨fun B cs hB => h2.keep B cs _ hB (by decide), Cls.just wr (fun W => OwnA wr.heap.size W (.slice A2 ys.length q2) ys) (fun _ _ h g => h.gr g), ⟨hg4, hown⟩, ?_⟩
 clear h1 h2 hI1 hI3 hown
 go_simp
 refine flo_calm (.agg #[.int .i64 m0, .int .i64 m1, .int .i64 d0, .int .i64 d1, .int .i64 g, .slice A2 ys.length q2]) rfl (fun g => by go_simp) ?_
 go_simp
 refine flo_end rfl (fun X1 w5 hI5 hX1 hl1 => ?_)
 refine effAt_store6 rfl rfl rfl hX1 ⟨Cls.just wr (fun W => BlockAt W X1 #[.int .i64 m0, .int .i64 m1, .int .i64 d0, .int .i64 d1, .int .i64 g, .slice A2 ys.length q2] 58 ∧ OwnA wr.heap.size W (.slice A2 ys.length q2) ys) (fun _ _ h g => ⟨h.1.gr g, h.2.gr g⟩), ⟨Gr.of (hI5.1.below.trans (set6_below hl1 _ _ _ _ _ _)), haveI := hX1; set6_block _ _ _ _ _ _, set6_own hI5.2 hX1 _ _ _ _ _ _⟩, ?_⟩
 refine wpCalm_nil ?_
 rintro w9 ⟨⟨g5, rfl⟩, bX1, ho1⟩
 have hless : RowA (grown wr g5) A2 (l.take i ++ l.drop (i + 1)) := by
  obtain ⟨A2', q2', he, _, hr2⟩ := ho1.rowR (fun x hx => by
   rw [← hys, List.mem_append] at hx
   exact (HOK.out x (hx.elim List.mem_of_mem_take List.mem_of_mem_drop)).gr gri)
  cases he
  rw [← hys, List.map_append, List.map_take, List.map_drop, HXS.out] at hr2
  exact hr2
 have hyl : ys.length = n - 1 := by rw [← hys, List.length_append, List.length_take, List.length_drop]; have := HXL.out; omega
 rw [hyl] at bX1 ho1 ⊢
 clear ho1 hlok hys hX1 hl1 hI5
 have HLESS := Lib.hid hless
 clear hless
 go_upto_region 11 with (first | (go_at_call 25; ((with_reducible refine (HMU.out _ gri).mono ?_); rintro _ _ ⟨rfl, g1, rfl⟩)) | (go_at_call 9; ((with_reducible refine (HK.out _ inferInstance).mono ?_); rintro _ _ ⟨rfl, g2, rfl⟩)) | (go_at_call 29; ((with_reducible refine (HTX.out _ inferInstance gri).mono ?_); rintro _ _ ⟨rfl, g3, rfl⟩)) | (go_at_call 13; ((with_reducible refine (num26_any _ _).mono ?_); rintro _ _ ⟨rfl, rfl⟩)))
 have hLn : (l.take i ++ l.drop (i + 1)).length = n - 1 := by rw [List.length_append, List.length_take, List.length_drop]; have := HC.out.len; omega
 have hmayL : ∀ a ∈ l.take i ++ l.drop (i + 1), a.may = true := fun a ha => by
  rw [List.mem_append] at ha
  exact HMAY.out a (ha.elim List.mem_of_mem_take List.mem_of_mem_drop)
 have habL : ∀ a ∈ l.take i ++ l.drop (i + 1), ABd a := fun a ha => by
  rw [List.mem_append] at ha
  exact HAB.out a (ha.elim List.mem_of_mem_take List.mem_of_mem_drop)
 have hsz1 := glueB_small m0 m1 d0 d1 g _ HMS.out hmayL habL (by rw [hLn]; omega)
 have HP1 := Lib.hid (fun V (h1 : Tb V) (h2 : Ml V) => parse_back _ m0 m1 d0 d1 g _ (n - 1) hLn (glueB_back m0 m1 d0 d1 g _ HMS.out hmayL (by rw [hLn]; omega)) hsz1 V)
 have HSZ1 := Lib.hid hsz1
 clear hmayL habL hsz1 hLn
 have hlc1 : i + 1 ≤ lc := by omega
 have hlc2 : (i : Int) + 1 ≤ (lc : Int) := by omega
 have hw5 : IntKind.i64.wrap ((i : Int) + 2) = (i : Int) + 2 := by rw [IntKind.wrap_i64]; omega
 have hw6 : (0 : Int) ≤ (i : Int) + 2 := by omega
 have hw7 : (i : Int) + 2 ≤ (n : Int) + 1 := by omega
 have hw8 : ((i : Int) + 2).toNat = i + 2 := by omega
 have hLL : (lines m0 m1 d0 d1 g l).length = n + 1 := by rw [lines_len, HC.out.len]
 obtain ⟨P2, hP2, hPc2⟩ : ∃ P, (if lc = i + 2 then some (⟨lb, 0, none⟩ : Addr) else some ⟨lb, i + 2, none⟩) = some ⟨lb, P, none⟩ ∧ CellsS wr lb P ((lines m0 m1 d0 d1 g l).drop (i + 2)) := by
  by_cases hq : lc = i + 2
  ·exact ⟨0, by rw [if_pos hq], by rw [List.drop_eq_nil_of_le (by omega)]; exact fun j x hj => by simp at hj⟩
  ·exact ⟨_, by rw [if_neg hq], by have := CLS.out.drop (i + 2); rw [Nat.zero_add] at this; exact this⟩
 have HPC2 := Lib.hid hPc2; have HLL := Lib.hid hLL
 clear hPc2 hLL
 obtain ⟨W1, hW1⟩ : ∃ W1, grown wr g5 = W1 := ⟨_, rfl⟩
 have hg1 : Gr wr W1 := by rw [← hW1]; exact gri
 refine wp_region_flo (W := grown wr g5) (I := InCls (grown wr g5)) (inCls_ghost _) (Cls.none _) ⟨gri, trivial⟩ [0,1,2,3,5,6,7,8] [(4,false),(9,false),(10,false),(11,false),(12,true),(13,true),(14,true),(15,true)] 16 17 [18,19] rfl rfl Tryz.zeroValue58 rfl rfl (by kernel_rfl) (by kernel_rfl) (by kernel_rfl) ?_
 simp only [pick, List.drop_succ_cons, List.drop_zero, List.take_succ_cons, List.take_zero, List.nil_append, List.cons_append, List.getElem_toArray, List.getElem_cons_succ, List.getElem_cons_zero]
 repeat (refine wpCalm_step (fun K hK => ?_); go_simp; first | (refine hK _ ?_; clear hK K) | (apply Exists.intro; refine ⟨fun _ => ?_, hK _ ?_⟩; (skip); clear hK K))
 refine wpCalm_nil ?_
 simp only [pickF, List.getElem?_cons_succ, List.getElem?_cons_zero]
 rw [hW1]
 refine flo_eff rfl (fun w1 hI1 => ?_)
 refine effAt_append_strs _ _ rfl W1.heap.size (.slice none 0 0) [] rfl (OwnS.nil _ _) lb 0 ((lines m0 m1 d0 d1 g l).take (i + 1)) (i + 1) lc (by rw [List.length_take]; have := HLL.out; omega) rfl ((CLS.out.take (i + 1)).gr CLB.out (hg1.trans hI1.1)) (by rw [List.length_take]; simp; omega) hI1.1.below.size (fun v1 w2 h1 => ?_)
 refine ⟨fun B cs hB => h1.keep B cs _ hB (by decide), Cls.just W1 (fun W => OwnS W1.heap.size W v1 ((lines m0 m1 d0 d1 g l).take (i + 1))) (fun _ _ h g => h.gr g), ⟨Gr.of (hI1.1.below.trans h1.below), h1.own⟩, ?_⟩
 go_simp
 refine flo_eff rfl (fun w3 hI3 => ?_)
 refine effAt_append_strs _ _ rfl W1.heap.size v1 ((lines m0 m1 d0 d1 g l).take (i + 1)) rfl hI3.2 lb P2 ((lines m0 m1 d0 d1 g l).drop (i + 2)) _ _ (by rw [List.length_drop]; have := HLL.out; omega) rfl (HPC2.out.gr CLB.out (hg1.trans hI3.1)) (by simp; have := HLL.out; omega) hI3.1.below.size (fun v2 w4 h2 => ?_)
 have hown := h2.own
 rw [lines_less] at hown
 obtain ⟨A3, q3, rfl, hq3, _⟩ := hown.form
 have hl3 : (lines m0 m1 d0 d1 g (l.take i ++ l.drop (i + 1))).length = n := by rw [lines_len, List.length_append, List.length_take, List.length_drop]; have := HC.out.len; omega
 rw [hl3] at hown hq3 ⊢
 refine ⟨fun B cs hB => h2.keep B cs _ hB (by decide), Cls.just W1 (fun W => OwnS W1.heap.size W (.slice A3 n q3) (lines m0 m1 d0 d1 g (l.take i ++ l.drop (i + 1)))) (fun _ _ h g => h.gr g), ⟨Gr.of (hI3.1.below.trans h2.below), hown⟩, ?_⟩
 clear h1 h2 hI1 hI3 hown
 go_simp
 refine flo_eff rfl (fun w6 hI6 => ?_)
 refine effAt_call 32 #[.slice A3 n q3] (by go_simp) ((glue_any A3 n q3 (lines m0 m1 d0 d1 g (l.take i ++ l.drop (i + 1))) w6 hl3 (by omega) ?hrow (by have := HSZ1.out; omega)).mono ?_)
 case hrow =>
  obtain ⟨A3', q3', he, _, hr3⟩ := hI6.2.form
  cases he
  exact hr3
 rintro _ w7 ⟨rfl, h7⟩
 refine ⟨_, rfl, KeptT.gr h7, Cls.none W1, ⟨hI6.1.trans h7, trivial⟩, ?_⟩
 clear hI6 h7
 go_simp
 refine flo_eff rfl (fun w8 hI8 => ?_)
 refine effAt_call 26 #[.string (glueB (lines m0 m1 d0 d1 g (l.take i ++ l.drop (i + 1))))] (by go_simp) ((HP1.out w8 (haveI := tb_gr (h := tbr) (hg1.trans hI8.1); inferInstance) (haveI := ml_gr (h := mlr) (hg1.trans hI8.1); inferInstance)).mono ?_)
 rintro _ w10 ⟨A9, q9, rfl, hr9, h10⟩
 refine ⟨_, rfl, KeptT.gr h10, Cls.just W1 (fun W => RP W A9 q9 (l.take i ++ l.drop (i + 1))) (fun _ _ h g => h.gr g), ⟨hI8.1.trans h10, hr9⟩, ?_⟩
 clear hI8 h10 hr9
 go_simp
 refine flo_calm (.tuple #[.agg #[.int .i64 m0, .int .i64 m1, .int .i64 d0, .int .i64 d1, .int .i64 g, .slice A9 (n - 1) q9], .int .i64 0, .int .i64 0]) rfl (fun g => by go_simp) ?_
 go_simp
 refine flo_calm (.agg #[.int .i64 m0, .int .i64 m1, .int .i64 d0, .int .i64 d1, .int .i64 g, .slice A9 (n - 1) q9]) rfl (fun g => by go_simp) ?_
 go_simp
 refine flo_calm (.int .i64 0) rfl (fun g => by go_simp) ?_
 go_simp
 refine flo_calm (.int .i64 0) rfl (fun g => by go_simp) ?_
 go_simp
 refine flo_end rfl (fun X2 w11 hI11 hX2 hl2 => ?_)
 refine effAt_store6 rfl rfl rfl hX2 ⟨Cls.just W1 (fun W => BlockAt W X2 #[.int .i64 m0, .int .i64 m1, .int .i64 d0, .int .i64 d1, .int .i64 g, .slice A9 (n - 1) q9] 58 ∧ RP W A9 q9 (l.take i ++ l.drop (i + 1))) (fun _ _ h g => ⟨h.1.gr g, h.2.gr g⟩), ⟨Gr.of (hI11.1.below.trans (set6_below hl2 _ _ _ _ _ _)), haveI := hX2; set6_block _ _ _ _ _ _, hI11.2.st6 hX2 _ _ _ _ _ _⟩, ?_⟩
 clear hI11 hX2 hl2
 repeat (refine wpCalm_step (fun K hK => ?_); go_simp; first | (refine hK _ ?_; clear hK K) | (apply Exists.intro; refine ⟨fun _ => ?_, hK _ ?_⟩; (skip); clear hK K))
 refine wpCalm_nil ?_
 rintro w12 ⟨⟨g6, rfl⟩, bX2, rp2⟩
 clear hlc1 hlc2 hw5 hw6 hw7 hw8 hP2 hq3
 subst hW1
 go_upto_region 12 with (first | (go_at_call 25; ((with_reducible refine (HMU.out _ gri).mono ?_); rintro _ _ ⟨rfl, g1, rfl⟩)) | (go_at_call 9; ((with_reducible refine (HK.out _ inferInstance).mono ?_); rintro _ _ ⟨rfl, g2, rfl⟩)) | (go_at_call 29; ((with_reducible refine (HTX.out _ inferInstance gri).mono ?_); rintro _ _ ⟨rfl, g3, rfl⟩)) | (go_at_call 13; ((with_reducible refine (num26_any _ _).mono ?_); rintro _ _ ⟨rfl, rfl⟩)))
 refine wp_named (fun W => BlockAt W w.heap.size #[.int .i64 m0, .int .i64 m1, .int .i64 d0, .int .i64 d1, .int .i64 g, .slice (some ⟨bA, pA, none⟩) n q] 58 ∧ BlockAt W (w.heap.size + 1) #[.int .i64 o0, .int .i64 o1, .int .i64 p0, .int .i64 p1, .int .i64 og] 55 ∧ Gr w W ∧ Gr wr W ∧ Tb W ∧ Ml W ∧ BlockAt W X1 #[.int .i64 m0, .int .i64 m1, .int .i64 d0, .int .i64 d1, .int .i64 g, .slice A2 (n - 1) q2] 58 ∧ RowA W A2 (l.take i ++ l.drop (i + 1)) ∧ BlockAt W X2 #[.int .i64 m0, .int .i64 m1, .int .i64 d0, .int .i64 d1, .int .i64 g, .slice A9 (n - 1) q9] 58 ∧ RowA W A9 (l.take i ++ l.drop (i + 1))) ⟨inferInstance, inferInstance, gr.trans gri, gri, inferInstance, inferInstance, inferInstance, HLESS.out.gr gri, bX2, rp2.row⟩ ?_
 clear bX2 rp2 HLESS bX1 hg1
 rintro W2 ⟨c58, c55, hw2, hwr2, tb2, ml2, bX1, ro1, bX2, ro2⟩
 have RO1 := Lib.hid ro1; have RO2 := Lib.hid ro2
 clear ro1 ro2
 haveI := c58; haveI := c55; haveI := tb2; haveI := ml2; haveI := bX1; haveI := bX2
 haveI : Old w.heap.size W2 := c58.old
 haveI : Old (w.heap.size + 1) W2 := c55.old
 have yx0 : W2.cell? ⟨w.heap.size, 0, none⟩ = some (.int .i64 m0) := (@block_cells _ _ 0 _ _ c58).trans rfl
 have yx1 : W2.cell? ⟨w.heap.size, 1, none⟩ = some (.int .i64 m1) := (@block_cells _ _ 1 _ _ c58).trans rfl
 have yx2 : W2.cell? ⟨w.heap.size, 2, none⟩ = some (.int .i64 d0) := (@block_cells _ _ 2 _ _ c58).trans rfl
 have yx3 : W2.cell? ⟨w.heap.size, 3, none⟩ = some (.int .i64 d1) := (@block_cells _ _ 3 _ _ c58).trans rfl
 have yx4 : W2.cell? ⟨w.heap.size, 4, none⟩ = some (.int .i64 g) := (@block_cells _ _ 4 _ _ c58).trans rfl
 have yx5 : W2.cell? ⟨w.heap.size, 5, none⟩ = some (.slice (some ⟨bA, pA, none⟩) n q) := (@block_cells _ _ 5 _ _ c58).trans rfl
 refine wp_region_flo (W := W2) (I := InCls W2) (inCls_ghost _) (Cls.none _) ⟨gri, trivial⟩ [0,1,2,3] [(4,false),(5,true)] 6 7 [] rfl rfl Tryz.zeroValue58 rfl rfl (by kernel_rfl) (by kernel_rfl) (by kernel_rfl) ?_
 simp only [pick, List.drop_succ_cons, List.drop_zero, List.take_succ_cons, List.take_zero, List.nil_append, List.cons_append, pick, List.getElem_toArray, List.getElem_cons_succ, List.getElem_cons_zero]
 repeat (refine wpCalm_step (fun K hK => ?_); go_simp; first | (refine hK _ ?_; clear hK K) | (apply Exists.intro; refine ⟨fun _ => ?_, hK _ ?_⟩; (skip); clear hK K))
 refine wpCalm_nil ?_
 simp only [pickF, List.getElem?_cons_succ, List.getElem?_cons_zero]
 refine flo_eff rfl (fun w1 hI1 => ?_)
 refine effAt_append_acts _ _ rfl W2.heap.size (.slice none 0 0) [] rfl (OwnA.nil _ _) bA pA xs n q HXL.out rfl (HCL.out.gr HBA.out (hwr2.trans hI1.1)) (by simp; have := HXL.out; omega) hI1.1.below.size (fun v1 w2 h1 => ?_)
 have hg2 : Gr W2 w2 := Gr.of (hI1.1.below.trans h1.below)
 have hown := h1.own
 rw [List.nil_append] at hown
 obtain ⟨A3, q3, rfl, hq3, _⟩ := hown.rowR (fun x hx => (HOK.out x hx).gr (hwr2.trans hg2))
 refine ⟨fun B cs hB => h1.keep B cs _ hB (by decide), Cls.just W2 (fun W => OwnA W2.heap.size W (.slice A3 xs.length q3) xs) (fun _ _ h g => h.gr g), ⟨hg2, hown⟩, ?_⟩
 clear h1 hI1 hown hg2
 go_simp
 refine flo_calm (.agg #[.int .i64 m0, .int .i64 m1, .int .i64 d0, .int .i64 d1, .int .i64 g, .slice A3 xs.length q3]) rfl (fun g => by go_simp) ?_
 go_simp
 refine flo_end rfl (fun X3 w3 hI3 hX3 hl3 => ?_)
 refine effAt_store6 rfl rfl rfl hX3 ⟨Cls.just W2 (fun W => BlockAt W X3 #[.int .i64 m0, .int .i64 m1, .int .i64 d0, .int .i64 d1, .int .i64 g, .slice A3 xs.length q3] 58 ∧ OwnA W2.heap.size W (.slice A3 xs.length q3) xs) (fun _ _ h g => ⟨h.1.gr g, h.2.gr g⟩), ⟨Gr.of (hI3.1.below.trans (set6_below hl3 _ _ _ _ _ _)), haveI := hX3; set6_block _ _ _ _ _ _, set6_own hI3.2 hX3 _ _ _ _ _ _⟩, ?_⟩
 clear hI3 hX3 hl3
 refine wpCalm_nil ?_
 rintro w4 ⟨⟨g7, rfl⟩, bX3, ho3⟩
 obtain ⟨g0, k3, e3, hgb, hgl, hk3, hcl3, hfz⟩ := ho3.cells (by rintro rfl; have := HXL.out; simp at this; omega)
 cases e3
 rw [HXL.out] at bX3 ho3 hk3
 go_upto_region 13 with (first | (go_at_call 25; ((with_reducible refine (HMU.out _ gri).mono ?_); rintro _ _ ⟨rfl, g1, rfl⟩)) | (go_at_call 9; ((with_reducible refine (HK.out _ inferInstance).mono ?_); rintro _ _ ⟨rfl, g2, rfl⟩)) | (go_at_call 29; ((with_reducible refine (HTX.out _ inferInstance gri).mono ?_); rintro _ _ ⟨rfl, g3, rfl⟩)) | (go_at_call 13; ((with_reducible refine (num26_any _ _).mono ?_); rintro _ _ ⟨rfl, rfl⟩)))
 simp only [ptrAt]
 go_simp
 obtain ⟨y, hy⟩ : ∃ y, xs[k]? = some y := ⟨_, List.getElem?_eq_getElem (by have := HXL.out; omega)⟩
 obtain ⟨x, hx⟩ : ∃ x, xs[i]? = some x := ⟨_, List.getElem?_eq_getElem (by have := HXL.out; omega)⟩
 obtain ⟨c0, c1, c2, c3, c4, c5, c6, c7, c8, c9, c10, c11, hcy⟩ := AM.cs12 y
 obtain ⟨e0, e1, e2, e3, e4, e5, e6, e7, e8, e9, e10, e11, hcx⟩ := AM.cs12 x
 have hcA := HCL.out.gr HBA.out hwr2
 have kc0 : W2.cell? ⟨bA, pA + k * 12, none⟩ = some c0 := hcA k y hy 0 c0 (by rw [hcy]; rfl)
 have kc1 : W2.cell? ⟨bA, pA + k * 12 + 1, none⟩ = some c1 := hcA k y hy 1 c1 (by rw [hcy]; rfl)
 have kc2 : W2.cell? ⟨bA, pA + k * 12 + 2, none⟩ = some c2 := hcA k y hy 2 c2 (by rw [hcy]; rfl)
 have kc3 : W2.cell? ⟨bA, pA + k * 12 + 3, none⟩ = some c3 := hcA k y hy 3 c3 (by rw [hcy]; rfl)
 have kc4 : W2.cell? ⟨bA, pA + k * 12 + 4, none⟩ = some c4 := hcA k y hy 4 c4 (by rw [hcy]; rfl)
 have kc5 : W2.cell? ⟨bA, pA + k * 12 + 5, none⟩ = some c5 := hcA k y hy 5 c5 (by rw [hcy]; rfl)
 have kc6 : W2.cell? ⟨bA, pA + k * 12 + 6, none⟩ = some c6 := hcA k y hy 6 c6 (by rw [hcy]; rfl)
 have kc7 : W2.cell? ⟨bA, pA + k * 12 + 7, none⟩ = some c7 := hcA k y hy 7 c7 (by rw [hcy]; rfl)
 have kc8 : W2.cell? ⟨bA, pA + k * 12 + 8, none⟩ = some c8 := hcA k y hy 8 c8 (by rw [hcy]; rfl)
 have kc9 : W2.cell? ⟨bA, pA + k * 12 + 9, none⟩ = some c9 := hcA k y hy 9 c9 (by rw [hcy]; rfl)
 have kc10 : W2.cell? ⟨bA, pA + k * 12 + 10, none⟩ = some c10 := hcA k y hy 10 c10 (by rw [hcy]; rfl)
 have kc11 : W2.cell? ⟨bA, pA + k * 12 + 11, none⟩ = some c11 := hcA k y hy 11 c11 (by rw [hcy]; rfl)
 have ic0 : W2.cell? ⟨bA, pA + i * 12, none⟩ = some e0 := hcA i x hx 0 e0 (by rw [hcx]; rfl)
 have ic1 : W2.cell? ⟨bA, pA + i * 12 + 1, none⟩ = some e1 := hcA i x hx 1 e1 (by rw [hcx]; rfl)
 have ic2 : W2.cell? ⟨bA, pA + i * 12 + 2, none⟩ = some e2 := hcA i x hx 2 e2 (by rw [hcx]; rfl)
 have ic3 : W2.cell? ⟨bA, pA + i * 12 + 3, none⟩ = some e3 := hcA i x hx 3 e3 (by rw [hcx]; rfl)
 have ic4 : W2.cell? ⟨bA, pA + i * 12 + 4, none⟩ = some e4 := hcA i x hx 4 e4 (by rw [hcx]; rfl)
 have ic5 : W2.cell? ⟨bA, pA + i * 12 + 5, none⟩ = some e5 := hcA i x hx 5 e5 (by rw [hcx]; rfl)
 have ic6 : W2.cell? ⟨bA, pA + i * 12 + 6, none⟩ = some e6 := hcA i x hx 6 e6 (by rw [hcx]; rfl)
 have ic7 : W2.cell? ⟨bA, pA + i * 12 + 7, none⟩ = some e7 := hcA i x hx 7 e7 (by rw [hcx]; rfl)
 have ic8 : W2.cell? ⟨bA, pA + i * 12 + 8, none⟩ = some e8 := hcA i x hx 8 e8 (by rw [hcx]; rfl)
 have ic9 : W2.cell? ⟨bA, pA + i * 12 + 9, none⟩ = some e9 := hcA i x hx 9 e9 (by rw [hcx]; rfl)
 have ic10 : W2.cell? ⟨bA, pA + i * 12 + 10, none⟩ = some e10 := hcA i x hx 10 e10 (by rw [hcx]; rfl)
 have ic11 : W2.cell? ⟨bA, pA + i * 12 + 11, none⟩ = some e11 := hcA i x hx 11 e11 (by rw [hcx]; rfl)
 haveI : Old bA W2 := ⟨Nat.lt_of_lt_of_le HBA.out hwr2.below.size⟩
 have hin' : (i : Int) < (n : Int) := by omega
 have hkn' : (k : Int) < (n : Int) := by omega
 have hxk : k < xs.length := by have := HXL.out; omega
 have hxi : i < xs.length := by have := HXL.out; omega
 have HY := Lib.hid hy; have HX := Lib.hid hx; have HCY := Lib.hid hcy; have HCX := Lib.hid hcx; have HXK := Lib.hid hxk; have HXI := Lib.hid hxi
 clear hy hx hcy hcx hcA hxk hxi
 refine wp_region_flt (W := W2) (I := InX W2 X3 #[.int .i64 m0, .int .i64 m1, .int .i64 d0, .int .i64 d1, .int .i64 g, .slice (some ⟨g0, 0, none⟩) n q3] 58) (inX_ghost _ _ _ _) (actsAt W2 g0 xs) ⟨gri, inferInstance, ho3.ofT.gr gri, hcl3.gr hgl gri⟩ [0,2,3,5,6,7,8,9,10,11,12,13,14,15] [1,16,17,18,19] 4 (.slice (some ⟨g0, 0, none⟩) n q3) rfl rfl rfl (by kernel_rfl) (by kernel_rfl) ?_
 simp only [pick, List.drop_succ_cons, List.drop_zero, List.take_succ_cons, List.take_zero, List.nil_append, List.cons_append, pick, List.getElem_toArray, List.getElem_cons_succ, List.getElem_cons_zero]
 repeat (refine wpCalm_step (fun K hK => ?_); go_simp; first | (refine hK _ ?_; clear hK K) | (apply Exists.intro; refine ⟨fun _ => ?_, hK _ ?_⟩; (skip); clear hK K))
 refine wpCalm_nil ?_
 clear ho3 hcl3 hfz hk3 bX3
 refine ⟨fun s2 w2 hI => ?_, ?_⟩
 ·have x5 : w2.cell? ⟨X3, 5, none⟩ = some (.slice (some ⟨g0, 0, none⟩) n q3) := (@block_cells _ _ 5 _ _ hI.2.1).trans rfl
  exact effAt_val _ (by go_simp) ⟨rfl, rfl⟩
 go_simp
 refine wpEfs_eff rfl (fun w2 hI => effAt_val (.slice (some ⟨g0, 0, none⟩) n q3) (by
  have x5 : w2.cell? ⟨X3, 5, none⟩ = some (.slice (some ⟨g0, 0, none⟩) n q3) := (@block_cells _ _ 5 _ _ hI.2.1).trans rfl
  go_simp) ⟨_, hI, ?_⟩)
 go_simp
 refine wpEfs_eff rfl (fun w2 hI => effAt_val (.pointer (some ⟨g0, i * 12, none⟩)) (by go_simp) ⟨_, hI, ?_⟩)
 go_simp
 refine wpEfs_eff rfl (fun w2 hI => effAt_putA rfl (by decide) hgb hI i y HXI.out (by go_simp) (by rw [HCY.out]; go_simp) (fun w' hI' => ⟨_, hI', ?_⟩))
 go_simp
 refine wpEfs_eff rfl (fun w2 hI => effAt_val (.pointer (some ⟨g0, k * 12, none⟩)) (by go_simp) ⟨_, hI, ?_⟩)
 go_simp
 refine wpEfs_eff rfl (fun w2 hI => effAt_putA rfl (by decide) hgb hI k x (by rw [List.length_set]; exact HXK.out) (by go_simp) (by rw [HCX.out]; go_simp) (fun w' hI' => ⟨_, hI', ?_⟩))
 go_simp
 refine wpEfs_nil ?_
 rintro w5 ⟨hg5, bX3, ho5, hc5⟩
 obtain ⟨lt, hlt⟩ : ∃ lt : List ActV, (l.set i y.a).set k x.a = lt := ⟨_, rfl⟩
 have hrt : RowA w5 (some ⟨g0, 0, none⟩) lt := by
  have h1 := cellsA_row ho5.lt hc5 (fun z hz => by
   have hz2 : z ∈ xs := by
    rcases List.mem_or_eq_of_mem_set hz with h | rfl
    ·rcases List.mem_or_eq_of_mem_set h with h | rfl
     ·exact h
     ·exact List.mem_of_getElem? HY.out
    ·exact List.mem_of_getElem? HX.out
   exact (HOK.out z hz2).gr (hwr2.trans hg5))
  rw [List.map_set, List.map_set, HXS.out, hlt] at h1
  exact h1
 have hltl : lt.length = n := by rw [← hlt, List.length_set, List.length_set]; exact HC.out.len
 have hyl : l[k]? = some y.a := by rw [← HXS.out, List.getElem?_map, HY.out]; rfl
 have hxl : l[i]? = some x.a := by rw [← HXS.out, List.getElem?_map, HX.out]; rfl
 have hltm : ∀ z ∈ lt, z ∈ l := fun z hz => by
  rw [← hlt] at hz
  rcases List.mem_or_eq_of_mem_set hz with h | rfl
  ·rcases List.mem_or_eq_of_mem_set h with h | rfl
   ·exact h
   ·exact List.mem_of_getElem? hyl
  ·exact List.mem_of_getElem? hxl
 have hsw := lines_swap m0 m1 d0 d1 g l i k x.a y.a
 rw [hlt] at hsw
 have hsz2 := glueB_small m0 m1 d0 d1 g lt HMS.out (fun a ha => HMAY.out a (hltm a ha)) (fun a ha => HAB.out a (hltm a ha)) (by omega)
 have HP2 := Lib.hid (fun V (h1 : Tb V) (h2 : Ml V) => parse_back _ m0 m1 d0 d1 g lt n hltl (glueB_back m0 m1 d0 d1 g lt HMS.out (fun a ha => HMAY.out a (hltm a ha)) (by omega)) hsz2 V)
 have HSZ2 := Lib.hid hsz2; have HRT := Lib.hid hrt; have HLT := Lib.hid hltl; have HSW := Lib.hid hsw; have HYL := Lib.hid hyl; have HXL2 := Lib.hid hxl
 clear hsz2 hrt hltl hsw hyl hxl hltm hlt HX HY HCX HCY HXK HXI kc0 kc1 kc2 kc3 kc4 kc5 kc6 kc7 kc8 kc9 kc10 kc11 ic0 ic1 ic2 ic3 ic4 ic5 ic6 ic7 ic8 ic9 ic10 ic11
 haveI : BlockAt w5 w.heap.size #[.int .i64 m0, .int .i64 m1, .int .i64 d0, .int .i64 d1, .int .i64 g, .slice (some ⟨bA, pA, none⟩) n q] 58 := c58.gr hg5
 haveI : BlockAt w5 (w.heap.size + 1) #[.int .i64 o0, .int .i64 o1, .int .i64 p0, .int .i64 p1, .int .i64 og] 55 := c55.gr hg5
 haveI : Tb w5 := tb_gr hg5
 haveI : Ml w5 := ml_gr hg5
 haveI : BlockAt w5 X1 #[.int .i64 m0, .int .i64 m1, .int .i64 d0, .int .i64 d1, .int .i64 g, .slice A2 (n - 1) q2] 58 := bX1.gr hg5
 haveI : BlockAt w5 X2 #[.int .i64 m0, .int .i64 m1, .int .i64 d0, .int .i64 d1, .int .i64 g, .slice A9 (n - 1) q9] 58 := bX2.gr hg5
 haveI := bX3
 have hw5 : Gr wr w5 := hwr2.trans hg5
 have CL5 := Lib.hid (CLS.out.gr CLB.out hw5)
 have CB5 := Lib.hid (Nat.lt_of_lt_of_le CLB.out hw5.below.size)
 have RO15 := Lib.hid (RO1.out.gr hg5); have RO25 := Lib.hid (RO2.out.gr hg5)
 have RA5 := Lib.hid (HC.out.row.gr (gr.trans hw5))
 clear RO1 RO2 ho5 hc5
 have hLL := HLL.out
 go_upto_region 15 with (at_builtin; refine wp_append_strsP rfl _ _ rfl w5.heap.size (.slice none 0 0) [] rfl (OwnS.nil _ _) lb 0 (lines m0 m1 d0 d1 g l) (n + 1) lc hLL rfl CL5.out (by rw [hLL]; simp; omega) (Nat.le_refl _) ?_)
 intro v6 w6 h6
 obtain ⟨gS, qS, rfl, hgS, hgSl, hqS, hcS, hfS⟩ := h6.own.cells (by rintro h; have := HLL.out; rw [List.nil_append] at h; rw [h] at this; simp at this)
 have hoS := h6.own.ofT
 rw [List.nil_append] at hcS
 rw [List.nil_append, hLL] at hqS ⊢
 have hg6 : Gr w5 w6 := Gr.of h6.below
 clear h6 hfS
 go_upto_region 15 with (first | (go_at_call 25; ((with_reducible refine (HMU.out _ gri).mono ?_); rintro _ _ ⟨rfl, g1, rfl⟩)) | (go_at_call 9; ((with_reducible refine (HK.out _ inferInstance).mono ?_); rintro _ _ ⟨rfl, g2, rfl⟩)) | (go_at_call 29; ((with_reducible refine (HTX.out _ inferInstance gri).mono ?_); rintro _ _ ⟨rfl, g3, rfl⟩)) | (go_at_call 13; ((with_reducible refine (num26_any _ _).mono ?_); rintro _ _ ⟨rfl, rfl⟩)))
 have lk := CL5.out (k + 1) _ (lines_at m0 m1 d0 d1 g l k y.a HYL.out)
 have li := CL5.out (i + 1) _ (lines_at m0 m1 d0 d1 g l i x.a HXL2.out)
 rw [Nat.zero_add] at lk li
 haveI : Old lb w5 := ⟨CB5.out⟩
 have hv1 : IntKind.i64.wrap ((k : Int) + 1) = (k : Int) + 1 := by rw [IntKind.wrap_i64]; omega
 have hv2 : (0 : Int) ≤ (k : Int) + 1 := by omega
 have hv3 : (k : Int) + 1 < (n : Int) + 1 := by omega
 have hv4 : ((k : Int) + 1).toNat = k + 1 := by omega
 have hv5 : (i : Int) + 1 < (n : Int) + 1 := by omega
 have hii : i + 1 < (lines m0 m1 d0 d1 g l).length := by have := HLL.out; omega
 have hkk1 : k + 1 < ((lines m0 m1 d0 d1 g l).set (i + 1) (lineB y.a.text)).length := by rw [List.length_set]; have := HLL.out; omega
 have HII := Lib.hid hii; have HKK1 := Lib.hid hkk1
 clear hii hkk1 hLL
 haveI : BlockAt w6 X3 #[.int .i64 m0, .int .i64 m1, .int .i64 d0, .int .i64 d1, .int .i64 g, .slice (some ⟨g0, 0, none⟩) n q3] 58 := bX3.gr hg6
 refine wp_region_eff (W := w5) (I := InX w5 X3 #[.int .i64 m0, .int .i64 m1, .int .i64 d0, .int .i64 d1, .int .i64 g, .slice (some ⟨g0, 0, none⟩) n q3] 58) (inX_ghost _ _ _ _) (strsAt w5 gS (lines m0 m1 d0 d1 g l)) ⟨hg6.trans gri, inferInstance, hoS.gr gri, hcS.gr hgSl gri⟩ [0,1,2,3,4,5,6,7,8,9,10,11,12,13,14,15,16] [17,18,19] (by kernel_rfl) (by kernel_rfl) ?_
 simp only [pick, List.drop_succ_cons, List.drop_zero, List.take_succ_cons, List.take_zero, List.nil_append, List.cons_append, pick, List.getElem_toArray, List.getElem_cons_succ, List.getElem_cons_zero]
 repeat (refine wpCalm_step (fun K hK => ?_); go_simp; first | (refine hK _ ?_; clear hK K) | (apply Exists.intro; refine ⟨fun _ => ?_, hK _ ?_⟩; (skip); clear hK K))
 refine wpCalm_nil ?_
 clear hoS hcS
 go_simp
 refine wpEfs_eff rfl (fun w2 hI => effAt_putS rfl (by decide) hgS hI (i + 1) (lineB y.a.text) HII.out (by go_simp) (by go_simp) (fun w' hI' => ⟨_, hI', ?_⟩))
 go_simp
 refine wpEfs_eff rfl (fun w2 hI => effAt_val (.pointer (some ⟨gS, k + 1, none⟩)) (by go_simp) ⟨_, hI, ?_⟩)
 go_simp
 refine wpEfs_eff rfl (fun w2 hI => effAt_putS rfl (by decide) hgS hI (k + 1) (lineB x.a.text) HKK1.out (by go_simp) (by go_simp) (fun w' hI' => ⟨_, hI', ?_⟩))
 go_simp
 refine wpEfs_nil ?_
 rintro w7 ⟨hg7, _, hoT, hcT⟩
 rw [HSW.out] at hcT
 have hrS := hcT.row hoT.lt
 have HG2 := Lib.hid (fun W (hW : Gr w7 W) => glue_any (some ⟨gS, 0, none⟩) (n + 1) qS (lines m0 m1 d0 d1 g lt) W (by rw [lines_len, HLT.out]) (by omega) (hrS.gr hW) (by have := HSZ2.out; omega))
 clear hrS hcT hoT lk li
 haveI : BlockAt w7 w.heap.size #[.int .i64 m0, .int .i64 m1, .int .i64 d0, .int .i64 d1, .int .i64 g, .slice (some ⟨bA, pA, none⟩) n q] 58 := BlockAt.gr inferInstance hg7
 haveI : BlockAt w7 (w.heap.size + 1) #[.int .i64 o0, .int .i64 o1, .int .i64 p0, .int .i64 p1, .int .i64 og] 55 := BlockAt.gr inferInstance hg7
 haveI : Tb w7 := tb_gr hg7
 haveI : Ml w7 := ml_gr hg7
 haveI : BlockAt w7 X1 #[.int .i64 m0, .int .i64 m1, .int .i64 d0, .int .i64 d1, .int .i64 g, .slice A2 (n - 1) q2] 58 := BlockAt.gr inferInstance hg7
 haveI : BlockAt w7 X2 #[.int .i64 m0, .int .i64 m1, .int .i64 d0, .int .i64 d1, .int .i64 g, .slice A9 (n - 1) q9] 58 := BlockAt.gr inferInstance hg7
 haveI : BlockAt w7 X3 #[.int .i64 m0, .int .i64 m1, .int .i64 d0, .int .i64 d1, .int .i64 g, .slice (some ⟨g0, 0, none⟩) n q3] 58 := BlockAt.gr bX3 hg7
 have RO17 := Lib.hid (RO15.out.gr hg7); have RO27 := Lib.hid (RO25.out.gr hg7); have RT7 := Lib.hid (HRT.out.gr hg7)
 have RA7 := Lib.hid (RA5.out.gr hg7)
 have CL7 := Lib.hid (CL5.out.gr CB5.out hg7)
 have CB7 := Lib.hid (Nat.lt_of_lt_of_le CB5.out hg7.below.size)
 clear RO15 RO25 HRT RA5 CL5
 go_upto_region 17 with (first | (go_at_call 32; ((with_reducible refine (HG2.out _ gri).mono ?_); rintro _ _ ⟨rfl, g20, rfl⟩)) | (go_at_call 26; ((with_reducible refine (HP2.out _ inferInstance inferInstance).mono ?_); rintro _ _ ⟨A10, q10, rfl, hr10, g21, rfl⟩; have HR10 := Lib.hid hr10.row; clear hr10)))
 have hw7 : Gr w w7 := gr.trans (hw5.trans hg7)
 obtain ⟨T, hT⟩ : ∃ T, glueB (l.map fun a => lineB a.text) = T := ⟨_, rfl⟩
 have hTs := tail_small m0 m1 d0 d1 g l HMS.out HMAY.out HAB.out (by have := HC.out.len; omega)
 obtain ⟨hTat, hTe⟩ := tail_bad l (by rintro rfl; have := HC.out.len; simp at this; omega)
 have hTc := CL7.out.drop 1
 rw [lines_tail, Nat.zero_add] at hTc
 have HTC := Lib.hid hTc
 have HG3 := Lib.hid (fun c W (hW : Gr w7 W) => glue_any (some ⟨lb, 1, none⟩) n c (l.map fun a => lineB a.text) W (by rw [List.length_map]; exact HC.out.len) (by omega) ((HTC.out.row CB7.out).gr hW) (by omega))
 rw [hT] at HG3 hTs hTat hTe
 have HP3 := Lib.hid (fun V (h1 : Tb V) (h2 : Ml V) => (show Calls Tryz.prog 26 #[.string T] V (fun e w' => ∃ z1 z2 z3 z4 z5 A6 n6 q6, e = .returned (.tuple #[.agg #[.int .i64 z1, .int .i64 z2, .int .i64 z3, .int .i64 z4, .int .i64 z5, .slice A6 n6 q6], .int .i64 0, .int .i64 4]) ∧ Gr V w') from by
  refine (parse_own T hTs V).mono ?_
  rintro e w' ⟨A9, q9, rfl, _, _, hg⟩
  rw [hTat, hTe]
  exact ⟨_, _, _, _, _, _, _, _, rfl, hg⟩))
 have HS1 := Lib.hid (fun W (hW : Gr w7 W) => (show Calls Tryz.prog 28 #[.agg #[.int .i64 m0, .int .i64 m1, .int .i64 d0, .int .i64 d1, .int .i64 g, .slice A9 (n - 1) q9], .agg #[.int .i64 m0, .int .i64 m1, .int .i64 d0, .int .i64 d1, .int .i64 g, .slice A2 (n - 1) q2]] W (fun e w' => e = .returned (.bool true) ∧ Gr W w') from by
  have hl9 : (l.take i ++ l.drop (i + 1)).length = n - 1 := by rw [List.length_append, List.length_take, List.length_drop]; have := HC.out.len; omega
  have h := same26S_any m0 m1 d0 d1 g m0 m1 d0 d1 g A9 A2 (n - 1) q9 (n - 1) q2 (l.take i ++ l.drop (i + 1)) (l.take i ++ l.drop (i + 1)) W hl9 hl9 (by omega) (by omega) (RO27.out.gr hW) (RO17.out.gr hW)
  rw [st5_refl, sameL_refl, Bool.and_self] at h
  exact h))
 have HS2 := Lib.hid (fun A' q' W (hr : RowA W A' lt) (hW : Gr w7 W) => (show Calls Tryz.prog 28 #[.agg #[.int .i64 m0, .int .i64 m1, .int .i64 d0, .int .i64 d1, .int .i64 g, .slice A' n q'], .agg #[.int .i64 m0, .int .i64 m1, .int .i64 d0, .int .i64 d1, .int .i64 g, .slice (some ⟨g0, 0, none⟩) n q3]] W (fun e w' => e = .returned (.bool true) ∧ Gr W w') from by
  have h := same26S_any m0 m1 d0 d1 g m0 m1 d0 d1 g A' (some ⟨g0, 0, none⟩) n q' n q3 lt lt W HLT.out HLT.out (by omega) (by omega) hr (RT7.out.gr hW)
  rw [st5_refl, sameL_refl, Bool.and_self] at h
  exact h))
 have hlc9 : ¬ lc = 1 := by omega
 have hlc8 : (1 : Int) ≤ (lc : Int) := by omega
 have hn8 : (1 : Int) ≤ (n : Int) + 1 := by omega
 clear hT hTs hTat hTe hTc hw5
 go_upto_region 18 with (first | (go_at_call 25; ((with_reducible refine (HMU.out _ gri).mono ?_); rintro _ _ ⟨rfl, g1, rfl⟩)) | (go_at_call 9; ((with_reducible refine (HK.out _ inferInstance).mono ?_); rintro _ _ ⟨rfl, g2, rfl⟩)) | (go_at_call 29; ((with_reducible refine (HTX.out _ inferInstance gri).mono ?_); rintro _ _ ⟨rfl, g3, rfl⟩)) | (go_at_call 13; ((with_reducible refine (num26_any _ _).mono ?_); rintro _ _ ⟨rfl, rfl⟩)) | (go_at_call 32; ((with_reducible refine (HG3.out _ _ gri).mono ?_); rintro _ _ ⟨rfl, g22, rfl⟩)) | (go_at_call 26; ((with_reducible refine (HP3.out _ inferInstance inferInstance).mono ?_); rintro _ _ ⟨z1, z2, z3, z4, z5, A6, n6, q6, rfl, g23, rfl⟩)))
 refine wp_named (fun W => BlockAt W w.heap.size #[.int .i64 m0, .int .i64 m1, .int .i64 d0, .int .i64 d1, .int .i64 g, .slice (some ⟨bA, pA, none⟩) n q] 58 ∧ BlockAt W (w.heap.size + 1) #[.int .i64 o0, .int .i64 o1, .int .i64 p0, .int .i64 p1, .int .i64 og] 55 ∧ Gr w7 W ∧ Tb W ∧ Ml W ∧ BlockAt W X1 #[.int .i64 m0, .int .i64 m1, .int .i64 d0, .int .i64 d1, .int .i64 g, .slice A2 (n - 1) q2] 58 ∧ BlockAt W X2 #[.int .i64 m0, .int .i64 m1, .int .i64 d0, .int .i64 d1, .int .i64 g, .slice A9 (n - 1) q9] 58 ∧ BlockAt W X3 #[.int .i64 m0, .int .i64 m1, .int .i64 d0, .int .i64 d1, .int .i64 g, .slice (some ⟨g0, 0, none⟩) n q3] 58 ∧ BlockAt W (grown (grown w7 g20) g21).heap.size #[.int .i64 m0, .int .i64 m1, .int .i64 d0, .int .i64 d1, .int .i64 g, .slice A10 n q10] 58 ∧ RowA W A10 lt) ⟨inferInstance, inferInstance, gri, inferInstance, inferInstance, inferInstance, inferInstance, inferInstance, inferInstance, HR10.out.gr gri⟩ ?_
 clear HR10
 generalize (grown (grown w7 g20) g21).heap.size = X4
 rintro w8 ⟨d58, d55, hg8, tb8, ml8, b1, b2, b3, b4, hr10⟩
 haveI := d58; haveI := d55; haveI := tb8; haveI := ml8
 have HR10 := Lib.hid (hr10)
 clear hr10
 have hw8 : Gr w w8 := hw7.trans hg8
 haveI : Old (w.heap.size + 1) w8 := d55.old
 have s0 : w8.cell? ⟨w.heap.size + 1, 0, none⟩ = some (.int .i64 o0) := (@block_cells _ _ 0 _ _ d55).trans rfl
 have s1 : w8.cell? ⟨w.heap.size + 1, 1, none⟩ = some (.int .i64 o1) := (@block_cells _ _ 1 _ _ d55).trans rfl
 have s2 : w8.cell? ⟨w.heap.size + 1, 2, none⟩ = some (.int .i64 p0) := (@block_cells _ _ 2 _ _ d55).trans rfl
 have s3 : w8.cell? ⟨w.heap.size + 1, 3, none⟩ = some (.int .i64 p1) := (@block_cells _ _ 3 _ _ d55).trans rfl
 have s4 : w8.cell? ⟨w.heap.size + 1, 4, none⟩ = some (.int .i64 og) := (@block_cells _ _ 4 _ _ d55).trans rfl
 haveI : Old w.heap.size w8 := d58.old
 have f5 : w8.cell? ⟨w.heap.size, 5, none⟩ = some (.slice (some ⟨bA, pA, none⟩) n q) := (@block_cells _ _ 5 _ _ d58).trans rfl
 have ca0 : w8.cell? ⟨X1, 0, none⟩ = some (.int .i64 m0) := (@block_cells _ _ 0 _ _ b1).trans rfl
 have ca1 : w8.cell? ⟨X1, 1, none⟩ = some (.int .i64 m1) := (@block_cells _ _ 1 _ _ b1).trans rfl
 have ca2 : w8.cell? ⟨X1, 2, none⟩ = some (.int .i64 d0) := (@block_cells _ _ 2 _ _ b1).trans rfl
 have ca3 : w8.cell? ⟨X1, 3, none⟩ = some (.int .i64 d1) := (@block_cells _ _ 3 _ _ b1).trans rfl
 have ca4 : w8.cell? ⟨X1, 4, none⟩ = some (.int .i64 g) := (@block_cells _ _ 4 _ _ b1).trans rfl
 have ca5 : w8.cell? ⟨X1, 5, none⟩ = some (.slice A2 (n - 1) q2) := (@block_cells _ _ 5 _ _ b1).trans rfl
 haveI : Old X1 w8 := b1.old
 have cb0 : w8.cell? ⟨X2, 0, none⟩ = some (.int .i64 m0) := (@block_cells _ _ 0 _ _ b2).trans rfl
 have cb1 : w8.cell? ⟨X2, 1, none⟩ = some (.int .i64 m1) := (@block_cells _ _ 1 _ _ b2).trans rfl
 have cb2 : w8.cell? ⟨X2, 2, none⟩ = some (.int .i64 d0) := (@block_cells _ _ 2 _ _ b2).trans rfl
 have cb3 : w8.cell? ⟨X2, 3, none⟩ = some (.int .i64 d1) := (@block_cells _ _ 3 _ _ b2).trans rfl
 have cb4 : w8.cell? ⟨X2, 4, none⟩ = some (.int .i64 g) := (@block_cells _ _ 4 _ _ b2).trans rfl
 have cb5 : w8.cell? ⟨X2, 5, none⟩ = some (.slice A9 (n - 1) q9) := (@block_cells _ _ 5 _ _ b2).trans rfl
 haveI : Old X2 w8 := b2.old
 have cc0 : w8.cell? ⟨X3, 0, none⟩ = some (.int .i64 m0) := (@block_cells _ _ 0 _ _ b3).trans rfl
 have cc1 : w8.cell? ⟨X3, 1, none⟩ = some (.int .i64 m1) := (@block_cells _ _ 1 _ _ b3).trans rfl
 have cc2 : w8.cell? ⟨X3, 2, none⟩ = some (.int .i64 d0) := (@block_cells _ _ 2 _ _ b3).trans rfl
 have cc3 : w8.cell? ⟨X3, 3, none⟩ = some (.int .i64 d1) := (@block_cells _ _ 3 _ _ b3).trans rfl
 have cc4 : w8.cell? ⟨X3, 4, none⟩ = some (.int .i64 g) := (@block_cells _ _ 4 _ _ b3).trans rfl
 have cc5 : w8.cell? ⟨X3, 5, none⟩ = some (.slice (some ⟨g0, 0, none⟩) n q3) := (@block_cells _ _ 5 _ _ b3).trans rfl
 haveI : Old X3 w8 := b3.old
 have cd0 : w8.cell? ⟨X4, 0, none⟩ = some (.int .i64 m0) := (@block_cells _ _ 0 _ _ b4).trans rfl
 have cd1 : w8.cell? ⟨X4, 1, none⟩ = some (.int .i64 m1) := (@block_cells _ _ 1 _ _ b4).trans rfl
 have cd2 : w8.cell? ⟨X4, 2, none⟩ = some (.int .i64 d0) := (@block_cells _ _ 2 _ _ b4).trans rfl
 have cd3 : w8.cell? ⟨X4, 3, none⟩ = some (.int .i64 d1) := (@block_cells _ _ 3 _ _ b4).trans rfl
 have cd4 : w8.cell? ⟨X4, 4, none⟩ = some (.int .i64 g) := (@block_cells _ _ 4 _ _ b4).trans rfl
 have cd5 : w8.cell? ⟨X4, 5, none⟩ = some (.slice A10 n q10) := (@block_cells _ _ 5 _ _ b4).trans rfl
 haveI : Old X4 w8 := b4.old
 have RA8 := Lib.hid (RA7.out.gr hg8)
 have TC8 := Lib.hid (HTC.out.gr CB7.out hg8)
 have CB8 := Lib.hid (Nat.lt_of_lt_of_le CB7.out hg8.below.size)
 clear HP3 HG3 HP1 HP2 HG2 RO17 RO27 RT7 HLL HSW HSZ1 HSZ2 b1 b2 b3 b4
 go_upto_region 20 with (first | (go_at_call 25; ((with_reducible refine (HMU.out _ gri).mono ?_); rintro _ _ ⟨rfl, g1, rfl⟩)) | (go_at_call 9; ((with_reducible refine (HK.out _ inferInstance).mono ?_); rintro _ _ ⟨rfl, g2, rfl⟩)) | (go_at_call 29; ((with_reducible refine (HTX.out _ inferInstance gri).mono ?_); rintro _ _ ⟨rfl, g3, rfl⟩)) | (go_at_call 13; ((with_reducible refine (num26_any _ _).mono ?_); rintro _ _ ⟨rfl, rfl⟩)) | (go_at_call 28; ((with_reducible refine (HS1.out _ (hg8.trans gri)).mono ?_); rintro _ _ ⟨rfl, g24, rfl⟩)) | (go_at_call 28; ((with_reducible refine (HS2.out _ _ _ (HR10.out.gr gri) (hg8.trans gri)).mono ?_); rintro _ _ ⟨rfl, g25, rfl⟩)))
 clear HS1 HS2 HR10
 cases hB : mayStB o0 o1 p0 p1 og
 ·have HST := Lib.hid (fun W => StageText_no o0 o1 p0 p1 og hB W)
  go_wp2_with (first | (go_at_call 25; ((with_reducible refine (HMU.out _ gri).mono ?_); rintro _ _ ⟨rfl, g1, rfl⟩)) | (go_at_call 9; ((with_reducible refine (HK.out _ inferInstance).mono ?_); rintro _ _ ⟨rfl, g2, rfl⟩)) | (go_at_call 29; ((with_reducible refine (HTX.out _ inferInstance gri).mono ?_); rintro _ _ ⟨rfl, g3, rfl⟩)) | (go_at_call 13; ((with_reducible refine (num26_any _ _).mono ?_); rintro _ _ ⟨rfl, rfl⟩)) | (go_at_call 33; ((with_reducible refine (HST.out _).mono ?_); rintro _ _ ⟨rfl, g30, rfl⟩)))
  go_ret
  exact ⟨rfl, hw8.trans gri⟩
 have HST := Lib.hid (fun W (_ : Tb W) => StageText_yes o0 o1 p0 p1 og hB W)
 have hsz4 := glueB_small o0 o1 p0 p1 og l hB HMAY.out HAB.out (by have := HC.out.len; omega)
 have HP4 := Lib.hid (fun V (h1 : Tb V) (h2 : Ml V) => parse_back _ o0 o1 p0 p1 og l n HC.out.len (glueB_back o0 o1 p0 p1 og l hB HMAY.out (by have := HC.out.len; omega)) hsz4 V)
 have HSZ4 := Lib.hid hsz4
 clear hsz4
 go_upto_region 23 with (first | (go_at_call 25; ((with_reducible refine (HMU.out _ gri).mono ?_); rintro _ _ ⟨rfl, g1, rfl⟩)) | (go_at_call 9; ((with_reducible refine (HK.out _ inferInstance).mono ?_); rintro _ _ ⟨rfl, g2, rfl⟩)) | (go_at_call 29; ((with_reducible refine (HTX.out _ inferInstance gri).mono ?_); rintro _ _ ⟨rfl, g3, rfl⟩)) | (go_at_call 13; ((with_reducible refine (num26_any _ _).mono ?_); rintro _ _ ⟨rfl, rfl⟩)) | (go_at_call 33; ((with_reducible refine (HST.out _ inferInstance).mono ?_); rintro _ _ ⟨rfl, g30, rfl⟩)))
 refine wp_named (fun W => BlockAt W w.heap.size #[.int .i64 m0, .int .i64 m1, .int .i64 d0, .int .i64 d1, .int .i64 g, .slice (some ⟨bA, pA, none⟩) n q] 58 ∧ BlockAt W (w.heap.size + 1) #[.int .i64 o0, .int .i64 o1, .int .i64 p0, .int .i64 p1, .int .i64 og] 55 ∧ Gr w8 W ∧ Tb W ∧ Ml W) ⟨inferInstance, inferInstance, gri, inferInstance, inferInstance⟩ ?_
 rintro w9 ⟨e58, e55, hg9, tb9, ml9⟩
 haveI := e58; haveI := e55; haveI := tb9; haveI := ml9
 have TC9 := Lib.hid (TC8.out.gr CB8.out hg9)
 have CB9 := Lib.hid (Nat.lt_of_lt_of_le CB8.out hg9.below.size)
 have hlx := HC.out.len
 have hll5 : (l.map fun a => lineB a.text).length = n := by rw [List.length_map]; exact hlx
 go_wp2_with (at_builtin; refine wp_append_strsP rfl _ _ rfl w9.heap.size (.slice (some ⟨w9.heap.size, 0, none⟩) 1 1) [(⟨(stageTextL o0 o1 p0 p1 og).toArray⟩ : ByteArray)] rfl ?own23 lb 1 (l.map fun a => lineB a.text) n (lc - 1) hll5 rfl ?hc23 ?hl23 ?hb23 ?_)
 case own23 => exact OwnS.new _ _ _ (Nat.le_refl _)
 case hc23 => exact TC9.out.gr CB9.out gri
 case hl23 => rw [hll5]; simp; omega
 case hb23 => simp
 intro v10 w10 h10
 have hg10 : Gr w9 w10 := Gr.of ((below_alloc (Below.refl _ _) _).trans h10.below)
 have hown := h10.own
 have hli : [(⟨(stageTextL o0 o1 p0 p1 og).toArray⟩ : ByteArray)] ++ (l.map fun a => lineB a.text) = (lines o0 o1 p0 p1 og l) := by rw [lines_cons]; rfl
 rw [hli] at hown
 obtain ⟨A12, q12, rfl, hq12, hr12⟩ := hown.form
 have hll6 : (lines o0 o1 p0 p1 og l).length = n + 1 := by rw [lines_len, hlx]
 have HG4 := Lib.hid (fun W (hW : Gr w10 W) => glue_any A12 (n + 1) q12 (lines o0 o1 p0 p1 og l) W hll6 (by omega) (hr12.gr hW) (by have := HSZ4.out; omega))
 rw [hll6]
 clear h10 hown hr12 hli hll6 hll5 hlx
 haveI : BlockAt w10 w.heap.size #[.int .i64 m0, .int .i64 m1, .int .i64 d0, .int .i64 d1, .int .i64 g, .slice (some ⟨bA, pA, none⟩) n q] 58 := e58.gr hg10
 haveI : BlockAt w10 (w.heap.size + 1) #[.int .i64 o0, .int .i64 o1, .int .i64 p0, .int .i64 p1, .int .i64 og] 55 := e55.gr hg10
 haveI : Tb w10 := tb_gr hg10
 haveI : Ml w10 := ml_gr hg10
 have hw10 : Gr w w10 := hw8.trans (hg9.trans hg10)
 have HRA := Lib.hid (RA8.out.gr (hg9.trans hg10))
 go_upto_region 24 with (first | (go_at_call 25; ((with_reducible refine (HMU.out _ gri).mono ?_); rintro _ _ ⟨rfl, g1, rfl⟩)) | (go_at_call 9; ((with_reducible refine (HK.out _ inferInstance).mono ?_); rintro _ _ ⟨rfl, g2, rfl⟩)) | (go_at_call 29; ((with_reducible refine (HTX.out _ inferInstance gri).mono ?_); rintro _ _ ⟨rfl, g3, rfl⟩)) | (go_at_call 13; ((with_reducible refine (num26_any _ _).mono ?_); rintro _ _ ⟨rfl, rfl⟩)) | (go_at_call 32; ((with_reducible refine (HG4.out _ gri).mono ?_); rintro _ _ ⟨rfl, g31, rfl⟩)) | (go_at_call 26; ((with_reducible refine (HP4.out _ inferInstance inferInstance).mono ?_); rintro _ _ ⟨A13, q13, rfl, hr13, g32, rfl⟩; have HR13 := Lib.hid hr13.row; clear hr13)))
 refine wp_named (fun W => BlockAt W w.heap.size #[.int .i64 m0, .int .i64 m1, .int .i64 d0, .int .i64 d1, .int .i64 g, .slice (some ⟨bA, pA, none⟩) n q] 58 ∧ BlockAt W (w.heap.size + 1) #[.int .i64 o0, .int .i64 o1, .int .i64 p0, .int .i64 p1, .int .i64 og] 55 ∧ Gr w10 W ∧ Tb W ∧ Ml W ∧ BlockAt W (grown (grown w10 g31) g32).heap.size #[.int .i64 o0, .int .i64 o1, .int .i64 p0, .int .i64 p1, .int .i64 og, .slice A13 n q13] 58 ∧ RowA W A13 l) ⟨inferInstance, inferInstance, gri, inferInstance, inferInstance, inferInstance, HR13.out.gr gri⟩ ?_
 clear HR13
 generalize (grown (grown w10 g31) g32).heap.size = X5
 rintro w11 ⟨f58, f55, hg11, tb11, ml11, b5, hr13⟩
 haveI := f58; haveI := f55; haveI := tb11; haveI := ml11; haveI := b5
 have HS4 := Lib.hid (fun W (hW : Gr w11 W) => (show Calls Tryz.prog 28 #[.agg #[.int .i64 o0, .int .i64 o1, .int .i64 p0, .int .i64 p1, .int .i64 og, .slice A13 n q13], .agg #[.int .i64 o0, .int .i64 o1, .int .i64 p0, .int .i64 p1, .int .i64 og, .slice (some ⟨bA, pA, none⟩) n q]] W (fun e w' => e = .returned (.bool true) ∧ Gr W w') from by
  have h := same26S_any o0 o1 p0 p1 og o0 o1 p0 p1 og A13 (some ⟨bA, pA, none⟩) n q13 n q l l W HC.out.len HC.out.len (by omega) (by omega) (hr13.gr hW) (HRA.out.gr (hg11.trans hW))
  rw [st5_refl, sameL_refl, Bool.and_self] at h
  exact h))
 have hw11 : Gr w w11 := hw10.trans hg11
 clear hr13
 haveI : Old (w.heap.size + 1) w11 := f55.old
 haveI : Old w.heap.size w11 := f58.old
 haveI : Old X5 w11 := b5.old
 have t0 : w11.cell? ⟨w.heap.size + 1, 0, none⟩ = some (.int .i64 o0) := (@block_cells _ _ 0 _ _ f55).trans rfl
 have t1 : w11.cell? ⟨w.heap.size + 1, 1, none⟩ = some (.int .i64 o1) := (@block_cells _ _ 1 _ _ f55).trans rfl
 have t2 : w11.cell? ⟨w.heap.size + 1, 2, none⟩ = some (.int .i64 p0) := (@block_cells _ _ 2 _ _ f55).trans rfl
 have t3 : w11.cell? ⟨w.heap.size + 1, 3, none⟩ = some (.int .i64 p1) := (@block_cells _ _ 3 _ _ f55).trans rfl
 have t4 : w11.cell? ⟨w.heap.size + 1, 4, none⟩ = some (.int .i64 og) := (@block_cells _ _ 4 _ _ f55).trans rfl
 have r5 : w11.cell? ⟨w.heap.size, 5, none⟩ = some (.slice (some ⟨bA, pA, none⟩) n q) := (@block_cells _ _ 5 _ _ f58).trans rfl
 have v0 : w11.cell? ⟨X5, 0, none⟩ = some (.int .i64 o0) := (@block_cells _ _ 0 _ _ b5).trans rfl
 have v1 : w11.cell? ⟨X5, 1, none⟩ = some (.int .i64 o1) := (@block_cells _ _ 1 _ _ b5).trans rfl
 have v2 : w11.cell? ⟨X5, 2, none⟩ = some (.int .i64 p0) := (@block_cells _ _ 2 _ _ b5).trans rfl
 have v3 : w11.cell? ⟨X5, 3, none⟩ = some (.int .i64 p1) := (@block_cells _ _ 3 _ _ b5).trans rfl
 have v4 : w11.cell? ⟨X5, 4, none⟩ = some (.int .i64 og) := (@block_cells _ _ 4 _ _ b5).trans rfl
 have v5 : w11.cell? ⟨X5, 5, none⟩ = some (.slice A13 n q13) := (@block_cells _ _ 5 _ _ b5).trans rfl
 go_wp2_with (first | (go_at_call 25; ((with_reducible refine (HMU.out _ gri).mono ?_); rintro _ _ ⟨rfl, g1, rfl⟩)) | (go_at_call 9; ((with_reducible refine (HK.out _ inferInstance).mono ?_); rintro _ _ ⟨rfl, g2, rfl⟩)) | (go_at_call 29; ((with_reducible refine (HTX.out _ inferInstance gri).mono ?_); rintro _ _ ⟨rfl, g3, rfl⟩)) | (go_at_call 13; ((with_reducible refine (num26_any _ _).mono ?_); rintro _ _ ⟨rfl, rfl⟩)) | (go_at_call 28; ((with_reducible refine (HS4.out _ gri).mono ?_); rintro _ _ ⟨rfl, g34, rfl⟩)))
 go_ret
 exact ⟨rfl, hw11.trans gri⟩
end Go.Proofs.YtgjdgafoidppaaaGreatDoor
