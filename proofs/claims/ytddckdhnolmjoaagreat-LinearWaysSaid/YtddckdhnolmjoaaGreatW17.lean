/- linear.moments, of a history whose moments stand in order. Conditions: at most 9 calls, and one at .. -/
import Derived.Test.YtddckdhnolmjoaaGreatW16
import Derived.Test.YtddckdhnolmjoaaGreatW08
set_option linter.unusedVariables false
set_option linter.unusedSimpArgs false
set_option linter.unnecessarySimpa false
set_option maxRecDepth 100000
set_option maxHeartbeats 8000000
namespace Go.Proofs.YtddckdhnolmjoaaGreat
open Go.RowKit
def mom2 (c : CallC) : List MomC := [(c.at_, true, c), (c.seq, false, c)]
def momK (l : List CallC) : List MomC := l.flatMap mom2
theorem momK_len (l : List CallC) : (momK l).length = 2 * l.length := by
 induction l with
 | nil => rfl
 | cons a l ih => simp [momK, mom2] at ih ⊢; omega
structure MomOk (c : CallC) : Prop where
 a1 : 1 ≤ c.at_
 a2 : c.at_ < c.seq
 a3 : c.seq ≤ 1000000
 n0 : 0 ≤ c.node
 n1 : c.node ≤ 1
theorem momK_ok {l : List CallC} (h : ∀ c ∈ l, MomOk c) : ∀ x ∈ momK l, 0 ≤ x.1 ∧ x.1 ≤ 1000000 := fun x hx => by
 obtain ⟨c, hc, hx⟩ := List.mem_flatMap.1 hx
 have := h c hc
 obtain ⟨h1, h2, h3, _, _⟩ := this
 simp only [mom2, List.mem_cons, List.mem_nil_iff, or_false] at hx
 rcases hx with rfl | rfl <;> constructor <;> simp only <;> omega
theorem moments_any (l : List CallC) (A : Option Addr) (n cap : Nat) (W : World) (hn : l.length = n) (hne : l ≠ []) (hn9 : n ≤ 9) (hok : ∀ c ∈ l, MomOk c) (hs : ∀ j x y, (momK l)[j]? = some x → (momK l)[j + 1]? = some y → x.1 < y.1) (hr : RowN callE W A l) : Calls Tryz.prog 30 #[.slice A n cap] W fun e w' => ∃ v, e = .returned (.tuple #[v, .int .i64 0]) ∧ OwnN momE W.heap.size w' v (momK l) ∧ Gr W w' := by
 obtain ⟨b, p, rfl, hbl, hcl⟩ := hr.at_ hne
 have HN := hd_ hn
 have HNE := hd_ hne
 have HOK := hd_ hok
 have HS := hd_ hs
 have HROW := hd_ (fun (k : Nat) c (hk : l[k]? = some c) W' (g : Gr W W') => show ∀ (i : Nat) u, ([.int .u64 c.num, .int .i64 c.node, .int .i64 c.o.o.k, .int .u64 c.o.o.v, .int .u64 c.o.o.t, .int .i64 c.o.o.s, .int .i64 c.o.o.a, .int .i64 c.o.o.c, .slice c.o.D c.o.n c.o.q, .int .i64 c.at_, .int .i64 c.fr, .int .i64 c.tt, .bool c.dn, .int .i64 c.gone, .int .i64 c.seq, .int .i64 c.an.code, .int .i64 c.an.done, .slice c.an.D c.an.n c.an.q] )[i]? = some u → W'.cell? ((⟨b, p + k * 18, none⟩ : Addr).add i) = some u from fun i u hu => by
  have := hcl k c hk i u hu
  rw [Go.WideShapes.add_plain]
  refine (g.below.cell (p := ⟨b, p + k * 18 + i, none⟩) hbl).trans ?_
  simpa [callE] using this)
 haveI : Old b W := ⟨hbl⟩
 clear hn hne hok hs hr hbl hcl
 go_enter Tryz.func30, Tryz.ntmps30
 go_wp2
 go_loopw [4, 10] (fun v i wl => ∃ k : Nat, k ≤ n ∧ i = .int .i64 (k : Int) ∧ OwnN momE W.heap.size wl v (momK (l.take k)) ∧ Gr W wl) (fun _ i _ => n - (intOf i).toNat)
 case atStart => exact ⟨0, Nat.zero_le _, rfl, by simpa [momK] using OwnN.nil _ _, gri⟩
 case round =>
  obtain ⟨k, hk, rfl, ho, hg⟩ := hrel
  obtain ⟨W3, rfl⟩ : ∃ W3, W3 = wr := ⟨_, rfl⟩
  have HO := hd_ ho
  have HG := hd_ hg
  haveI := grc_of hg
  haveI := from_of hg
  clear ho hg
  by_cases hlt : k < n
  ·have HLT := hd_ hlt
   have hlt2 : (k : Int) < (n : Int) := by omega
   obtain ⟨c, hc⟩ : ∃ c, l[k]? = some c := ⟨_, List.getElem?_eq_getElem (by rw [HN.out]; exact hlt)⟩
   have HC := hd_ hc
   have HRW := hd_ (HROW.out k c hc)
   obtain ⟨m1, m2, m3, m4, m5⟩ := HOK.out c (List.mem_of_getElem? hc)
   have t1 : ¬ c.at_ < 1 := by omega
   have t2 : c.seq ≠ 0 := by omega
   have t3 : ¬ c.seq ≤ c.at_ := by omega
   have t4 : ¬ c.node < 0 := by omega
   have t5 : ¬ 1 < c.node := by omega
   have t6 : 0 < c.seq := by omega
   have hll : (momK (l.take k)).length ≤ 100 := by rw [momK_len, List.length_take]; omega
   have HLE : Hid ((momK (l.take k)).length + 1 ≤ 100000000) := hd_ (by omega)
   have HLF : Hid ((momK (l.take k) ++ [(c.at_, true, c)]).length + 1 ≤ 100000000) := hd_ (by rw [List.length_append]; simp; omega)
   have HT : Hid (momK (l.take (k + 1)) = momK (l.take k) ++ [(c.at_, true, c)] ++ [(c.seq, false, c)]) := hd_ (by rw [List.take_add_one, hc]; simp [momK, mom2])
   clear hc m1 m2 m3 m4 m5 hll
   go_wp2_with (first
    | (refine wpLoadCs rfl _ _ rfl ⟨b, p + k * 18, none⟩ ([.int .u64 c.num, .int .i64 c.node, .int .i64 c.o.o.k, .int .u64 c.o.o.v, .int .u64 c.o.o.t, .int .i64 c.o.o.s, .int .i64 c.o.o.a, .int .i64 c.o.o.c, .slice c.o.D c.o.n c.o.q, .int .i64 c.at_, .int .i64 c.fr, .int .i64 c.tt, .bool c.dn, .int .i64 c.gone, .int .i64 c.seq, .int .i64 c.an.code, .int .i64 c.an.done, .slice c.an.D c.an.n c.an.q] ) _ rfl Tryz.underlying51 rfl (by kernel_rfl) (HRW.out _ (HG.out.trans gri)) ?_)
    | (refine wp_storeCall (W0 := W3) rfl _ _ rfl W3.heap.size c _ rfl rfl inferInstance rfl gri (Nat.le_refl _) ?_; obtain ⟨B9, hB9⟩ : ∃ B9, B9 = W3.heap.size := ⟨_, rfl⟩; rw [← hB9]; intro W7 g7 b9; have d1_W7 : W7.cell? ⟨B9, 1, none⟩ = some (.int .i64 c.node) := (bc 1 b9).trans rfl; have d9_W7 : W7.cell? ⟨B9, 9, none⟩ = some (.int .i64 c.at_) := (bc 9 b9).trans rfl; have d14_W7 : W7.cell? ⟨B9, 14, none⟩ = some (.int .i64 c.seq) := (bc 14 b9).trans rfl; have G7 := hd_ g7; have HB9 := hd_ b9; have HR7 := hd_ (fun W' (g : Gr W7 W') => show ∀ (i : Nat) u, ([.int .u64 c.num, .int .i64 c.node, .int .i64 c.o.o.k, .int .u64 c.o.o.v, .int .u64 c.o.o.t, .int .i64 c.o.o.s, .int .i64 c.o.o.a, .int .i64 c.o.o.c, .slice c.o.D c.o.n c.o.q, .int .i64 c.at_, .int .i64 c.fr, .int .i64 c.tt, .bool c.dn, .int .i64 c.gone, .int .i64 c.seq, .int .i64 c.an.code, .int .i64 c.an.done, .slice c.an.D c.an.n c.an.q] )[i]? = some u → W'.cell? ((⟨B9, 0, none⟩ : Addr).add i) = some u from fun i u hu => by rw [Go.WideShapes.add_plain, Nat.zero_add]; exact (bc i (HB9.out.gr g)).trans (by simpa [callL] using hu)); haveI := b9.old; haveI := grc_of (HG.out.trans g7); haveI := from_of (HG.out.trans g7); clear hB9 g7 b9)
    | (refine wpLoadCs rfl _ _ rfl ⟨B9, 0, none⟩ ([.int .u64 c.num, .int .i64 c.node, .int .i64 c.o.o.k, .int .u64 c.o.o.v, .int .u64 c.o.o.t, .int .i64 c.o.o.s, .int .i64 c.o.o.a, .int .i64 c.o.o.c, .slice c.o.D c.o.n c.o.q, .int .i64 c.at_, .int .i64 c.fr, .int .i64 c.tt, .bool c.dn, .int .i64 c.gone, .int .i64 c.seq, .int .i64 c.an.code, .int .i64 c.an.done, .slice c.an.D c.an.n c.an.q] ) _ rfl Tryz.underlying51 rfl (by kernel_rfl) (HR7.out _ gri) ?_)
    | (at_builtin; refine wp_append_n (e := momE) (base := W.heap.size) (v := u4) (xs := momK (l.take k)) momIs rfl _ _ rfl rfl (HO.out.gr (G7.out.trans gri)) _ 0 [(c.at_, true, c)] 1 1 rfl rfl (fun _ _ => trivial) (CellsN.block _ inferInstance rfl) HLE.out (Nat.le_trans (HG.out.trans G7.out).below.size past) (by simp) ?_; intro v1 W8 h1; have hg8 : Gr W W8 := Gr.of ((HG.out.trans (G7.out.trans gri)).below.trans h1.below); have b98 := h1.keep _ _ _ (HB9.out.gr gri) (by decide); have d1_W8 : W8.cell? ⟨B9, 1, none⟩ = some (.int .i64 c.node) := (bc 1 b98).trans rfl; have d9_W8 : W8.cell? ⟨B9, 9, none⟩ = some (.int .i64 c.at_) := (bc 9 b98).trans rfl; have d14_W8 : W8.cell? ⟨B9, 14, none⟩ = some (.int .i64 c.seq) := (bc 14 b98).trans rfl; have H1 := hd_ h1; have HG8 := hd_ hg8; have HB98 := hd_ b98; have HR8 := hd_ (fun W' (g : Gr W8 W') => show ∀ (i : Nat) u, ([.int .u64 c.num, .int .i64 c.node, .int .i64 c.o.o.k, .int .u64 c.o.o.v, .int .u64 c.o.o.t, .int .i64 c.o.o.s, .int .i64 c.o.o.a, .int .i64 c.o.o.c, .slice c.o.D c.o.n c.o.q, .int .i64 c.at_, .int .i64 c.fr, .int .i64 c.tt, .bool c.dn, .int .i64 c.gone, .int .i64 c.seq, .int .i64 c.an.code, .int .i64 c.an.done, .slice c.an.D c.an.n c.an.q] )[i]? = some u → W'.cell? ((⟨B9, 0, none⟩ : Addr).add i) = some u from fun i u hu => by rw [Go.WideShapes.add_plain, Nat.zero_add]; exact (bc i (HB98.out.gr g)).trans (by simpa [callL] using hu)); haveI := b98.old; haveI := grc_of hg8; haveI := from_of hg8; clear h1 hg8 b98)
    | (refine wpLoadCs rfl _ _ rfl ⟨B9, 0, none⟩ ([.int .u64 c.num, .int .i64 c.node, .int .i64 c.o.o.k, .int .u64 c.o.o.v, .int .u64 c.o.o.t, .int .i64 c.o.o.s, .int .i64 c.o.o.a, .int .i64 c.o.o.c, .slice c.o.D c.o.n c.o.q, .int .i64 c.at_, .int .i64 c.fr, .int .i64 c.tt, .bool c.dn, .int .i64 c.gone, .int .i64 c.seq, .int .i64 c.an.code, .int .i64 c.an.done, .slice c.an.D c.an.n c.an.q] ) _ rfl Tryz.underlying51 rfl (by kernel_rfl) (HR8.out _ gri) ?_)
    | (at_builtin; refine wp_append_n (e := momE) (base := W.heap.size) (v := v1) (xs := momK (l.take k) ++ [(c.at_, true, c)]) momIs rfl _ _ rfl rfl (H1.out.own.gr gri) _ 0 [(c.seq, false, c)] 1 1 rfl rfl (fun _ _ => trivial) (CellsN.block _ inferInstance rfl) HLF.out (Nat.le_trans HG8.out.below.size past) (by simp) ?_; intro v2 W10 h2; have hg10 : Gr W W10 := Gr.of ((HG8.out.trans gri).below.trans h2.below); have H2 := hd_ h2; have HG10 := hd_ hg10; haveI := grc_of hg10; haveI := from_of hg10; clear h2 hg10))
   go_roundw
   case rel => exact ⟨k + 1, HLT.out, by go_num, by rw [HT.out]; exact H2.out.own, HG10.out⟩
   case measure => have := HLT.out; simp [intOf]; omega
  ·have : k = n := by omega
   subst this
   obtain ⟨L, hL⟩ : ∃ L, L = momK l := ⟨_, rfl⟩
   have hown : OwnN momE W.heap.size W3 u4 L := by
    have := HO.out
    rw [List.take_of_length_le (by rw [HN.out]; exact Nat.le_refl _), ← hL] at this
    exact this
   have hLn : L.length = 2 * k := by rw [hL, momK_len, HN.out]
   have hLne : L ≠ [] := fun e => by
    rw [e] at hLn
    have := HNE.out
    have h3 := HN.out
    simp at hLn
    exact this (List.eq_nil_of_length_eq_zero (by omega))
   obtain ⟨g, cg, hv, h2, h3, h4, h5, h6, h7⟩ := hown.cells momIs hLne
   obtain ⟨N, hN⟩ : ∃ N, N = L.length := ⟨_, rfl⟩
   rw [← hN] at hv
   subst hv
   have hN18 : N ≤ 18 := by omega
   have HSO := hd_ (fun W' (g1 : Gr W3 W') => sort_sorted L g N cg W' hN.symm (by omega) (by rw [hL]; exact HS.out) (by rw [hL]; exact momK_ok HOK.out) (h6.gr h3 g1) (Nat.lt_of_lt_of_le h3 g1.below.size))
   have HL := hd_ hL
   have HNN := hd_ hN
   have HOW := hd_ hown
   have HCE := hd_ (fun W' (g1 : Gr W3 W') => h6.gr h3 g1)
   have HG3 := hd_ h3
   clear hL hown hLn hLne h2 h3 h4 h5 h6 h7 hN
   go_wp2_with (first | (go_at_call 61; ((with_reducible refine (HSO.out _ gri).mono ?_); rintro _ _ ⟨rfl, ⟨g8, rfl⟩⟩)))
   obtain ⟨W4, hW4⟩ : ∃ W4, W4 = grown W3 g8 := ⟨_, rfl⟩
   have hg4 : Gr W3 W4 := by rw [hW4]; exact gri
   rw [← hW4]
   have HG4 := hd_ hg4
   clear hW4 hg4
   go_loopw [7] (fun i wl => ∃ j : Nat, (j = 0 ∨ j < N) ∧ i = .int .i64 ((j + 1 : Nat) : Int) ∧ Gr W3 wl) (fun i _ => N - (intOf i).toNat)
   case atStart => exact ⟨0, .inl rfl, rfl, HG4.out⟩
   case round =>
    obtain ⟨j, hj0, rfl, hg5⟩ := hrel
    obtain ⟨W5, rfl⟩ : ∃ W5, W5 = wr := ⟨_, rfl⟩
    have HG5 := hd_ hg5
    have hj19 : j ≤ 18 := by rcases hj0 with rfl | h <;> omega
    clear hg5 hj0
    by_cases hjl : j + 1 < N
    ·have HJL := hd_ hjl
     have hlt2 : ((j + 1 : Nat) : Int) < (N : Int) := by omega
     obtain ⟨x, hx⟩ : ∃ x, L[j]? = some x := ⟨_, List.getElem?_eq_getElem (by rw [← HNN.out]; omega)⟩
     obtain ⟨y, hy⟩ : ∃ y, L[j + 1]? = some y := ⟨_, List.getElem?_eq_getElem (by rw [← HNN.out]; omega)⟩
     have HX := hd_ hx
     have HY := hd_ hy
     have hxy := HS.out j x y (by rw [← HL.out]; exact hx) (by rw [← HL.out]; exact hy)
     have hne1 : x.1 ≠ y.1 := by omega
     have hwr : IntKind.i64.wrap (((j + 1 : Nat) : Int) - 1) = (j : Int) := by rw [show ((j + 1 : Nat) : Int) - 1 = (j : Int) by omega]; exact i64_same (by omega) (by omega)
     have hw0 : IntKind.i64.wrap (j : Int) = (j : Int) := i64_same (by omega) (by omega)
     have hp1 : ¬ ((j : Int) + 1 < 0) := by omega
     have hp2 : ¬ N ≤ j := by omega
     clear hx hy hxy
     go_wp2
     refine wp_region_plan ⟨fun w' => Gr W3 w', fun w' => True⟩ (HG5.out.trans gri) trivial [(true, 0), (true, 1), (true, 2), (true, 3), (true, 4), (true, 5), (true, 6), (true, 7), (true, 8), (true, 9), (true, 10), (true, 11)] (by kernel_rfl) (by kernel_rfl) ?_
     simp only [pickP, pick, List.drop, List.take, List.nil_append, List.cons_append, List.map_cons, List.map_nil]
     refine p_same (.slice (some ⟨g, 0, none⟩) N cg) rfl rfl (fun w1 hj => by go_simp) ?_
     simp only [Act.put, stA, List.set]
     refine p_same (.int .i64 ((j + 1 : Nat) : Int)) rfl rfl (fun w1 hj => by go_simp) ?_
     simp only [Act.put, stA, List.set]
     refine p_same (.int .i64 (j : Int)) rfl rfl (fun w1 hj => by go_simp) ?_
     simp only [Act.put, stA, List.set]
     refine p_same (.pointer (some ⟨g, j * 20, none⟩)) rfl rfl (fun w1 hj => by go_simp) ?_
     simp only [Act.put, stA, List.set]
     refine p_same (.pointer (some ⟨g, j * 20, none⟩)) rfl rfl (fun w1 hj => by go_simp) ?_
     simp only [Act.put, stA, List.set]
     refine p_same (.int .i64 x.1) rfl rfl (fun w1 hj => by have y0 : w1.cell? ⟨g, j * 20, none⟩ = some (.int .i64 x.1) := (by have := HCE.out w1 hj j x HX.out 0 _ rfl; simpa [momE] using this); go_simp) ?_
     simp only [Act.put, stA, List.set]
     refine p_same (.slice (some ⟨g, 0, none⟩) N cg) rfl rfl (fun w1 hj => by go_simp) ?_
     simp only [Act.put, stA, List.set]
     refine p_same (.int .i64 ((j + 1 : Nat) : Int)) rfl rfl (fun w1 hj => by go_simp) ?_
     simp only [Act.put, stA, List.set]
     refine p_same (.pointer (some ⟨g, (j + 1) * 20, none⟩)) rfl rfl (fun w1 hj => by go_simp) ?_
     simp only [Act.put, stA, List.set]
     refine p_same (.pointer (some ⟨g, (j + 1) * 20, none⟩)) rfl rfl (fun w1 hj => by go_simp) ?_
     simp only [Act.put, stA, List.set]
     refine p_same (.int .i64 y.1) rfl rfl (fun w1 hj => by have y0 : w1.cell? ⟨g, (j + 1) * 20, none⟩ = some (.int .i64 y.1) := (by have := HCE.out w1 hj _ y HY.out 0 _ rfl; simpa [momE] using this); go_simp) ?_
     simp only [Act.put, stA, List.set]
     refine p_same (.bool false) rfl rfl (fun w1 hj => by go_simp) ?_
     simp only [Act.put, stA, List.set]
     refine p_nil ?_
     intro w5 hj5 _
     have HJ5 := hd_ hj5
     clear hj5
     go_wp2
     refine ⟨⟨j + 1, .inr HJL.out, ?_, HJ5.out⟩, ?_⟩
     ·rw [show (j : Int) + 1 + 1 = ((j + 1 + 1 : Nat) : Int) by omega]
     ·have := HJL.out
      simp only [intOf]
      omega
    ·have hge : ¬ ((j + 1 : Nat) : Int) < (N : Int) := by omega
     go_wp2
     refine bodyPost_ret (results_tmp2 rfl _ _ _) rfl ?_
     exact ⟨_, rfl, by rw [← HL.out]; exact HOW.out.gr HG5.out, HG.out.trans HG5.out⟩
theorem run_append_e0 (A : Option Addr) (b p c : Nat) (ty : TypeId) (x : CallC) (W : World) (hc : CellsN callE W b p [x]) : (Builtin.append_ #[52, 52] ty #[.slice A 0 0, .slice (some ⟨b, p, none⟩) 1 c]).run Tryz.prog W = (Builtin.append_ #[52, 52] ty #[.slice none 0 0, .slice (some ⟨b, p, none⟩) 1 c]).run Tryz.prog W := by
 cases A with
 | none => rfl
 | some a =>
  obtain ⟨i0, hi, hz0, hz2, hz3⟩ := info_parts callIs.hE
  have hlN : (callL x).length = 1 * i0.size := by rw [hz2]; rfl
  have hnews : ∀ j u, (callL x)[j]? = some u → W.cell? ((⟨b, p, none⟩ : Addr).add j) = some u := fun j u hj => by
   rw [Go.WideShapes.add_plain]
   have := hc 0 x rfl j u hj
   simpa [callE] using this
  have hby : i0.bytes ≤ 1000 := by rw [hz3]; exact callIs.hb
  rw [run_append_nil (P := Tryz.prog) W 52 ty 51 i0 callE.z callIs.hT hi hz0 ⟨b, p, none⟩ 1 c (callL x) hlN hnews (by omega) (by omega) (by omega),
   run_append_grow (P := Tryz.prog) W 52 ty 51 i0 callE.z callIs.hT hi hz0 a 0 0 [] (by simp) (fun j v h => by simp at h) ⟨b, p, none⟩ 1 c (callL x) hlN hnews (by omega) (by omega) (growslice_fits (by omega) (by omega))]
  simp
theorem effAt_append_e0 {base : Nat} {W : World} {o : Oper} {a : Act} {R : Value → World → Prop} (s y : Operand) (ho : o.op = .call { callee := .builtin .append, args := #[s, y], argTypes := #[52, 52] }) (A : Option Addr) (b p c : Nat) (x : CallC) (hs : a.eval s = .slice A 0 0) (hy : a.eval y = .slice (some ⟨b, p, none⟩) 1 c) (hc : CellsN callE W b p [x]) (hbase : base ≤ W.heap.size)
  (h : ∀ v' W', AppN callE base W (.slice none 0 0) [] [x] v' W' → R v' W') : EffAt Tryz.prog o a W R := by
 obtain ⟨v', W', hrun, happ⟩ := run_append_n callIs o.type (OwnN.nil base W) b p [x] c (fun _ _ => trivial) hc (by simp) hbase (by simp)
 have hrun2 : (Builtin.append_ #[52, 52] o.type #[.slice A 0 0, .slice (some ⟨b, p, none⟩) 1 c]).run Tryz.prog W = .ok v' W' := (run_append_e0 A b p c o.type x W hc).trans hrun
 unfold EffAt execOp
 simp only [ho, resolve, invoke, builtin, Sem.run_bind, Sem.run_pure, Result.andThen_ok, List.map_toArray, List.map_cons, List.map_nil, hs, hy, hrun2]
 exact h v' W' happ
theorem clip0 (A : Option Addr) (cap : Nat) (W : World) : Calls Tryz.prog 32 #[.slice A 0 cap] W fun e w' => e = .returned (.slice A 0 0) ∧ Gr W w' := by
 cases A with
 | none =>
  go_enter Tryz.func32, Tryz.ntmps32
  go_wp2
  go_ret
  exact ⟨rfl, gri⟩
 | some a =>
  go_enter Tryz.func32, Tryz.ntmps32
  go_wp2
  go_ret
  exact ⟨rfl, gri⟩
structure SK where
 ws : List WM
 q0 : Option (Int × OpM)
 q1 : Option (Int × OpM)
 gn : List (Int × OpM)
def cp (c : CallC) : Int × OpM := (c.num, c.o.o)
def stepK (f : Nat) (s : SK) (m : MomC) : Option (SK ⊕ Int) :=
 if m.2.2.dn && (m.2.2.an.code == 11 || m.2.2.an.code == 13 || m.2.2.an.code == 10) then none
 else if m.2.1 then
  if m.2.2.node = 0 then
   match s.q0 with
   | none => some (.inl { s with q0 := some (cp m.2.2) })
   | some _ => none
  else
   match s.q1 with
   | none => some (.inl { s with q1 := some (cp m.2.2) })
   | some _ => none
 else if m.2.2.dn then
  if m.2.2.node = 0 then none
  else
   match s.q1 with
   | none => none
   | some x =>
    if x.1 = m.2.2.num then
     match closeM f (s.gn ++ (s.q0.toList ++ s.q1.toList)) s.ws with
     | none => none
     | some st =>
      if (st.2.filterMap (phiM m.2.2.num m.2.2.an.m)).length = 0 then some (.inr 9) else some (.inl { s with ws := st.2.filterMap (phiM m.2.2.num m.2.2.an.m), q1 := none })
    else none
 else if m.2.2.node = 0 then
  match s.q0 with
  | none => none
  | some x => if x.1 = m.2.2.num ∧ s.gn.length = 0 then some (.inl { s with q0 := none, gn := [cp m.2.2] }) else none
 else none
def runK (f : Nat) : List MomC → SK → Option (Nat × Int)
 | [], s => some (s.ws.length, 0)
 | m :: l, s =>
  match stepK f s m with
  | none => none
  | some (.inr e) => some (0, e)
  | some (.inl s') => runK f l s'
def WS (w : World) (B : Nat) (s : SK) (W : World) : Prop := ∃ ws q0 q1 gn wv v0 v1 gv, BkA w B ws q0 q1 gn wv v0 v1 gv W ∧ ws.map WrC.p = s.ws ∧ q0.map cp = s.q0 ∧ q1.map cp = s.q1 ∧ gn.map cp = s.gn ∧ (gn = [] → gv = .slice none 0 0) ∧ gn.length ≤ 1 ∧ ws.length ≤ 5000
theorem WS.grow {w W W' : World} {B : Nat} {s : SK} (h : WS w B s W) (g : Gr W W') : WS w B s W' := by
 obtain ⟨ws, q0, q1, gn, wv, v0, v1, gv, hb, hr⟩ := h
 exact ⟨ws, q0, q1, gn, wv, v0, v1, gv, hb.grow g, hr⟩
theorem WS.gr0 {w W : World} {B : Nat} {s : SK} (h : WS w B s W) : Gr w W := by
 obtain ⟨ws, q0, q1, gn, wv, v0, v1, gv, hb, hr⟩ := h
 exact hb.gr
theorem wpList_storeMom {W0 W : World} {ops : Array Oper} {rest : List Oper} {o : Oper} {a : Act} {Q : Exit → Act → World → Prop} (hgd : o.guard = none) (x y : Operand) (ho : o.op = .store 85 x y) (B : Nat) (m : MomC) (zs : Array Value) (hx : a.eval x = .pointer (some ⟨B, 0, none⟩)) (hy : a.eval y = .agg (momL m).toArray) (hB : BlockAt W B zs 85) (hz : zs.size = 20) (g0 : Gr W0 W) (hle : W0.heap.size ≤ B)
  (h : ∀ W7, Gr W0 W7 → BlockAt W7 B (momL m).toArray 85 → wpList Tryz.prog ops Q rest (a.put o.dst undef) W7) : wpList Tryz.prog ops Q (o :: rest) a W :=
 wpList_storeRow hgd _ x y ho B zs (momL m).toArray hx hy hB (by kernel_rfl) (by rw [hz]; rfl) (fun u hu => momIs.one m trivial u (by simpa [momE] using hu))
  (h _ (Gr.of (below_row g0.below hle _)) (blockAt_row (h := hB) _ _ _ _ _))
theorem ws_start {W W1 W2 : World} {D M R B : Nat} {b0 : Nat} (hg1 : Gr W W1) (hd : DevAt b0 W1 D []) (hb0 : W.heap.size ≤ b0) (hb1 : b0 ≤ W1.heap.size) (hg2 : Gr W1 W2) (hm : MapAt .u64 W2 M []) (hM : W1.heap.size ≤ M) (hR : BlockAt W2 R #[.pointer (some ⟨D, 0, none⟩), .map (some M)] 79) (hRb : W.heap.size ≤ R) (hB : BlockAt W2 B #[.slice (some ⟨R, 0, none⟩) 1 1, .slice none 0 0, .slice none 0 0, .slice none 0 0] 83) (hBb : W.heap.size ≤ B) : WS W B ⟨[([], [])], none, none, []⟩ W2 := by
 have hs1 := hg1.below.size
 have hq : QAt W2 (.slice none 0 0) none := ⟨none, 0, 0, rfl, Nat.le_refl _, Nat.zero_le _, rfl, fun x hx => by cases hx⟩
 refine ⟨[⟨D, M, b0, W1.heap.size, M + 1, [], []⟩], none, none, [], _, _, _, _, ⟨hB, OwnN.blk (e := wrE) hR hRb rfl rfl (by omega) (fun _ _ => trivial) rfl, hq, hq, OwnN.nil _ _, hg1.trans hg2, hBb, fun x hx => ?_, by simp, fun c hc => by simp at hc, fun x hx => by rw [List.mem_singleton.1 hx]; exact hb0⟩, rfl, rfl, rfl, rfl, fun _ => rfl, by simp, by simp⟩
 rw [List.mem_singleton.1 hx]
 exact ⟨(devR_of hd).keep fun b _ hb => hg2.below.block b hb, hm, hM, Nat.lt_succ_self _, Nat.succ_le_of_lt hm.lt, hb1, fun p hp => (by cases hp), fun p hp => (by cases hp)⟩
theorem run_cons {f : Nat} {m : MomC} {l : List MomC} {s : SK} {r : Nat × Int} (h : runK f (m :: l) s = some r) : (∃ e, stepK f s m = some (.inr e) ∧ r = (0, e)) ∨ (∃ s', stepK f s m = some (.inl s') ∧ runK f l s' = some r) := by
 unfold runK at h
 cases hst : stepK f s m with
 | none => rw [hst] at h; cases h
 | some v =>
  rw [hst] at h
  cases v with
  | inl s' => exact .inr ⟨s', rfl, h⟩
  | inr e => exact .inl ⟨e, rfl, (Option.some.inj h).symm⟩
inductive StepI (f : Nat) (s : SK) (m : MomC) : SK ⊕ Int → Prop
 | ask0 (ha : m.2.1 = true) (hn : m.2.2.node = 0) (hq : s.q0 = none) : StepI f s m (.inl { s with q0 := some (cp m.2.2) })
 | ask1 (ha : m.2.1 = true) (hn : m.2.2.node ≠ 0) (hq : s.q1 = none) : StepI f s m (.inl { s with q1 := some (cp m.2.2) })
 | ans (ha : m.2.1 = false) (hd : m.2.2.dn = true) (hn : m.2.2.node ≠ 0) (x : Int × OpM) (st : SoM) (hq : s.q1 = some x) (hx : x.1 = m.2.2.num) (hc : closeM f (s.gn ++ (s.q0.toList ++ s.q1.toList)) s.ws = some st) (hl : (st.2.filterMap (phiM m.2.2.num m.2.2.an.m)).length ≠ 0) : StepI f s m (.inl { s with ws := st.2.filterMap (phiM m.2.2.num m.2.2.an.m), q1 := none })
 | err (ha : m.2.1 = false) (hd : m.2.2.dn = true) (hn : m.2.2.node ≠ 0) (x : Int × OpM) (st : SoM) (hq : s.q1 = some x) (hx : x.1 = m.2.2.num) (hc : closeM f (s.gn ++ (s.q0.toList ++ s.q1.toList)) s.ws = some st) (hl : (st.2.filterMap (phiM m.2.2.num m.2.2.an.m)).length = 0) : StepI f s m (.inr 9)
 | left (ha : m.2.1 = false) (hd : m.2.2.dn = false) (hn : m.2.2.node = 0) (x : Int × OpM) (hq : s.q0 = some x) (hx : x.1 = m.2.2.num) (hg : s.gn.length = 0) : StepI f s m (.inl { s with q0 := none, gn := [cp m.2.2] })
theorem step_inv {f : Nat} {s : SK} {m : MomC} {r : SK ⊕ Int} (h : stepK f s m = some r) : (m.2.2.dn && (m.2.2.an.code == 11 || m.2.2.an.code == 13 || m.2.2.an.code == 10)) = false ∧ StepI f s m r := by
 unfold stepK at h
 split at h
 ·cases h
 rename_i hnev
 refine ⟨by simpa using hnev, ?_⟩
 split at h
 ·rename_i ha
  split at h
  ·rename_i hn
   split at h
   ·rename_i hq
    cases h
    exact .ask0 ha hn hq
   ·cases h
  ·rename_i hn
   split at h
   ·rename_i hq
    cases h
    exact .ask1 ha hn hq
   ·cases h
 ·rename_i ha
  have ha : m.2.1 = false := by simpa using ha
  split at h
  ·rename_i hd
   split at h
   ·cases h
   rename_i hn
   split at h
   ·cases h
   rename_i x hq
   split at h
   ·rename_i hx
    split at h
    ·cases h
    rename_i st hc
    split at h
    ·rename_i hl
     cases h
     exact .err ha hd hn x st hq hx hc hl
    ·rename_i hl
     cases h
     exact .ans ha hd hn x st hq hx hc hl
   ·cases h
  ·rename_i hd
   have hd : m.2.2.dn = false := by simpa using hd
   split at h
   ·rename_i hn
    split at h
    ·cases h
    rename_i x hq
    split at h
    ·rename_i hx
     cases h
     exact .left ha hd hn x hq hx.1 hx.2
    ·cases h
   ·cases h
theorem left_ws {w W : World} {B : Nat} {s : SK} (h : WS w B s W) (c : CallC) (hn : c.node = 0) (x : Int × OpM) (hq : s.q0 = some x) (hx : x.1 = c.num) (hg : s.gn.length = 0) (hco : CallOk w c) : Calls Tryz.prog 33 #[ptrB B, .agg (callL c).toArray] W (fun e w' => e = .returned (.tuple #[]) ∧ CKB B W w' ∧ WS w B { s with q0 := none, gn := [cp c] } w') := by
 obtain ⟨ws, q0, q1, gn, wv, v0, v1, gv, hb, h1, h2, h3, h4, h5, h6, h7⟩ := h
 obtain rfl : gn = [] := List.eq_nil_of_length_eq_zero (by rw [← List.length_map, h4]; exact hg)
 obtain rfl := h5 rfl
 cases q0 with
 | none => rw [hq] at h2; cases h2
 | some x0 =>
  rw [hq] at h2
  have hnum : x0.num = c.num := by rw [← hx, ← Option.some.inj h2]; rfl
  refine (left_0 c x0 hb hn hnum hco).mono ?_
  rintro e w' ⟨rfl, hk, v0', gv', hb'⟩
  exact ⟨rfl, hk, ws, none, q1, [c], wv, v0', v1, gv', hb', h1, rfl, h3, rfl, (fun e => (by cases e)), by simp, h7⟩
theorem answered_ws {f : Nat} {w W : World} {B : Nat} {s : SK} (h : WS w B s W) (c : CallC) (hn : c.node = 1) (x : Int × OpM) (st : SoM) (hq : s.q1 = some x) (hx : x.1 = c.num) (hc : closeM f (s.gn ++ (s.q0.toList ++ s.q1.toList)) s.ws = some st) (hco : CallOk w c) : Calls Tryz.prog 34 #[ptrB B, .agg (callL c).toArray] W (fun e w' => e = .returned (.int .i64 (if (st.2.filterMap (phiM c.num c.an.m)).length = 0 then 9 else 0)) ∧ CKB B W w' ∧ WS w B { s with ws := st.2.filterMap (phiM c.num c.an.m), q1 := none } w') := by
 obtain ⟨ws, q0, q1, gn, wv, v0, v1, gv, hb, h1, h2, h3, h4, h5, h6, h7⟩ := h
 cases q1 with
 | none => rw [hq] at h3; cases h3
 | some x1 =>
  have h3' := h3
  rw [hq] at h3
  have hnum : x1.num = c.num := by rw [← hx, ← Option.some.inj h3]; rfl
  have hc2 : closeM f (mayP (gn ++ (q0.toList ++ [x1]))) (ws.map WrC.p) = some (st.1, st.2) := by
   rw [← h1, ← h2, ← h3', ← h4] at hc
   rw [← hc]
   congr 1
   cases q0 <;> simp [cp]
  refine (answered_1 hb (by omega) h7 c hn hnum hco hc2).mono ?_
  rintro e w' ⟨rfl, hk, ws', wv', v1', hb', hw'⟩
  refine ⟨rfl, hk, ws', q0, none, gn, wv', v0, v1', gv, hb', hw', h2, rfl, h4, h5, h6, ?_⟩
  have h8 := closeM_len hc
  have h9 := List.length_filterMap_le (phiM c.num c.an.m) st.2
  rw [← List.length_map (f := WrC.p), hw']
  omega
section
variable {P : Program} {md : Region.Mode} {W : World} {S : Type} {I : S → World → Prop} {ops : Array Oper} {L : Array Bool → S → Act → Prop} {f n : Nat} {listed : Array Bool} {s : S} {a : Act}
theorem fe_effD {K : S → Act → Prop} {i : Nat} {o : Oper} {d : Tmp} (ho : ops[i]? = some o) (hg : o.guard = none) (hd : o.dst = some d) (h : ∀ w, I s w → EffAt P o a w (fun v w' => ∃ s', I s' w' ∧ K s' (a.put (some d) v))) : feOp P ops W I i K s a :=
 fe_eff o ho hg (by rw [hd]; exact h)
end
theorem qat_app {base : Nat} {W W' : World} {v : Value} {x : CallC} (h : AppN callE base W (.slice none 0 0) [] [x] v W') : QAt W' v (some x) := by
 have ho := h.own
 rw [List.nil_append] at ho
 obtain ⟨g, c, rfl, h1, h2, h3, h4, h5, h6⟩ := ho.cells callIs (by simp)
 rcases ho.own.2 with ⟨e, _⟩ | ⟨g', cap, cur, e, hb, hh, _⟩
 ·cases e
 ·cases e
  exact ⟨_, _, _, rfl, h3, h4, rfl, fun y hy => by
   cases hy
   exact ⟨g, 0, _, _, rfl, hh, h5⟩⟩
theorem worlds_any (f : Nat) (l : List CallC) (A : Option Addr) (n cap : Nat) (W : World) (hn : l.length = n) (hne : l ≠ []) (hn9 : n ≤ 9) (hok : ∀ c ∈ l, MomOk c) (hck : ∀ c ∈ l, CallOk W c) (hs : ∀ j x y, (momK l)[j]? = some x → (momK l)[j + 1]? = some y → x.1 < y.1) (hr : RowN callE W A l) {cnt : Nat} {code : Int} (hrun : runK f (momK l) ⟨[([], [])], none, none, []⟩ = some (cnt, code)) : Calls Tryz.prog 14 #[.slice A n cap] W fun e w' => e = .returned (.tuple #[.int .i64 (cnt : Int), .int .i64 code]) ∧ Gr W w' := by
 have hmm := @run_makeMap Tryz.prog
 have HM := hd_ (fun W' (g : Gr W W') => moments_any l A n cap W' hn hne hn9 hok hs (hr.gr g))
 have HNW := hd_ (fun W' => new_any W')
 have HCK := hd_ (show ∀ m ∈ momK l, CallOk W m.2.2 from fun m hm => by
  obtain ⟨c, hc, hm⟩ := List.mem_flatMap.1 hm
  simp only [mom2, List.mem_cons, List.mem_nil_iff, or_false] at hm
  rcases hm with rfl | rfl <;> exact hck c hc)
 have HMO := hd_ (show ∀ m ∈ momK l, MomOk m.2.2 from fun m hm => by
  obtain ⟨c, hc, hm⟩ := List.mem_flatMap.1 hm
  simp only [mom2, List.mem_cons, List.mem_nil_iff, or_false] at hm
  rcases hm with rfl | rfl <;> exact hok c hc)
 have hL18 : (momK l).length ≤ 18 := by rw [momK_len]; omega
 have hLne : momK l ≠ [] := fun e => by
  have := momK_len l
  rw [e] at this
  exact hne (List.eq_nil_of_length_eq_zero (by simp at this; omega))
 obtain ⟨L, hL⟩ : ∃ L, L = momK l := ⟨_, rfl⟩
 rw [← hL] at HM HCK HMO hL18 hLne hrun
 have HL18 := hd_ hL18
 have HLNE := hd_ hLne
 have HRUN := hd_ hrun
 clear hn hne hn9 hok hck hs hr hL18 hLne hrun hL
 go_enter Tryz.func14, Tryz.ntmps14
 go_wp2_with (first
  | (go_at_call 30; ((with_reducible refine (HM.out _ gri).mono ?_); rintro _ W1 ⟨vm, rfl, hvm, hg1⟩; obtain ⟨g, cg, hv, q2, q3, q4, q5, q6, q7⟩ := hvm.cells momIs HLNE.out; obtain ⟨N, hN⟩ : ∃ N, N = L.length := ⟨_, rfl⟩; rw [← hN] at hv; subst hv; have HG1 := hd_ hg1; have HCE := hd_ (fun W' (h : W'.heap[g]? = W1.heap[g]?) => show CellsN momE W' g 0 L from fun j x hj i u hu => by rw [← q6 j x hj i u hu]; simp [World.cell?, h]); have HGB := hd_ (hvm.cellsBlock g rfl); have HGL := hd_ q3; haveI : Old g W1 := ⟨q3⟩; have HN := hd_ hN; haveI := grc_of hg1; haveI := from_of hg1; clear hvm hg1 q2 q3 q4 q5 q6 q7 hN))
  | (go_at_call 7; ((with_reducible refine (HNW.out _).mono ?_); rintro _ W2 ⟨D, rfl, hd2, hg2⟩; have HD2 := hd_ hd2; have HG2 := hd_ hg2; haveI := grc_of (HG1.out.trans hg2); haveI := from_of (HG1.out.trans hg2); haveI := grc_of hg2; haveI := from_of hg2; clear hd2 hg2)))
 obtain ⟨W3, hW3⟩ : ∃ W3, W3 = ((W2.alloc (.map #[] 0)).alloc (.cells #[.pointer (some ⟨D, 0, none⟩), .map (some W2.heap.size)] 79)).alloc (.cells #[.slice (some ⟨W2.heap.size + 1, 0, none⟩) 1 1, .slice none 0 0, .slice none 0 0, .slice none 0 0] 83) := ⟨_, rfl⟩
 obtain ⟨B, hB⟩ : ∃ B, B = W2.heap.size + 1 + 1 := ⟨_, rfl⟩
 have hg12 : Gr W W2 := HG1.out.trans HG2.out
 have hg23 : Gr W2 W3 := by rw [hW3]; exact gri
 have hs2 := hg12.below.size
 have hws : WS W B ⟨[([], [])], none, none, []⟩ W3 := ws_start hg12 HD2.out HG1.out.below.size HG2.out.below.size hg23 (by rw [hW3]; exact (mapAt_new W2 .u64).gr gri) (Nat.le_refl _) (R := W2.heap.size + 1) (by rw [hW3]; infer_instance) (by omega) (by rw [hW3, hB]; infer_instance) (by omega)
 rw [← hW3, ← hB]
 have HWS := hd_ hws
 have HG3 := hd_ (HG2.out.trans hg23)
 have HNB := hd_ (show g ≠ B by have h1 := HGL.out; have h2 := HG2.out.below.size; omega)
 have HR0 := hd_ (show runK f (L.drop 0) ⟨[([], [])], none, none, []⟩ = some (cnt, code) from HRUN.out)
 have HLN := hd_ HN.out
 clear hW3 hB hg12 hg23 hs2 hws HRUN HD2 HG2
 go_loopw [27] (fun i wl => ∃ (k : Nat) (s : SK), k ≤ N ∧ i = .int .i64 (k : Int) ∧ runK f (L.drop k) s = some (cnt, code) ∧ WS W B s wl ∧ wl.heap[g]? = W1.heap[g]? ∧ W1.heap.size ≤ wl.heap.size) (fun i _ => N - (intOf i).toNat)
 case atStart => exact ⟨0, _, Nat.zero_le _, rfl, HR0.out, HWS.out, HG3.out.below.block g HGL.out, HG3.out.below.size⟩
 case round =>
  obtain ⟨k, s, hk, rfl, hrn, hws, hgx, hsz⟩ := hrel
  obtain ⟨W4, rfl⟩ : ∃ W4, W4 = wr := ⟨_, rfl⟩
  have hg := hws.gr0
  have HWS4 := hd_ hws
  have HG4 := hd_ hg
  have HRN := hd_ hrn
  haveI : Old g W4 := ⟨Nat.lt_of_lt_of_le HGL.out hsz⟩
  have HGX := hd_ (fun W' (g1 : Gr W4 W') => (g1.below.block g (Old.lt (b := g) (W := W4))).trans hgx)
  have HSZ := hd_ hsz
  have hn18 : N ≤ 18 := by rw [HLN.out]; exact HL18.out
  haveI := grc_of hg
  haveI := from_of hg
  clear hrn hws hg hgx hsz HR0 HWS HG3
  by_cases hlt : k < N
  ·have HLT := hd_ hlt
   have hlt2 : (k : Int) < (N : Int) := by omega
   obtain ⟨m, hm⟩ : ∃ m, L[k]? = some m := ⟨_, List.getElem?_eq_getElem (by rw [← HLN.out]; exact hlt)⟩
   have hrn := HRN.out
   have hdr : L.drop k = m :: L.drop (k + 1) := by
    obtain ⟨h3, h4⟩ := List.getElem?_eq_some_iff.1 hm
    rw [List.drop_eq_getElem_cons h3, h4]
   rw [hdr] at hrn
   have HSM := hd_ (run_cons hrn)
   have HRW := hd_ (fun W' (g1 : Gr W4 W') => show ∀ (i : Nat) u, ([.int .i64 m.1, .bool m.2.1, .int .u64 m.2.2.num, .int .i64 m.2.2.node, .int .i64 m.2.2.o.o.k, .int .u64 m.2.2.o.o.v, .int .u64 m.2.2.o.o.t, .int .i64 m.2.2.o.o.s, .int .i64 m.2.2.o.o.a, .int .i64 m.2.2.o.o.c, .slice m.2.2.o.D m.2.2.o.n m.2.2.o.q, .int .i64 m.2.2.at_, .int .i64 m.2.2.fr, .int .i64 m.2.2.tt, .bool m.2.2.dn, .int .i64 m.2.2.gone, .int .i64 m.2.2.seq, .int .i64 m.2.2.an.code, .int .i64 m.2.2.an.done, .slice m.2.2.an.D m.2.2.an.n m.2.2.an.q] )[i]? = some u → W'.cell? ((⟨g, k * 20, none⟩ : Addr).add i) = some u from fun i u hu => by
    have := HCE.out W' (HGX.out W' g1) k m hm i u hu
    rw [Go.WideShapes.add_plain]
    simpa [momE] using this)
   have hmem := List.mem_of_getElem? hm
   have HCO := hd_ (HCK.out m hmem)
   have HMK := hd_ (HMO.out m hmem)
   clear hrn hdr hm hmem HRN
   have HROW8 := hd_ (fun (W' : World) (B8 : Nat) (h : BlockAt W' B8 (momL m).toArray 85) => show ∀ (i : Nat) u, ([.int .u64 m.2.2.num, .int .i64 m.2.2.node, .int .i64 m.2.2.o.o.k, .int .u64 m.2.2.o.o.v, .int .u64 m.2.2.o.o.t, .int .i64 m.2.2.o.o.s, .int .i64 m.2.2.o.o.a, .int .i64 m.2.2.o.o.c, .slice m.2.2.o.D m.2.2.o.n m.2.2.o.q, .int .i64 m.2.2.at_, .int .i64 m.2.2.fr, .int .i64 m.2.2.tt, .bool m.2.2.dn, .int .i64 m.2.2.gone, .int .i64 m.2.2.seq, .int .i64 m.2.2.an.code, .int .i64 m.2.2.an.done, .slice m.2.2.an.D m.2.2.an.n m.2.2.an.q] )[i]? = some u → W'.cell? ((⟨B8, 2, none⟩ : Addr).add i) = some u from fun i u hu => by
    rw [Go.WideShapes.add_plain]
    refine (bc (2 + i) h).trans ?_
    rw [Nat.add_comm 2 i]
    simpa [momL, callL] using hu)
   rcases HSM.out with ⟨e, h1, hr⟩ | ⟨s', h1, hr2⟩
   all_goals cases (step_inv h1).2
   case' inl.err ha hd hn x st hq hx hc hl =>
    have hn1 : m.2.2.node = 1 := by have h1 := HMK.out.n0; have h2 := HMK.out.n1; omega
    have hcl : (callL m.2.2).toArray = #[.int .u64 m.2.2.num, .int .i64 m.2.2.node, .int .i64 m.2.2.o.o.k, .int .u64 m.2.2.o.o.v, .int .u64 m.2.2.o.o.t, .int .i64 m.2.2.o.o.s, .int .i64 m.2.2.o.o.a, .int .i64 m.2.2.o.o.c, .slice m.2.2.o.D m.2.2.o.n m.2.2.o.q, .int .i64 m.2.2.at_, .int .i64 m.2.2.fr, .int .i64 m.2.2.tt, .bool m.2.2.dn, .int .i64 m.2.2.gone, .int .i64 m.2.2.seq, .int .i64 m.2.2.an.code, .int .i64 m.2.2.an.done, .slice m.2.2.an.D m.2.2.an.n m.2.2.an.q]  := by simp [callL]
    have HAN := hd_ (fun W' (g1 : Gr W4 W') => show Calls Tryz.prog 34 #[ptrB B, .agg #[.int .u64 m.2.2.num, .int .i64 m.2.2.node, .int .i64 m.2.2.o.o.k, .int .u64 m.2.2.o.o.v, .int .u64 m.2.2.o.o.t, .int .i64 m.2.2.o.o.s, .int .i64 m.2.2.o.o.a, .int .i64 m.2.2.o.o.c, .slice m.2.2.o.D m.2.2.o.n m.2.2.o.q, .int .i64 m.2.2.at_, .int .i64 m.2.2.fr, .int .i64 m.2.2.tt, .bool m.2.2.dn, .int .i64 m.2.2.gone, .int .i64 m.2.2.seq, .int .i64 m.2.2.an.code, .int .i64 m.2.2.an.done, .slice m.2.2.an.D m.2.2.an.n m.2.2.an.q] ] W' (fun e w' => e = .returned (.int .i64 (if (st.2.filterMap (phiM m.2.2.num m.2.2.an.m)).length = 0 then 9 else 0)) ∧ CKB B W' w' ∧ WS W B { s with ws := st.2.filterMap (phiM m.2.2.num m.2.2.an.m), q1 := none } w') by
     rw [← hcl]
     exact answered_ws (HWS4.out.grow g1) m.2.2 hn1 x st hq hx hc HCO.out)
    have HNV := hd_ (fun W' => never_any m.2.2.an.code m.2.2.an.done m.2.2.an.D m.2.2.an.n m.2.2.an.q W' (by have := (step_inv h1).1; rw [hd] at this; simpa using this))
    have HA := hd_ ha
    have HD := hd_ hd
    have HLz := hd_ hl
    have HH := hd_ hr; clear hr
    clear hcl hn1 h1 hq hx hc ha hd hn hl
   case' inr.ask0 ha hn hq =>
    have HA := hd_ ha
    have HN0 := hd_ hn
    have HR2 := hd_ hr2
    obtain ⟨ws, q0, q1, gn, wv, v0, v1, gv, hb, e1, e2, e3, e4, e5, e6, e7⟩ := HWS4.out
    obtain rfl : q0 = none := by cases q0 with
     | none => rfl
     | some x => rw [hq] at e2; cases e2
    obtain ⟨A0, n0, c0, hv0, h01, h02, h03, _⟩ := hb.w0
    obtain rfl : n0 = 0 := h03
    subst hv0
    have HB4 := hd_ hb
    have HE := hd_ (And.intro e1 (And.intro e3 (And.intro e4 (And.intro e5 (And.intro e6 e7)))))
    have hbl := hb.blk
    have HBK := hd_ hbl
    have HBC := hd_ (fun W' (g1 : Gr W4 W') => show W'.cell? ⟨B, 1, none⟩ = some (.slice A0 0 c0) from (bc 1 (HBK.out.gr g1)).trans rfl)
    cases hd : m.2.2.dn
    all_goals have HD := hd_ hd
    all_goals have HNV := hd_ (fun W' (h : m.2.2.dn = true) => never_any m.2.2.an.code m.2.2.an.done m.2.2.an.D m.2.2.an.n m.2.2.an.q W' (by have := (step_inv h1).1; rw [h] at this; simpa using this))
    all_goals clear h1 hq ha hn hd hb e1 e2 e3 e4 e5 e6 e7 hbl h01 h02 hr2
   case' inr.ask1 ha hn hq =>
    have hn : m.2.2.node = 1 := by have h1 := HMK.out.n0; have h2 := HMK.out.n1; omega
    have HA := hd_ ha
    have HN0 := hd_ hn
    have HR2 := hd_ hr2
    obtain ⟨ws, q0, q1, gn, wv, v0, v1, gv, hb, e1, e2, e3, e4, e5, e6, e7⟩ := HWS4.out
    obtain rfl : q1 = none := by cases q1 with
     | none => rfl
     | some x => rw [hq] at e3; cases e3
    obtain ⟨A0, n0, c0, hv0, h01, h02, h03, _⟩ := hb.w1
    obtain rfl : n0 = 0 := h03
    subst hv0
    have HB4 := hd_ hb
    have HE := hd_ (And.intro e1 (And.intro e2 (And.intro e4 (And.intro e5 (And.intro e6 e7)))))
    have hbl := hb.blk
    have HBK := hd_ hbl
    have HBC := hd_ (fun W' (g1 : Gr W4 W') => show W'.cell? ⟨B, 2, none⟩ = some (.slice A0 0 c0) from (bc 2 (HBK.out.gr g1)).trans rfl)
    cases hd : m.2.2.dn
    all_goals have HD := hd_ hd
    all_goals have HNV := hd_ (fun W' (h : m.2.2.dn = true) => never_any m.2.2.an.code m.2.2.an.done m.2.2.an.D m.2.2.an.n m.2.2.an.q W' (by have := (step_inv h1).1; rw [h] at this; simpa using this))
    all_goals clear h1 hq ha hn hd hb e1 e2 e3 e4 e5 e6 e7 hbl h01 h02 hr2
   case' inr.ans ha hd hn x st hq hx hc hl =>
    have hn1 : m.2.2.node = 1 := by have h1 := HMK.out.n0; have h2 := HMK.out.n1; omega
    have hcl : (callL m.2.2).toArray = #[.int .u64 m.2.2.num, .int .i64 m.2.2.node, .int .i64 m.2.2.o.o.k, .int .u64 m.2.2.o.o.v, .int .u64 m.2.2.o.o.t, .int .i64 m.2.2.o.o.s, .int .i64 m.2.2.o.o.a, .int .i64 m.2.2.o.o.c, .slice m.2.2.o.D m.2.2.o.n m.2.2.o.q, .int .i64 m.2.2.at_, .int .i64 m.2.2.fr, .int .i64 m.2.2.tt, .bool m.2.2.dn, .int .i64 m.2.2.gone, .int .i64 m.2.2.seq, .int .i64 m.2.2.an.code, .int .i64 m.2.2.an.done, .slice m.2.2.an.D m.2.2.an.n m.2.2.an.q]  := by simp [callL]
    have HAN := hd_ (fun W' (g1 : Gr W4 W') => show Calls Tryz.prog 34 #[ptrB B, .agg #[.int .u64 m.2.2.num, .int .i64 m.2.2.node, .int .i64 m.2.2.o.o.k, .int .u64 m.2.2.o.o.v, .int .u64 m.2.2.o.o.t, .int .i64 m.2.2.o.o.s, .int .i64 m.2.2.o.o.a, .int .i64 m.2.2.o.o.c, .slice m.2.2.o.D m.2.2.o.n m.2.2.o.q, .int .i64 m.2.2.at_, .int .i64 m.2.2.fr, .int .i64 m.2.2.tt, .bool m.2.2.dn, .int .i64 m.2.2.gone, .int .i64 m.2.2.seq, .int .i64 m.2.2.an.code, .int .i64 m.2.2.an.done, .slice m.2.2.an.D m.2.2.an.n m.2.2.an.q] ] W' (fun e w' => e = .returned (.int .i64 (if (st.2.filterMap (phiM m.2.2.num m.2.2.an.m)).length = 0 then 9 else 0)) ∧ CKB B W' w' ∧ WS W B { s with ws := st.2.filterMap (phiM m.2.2.num m.2.2.an.m), q1 := none } w') by
     rw [← hcl]
     exact answered_ws (HWS4.out.grow g1) m.2.2 hn1 x st hq hx hc HCO.out)
    have HNV := hd_ (fun W' => never_any m.2.2.an.code m.2.2.an.done m.2.2.an.D m.2.2.an.n m.2.2.an.q W' (by have := (step_inv h1).1; rw [hd] at this; simpa using this))
    have HA := hd_ ha
    have HD := hd_ hd
    have HLz := hd_ hl
    have HR2 := hd_ hr2; clear hr2
    clear hcl hn1 h1 hq hx hc ha hd hn hl
   case' inr.left ha hd hn x hq hx hg =>
    have hcl : (callL m.2.2).toArray = #[.int .u64 m.2.2.num, .int .i64 m.2.2.node, .int .i64 m.2.2.o.o.k, .int .u64 m.2.2.o.o.v, .int .u64 m.2.2.o.o.t, .int .i64 m.2.2.o.o.s, .int .i64 m.2.2.o.o.a, .int .i64 m.2.2.o.o.c, .slice m.2.2.o.D m.2.2.o.n m.2.2.o.q, .int .i64 m.2.2.at_, .int .i64 m.2.2.fr, .int .i64 m.2.2.tt, .bool m.2.2.dn, .int .i64 m.2.2.gone, .int .i64 m.2.2.seq, .int .i64 m.2.2.an.code, .int .i64 m.2.2.an.done, .slice m.2.2.an.D m.2.2.an.n m.2.2.an.q]  := by simp [callL]
    have HLF := hd_ (fun W' (g1 : Gr W4 W') => show Calls Tryz.prog 33 #[ptrB B, .agg #[.int .u64 m.2.2.num, .int .i64 m.2.2.node, .int .i64 m.2.2.o.o.k, .int .u64 m.2.2.o.o.v, .int .u64 m.2.2.o.o.t, .int .i64 m.2.2.o.o.s, .int .i64 m.2.2.o.o.a, .int .i64 m.2.2.o.o.c, .slice m.2.2.o.D m.2.2.o.n m.2.2.o.q, .int .i64 m.2.2.at_, .int .i64 m.2.2.fr, .int .i64 m.2.2.tt, .bool m.2.2.dn, .int .i64 m.2.2.gone, .int .i64 m.2.2.seq, .int .i64 m.2.2.an.code, .int .i64 m.2.2.an.done, .slice m.2.2.an.D m.2.2.an.n m.2.2.an.q] ] W' (fun e w' => e = .returned (.tuple #[]) ∧ CKB B W' w' ∧ WS W B { s with q0 := none, gn := [cp m.2.2] } w') by
     rw [← hcl]
     exact left_ws (HWS4.out.grow g1) m.2.2 hn x hq hx hg HCO.out)
    have HA := hd_ ha
    have HD := hd_ hd
    have HR2 := hd_ hr2
    clear hcl h1 hq hx hg ha hd hn hr2
   all_goals (go_wp2_with (first
    | (refine wpLoadCs rfl _ _ rfl ⟨g, k * 20, none⟩ ([.int .i64 m.1, .bool m.2.1, .int .u64 m.2.2.num, .int .i64 m.2.2.node, .int .i64 m.2.2.o.o.k, .int .u64 m.2.2.o.o.v, .int .u64 m.2.2.o.o.t, .int .i64 m.2.2.o.o.s, .int .i64 m.2.2.o.o.a, .int .i64 m.2.2.o.o.c, .slice m.2.2.o.D m.2.2.o.n m.2.2.o.q, .int .i64 m.2.2.at_, .int .i64 m.2.2.fr, .int .i64 m.2.2.tt, .bool m.2.2.dn, .int .i64 m.2.2.gone, .int .i64 m.2.2.seq, .int .i64 m.2.2.an.code, .int .i64 m.2.2.an.done, .slice m.2.2.an.D m.2.2.an.n m.2.2.an.q] ) _ rfl Tryz.underlying85 rfl (by kernel_rfl) (HRW.out _ gri) ?_)
    | (refine wpList_storeMom (W0 := W4) rfl _ _ rfl W4.heap.size m _ rfl rfl inferInstance rfl gri (Nat.le_refl _) ?_; obtain ⟨B8, hB8⟩ : ∃ B8, B8 = W4.heap.size := ⟨_, rfl⟩; rw [← hB8]; intro W7 g7 b8; have G7 := hd_ g7; have HB8 := hd_ b8; have HR7 := hd_ (fun W' (g1 : Gr W7 W') => HROW8.out W' B8 (b8.gr g1)); haveI := b8.old; haveI := grc_of g7; haveI := from_of g7; clear hB8 g7 b8)
    | (refine wpLoadCs rfl _ _ rfl ⟨B8, 2, none⟩ ([.int .u64 m.2.2.num, .int .i64 m.2.2.node, .int .i64 m.2.2.o.o.k, .int .u64 m.2.2.o.o.v, .int .u64 m.2.2.o.o.t, .int .i64 m.2.2.o.o.s, .int .i64 m.2.2.o.o.a, .int .i64 m.2.2.o.o.c, .slice m.2.2.o.D m.2.2.o.n m.2.2.o.q, .int .i64 m.2.2.at_, .int .i64 m.2.2.fr, .int .i64 m.2.2.tt, .bool m.2.2.dn, .int .i64 m.2.2.gone, .int .i64 m.2.2.seq, .int .i64 m.2.2.an.code, .int .i64 m.2.2.an.done, .slice m.2.2.an.D m.2.2.an.n m.2.2.an.q] ) _ rfl Tryz.underlying51 rfl (by kernel_rfl) (HR7.out _ gri) ?_)
    | (refine wp_storeCall (W0 := W7) rfl _ _ rfl W7.heap.size m.2.2 _ rfl rfl inferInstance rfl gri (Nat.le_refl _) ?_; obtain ⟨B9, hB9⟩ : ∃ B9, B9 = W7.heap.size := ⟨_, rfl⟩; rw [← hB9]; intro W10 g10 b9; have c1 : W10.cell? ⟨B8, 1, none⟩ = some (.bool m.2.1) := (bc 1 (HB8.out.gr g10)).trans rfl; have d12 : W10.cell? ⟨B9, 12, none⟩ = some (.bool m.2.2.dn) := (bc 12 b9).trans rfl; have d1 : W10.cell? ⟨B9, 1, none⟩ = some (.int .i64 m.2.2.node) := (bc 1 b9).trans rfl; have d15 : W10.cell? ⟨B9, 15, none⟩ = some (.int .i64 m.2.2.an.code) := (bc 15 b9).trans rfl; have d16 : W10.cell? ⟨B9, 16, none⟩ = some (.int .i64 m.2.2.an.done) := (bc 16 b9).trans rfl; have d17 : W10.cell? ⟨B9, 17, none⟩ = some (.slice m.2.2.an.D m.2.2.an.n m.2.2.an.q) := (bc 17 b9).trans rfl; rw [HA.out] at c1; rw [HD.out] at d12; have HB9 := hd_ b9; have HR10 := hd_ (fun W' (g1 : Gr W10 W') => show ∀ (i : Nat) u, ([.int .u64 m.2.2.num, .int .i64 m.2.2.node, .int .i64 m.2.2.o.o.k, .int .u64 m.2.2.o.o.v, .int .u64 m.2.2.o.o.t, .int .i64 m.2.2.o.o.s, .int .i64 m.2.2.o.o.a, .int .i64 m.2.2.o.o.c, .slice m.2.2.o.D m.2.2.o.n m.2.2.o.q, .int .i64 m.2.2.at_, .int .i64 m.2.2.fr, .int .i64 m.2.2.tt, .bool m.2.2.dn, .int .i64 m.2.2.gone, .int .i64 m.2.2.seq, .int .i64 m.2.2.an.code, .int .i64 m.2.2.an.done, .slice m.2.2.an.D m.2.2.an.n m.2.2.an.q] )[i]? = some u → W'.cell? ((⟨B9, 0, none⟩ : Addr).add i) = some u from fun i u hu => by rw [Go.WideShapes.add_plain, Nat.zero_add]; exact (bc i (HB9.out.gr g1)).trans (by simpa [callL] using hu)); haveI := b9.old; haveI := (HB8.out.gr g10).old; have G10 := hd_ (G7.out.trans g10); haveI := grc_of (G7.out.trans g10); haveI := from_of (G7.out.trans g10); clear hB9 g10 b9)
    | (refine wpLoadCs rfl _ _ rfl ⟨B9, 0, none⟩ ([.int .u64 m.2.2.num, .int .i64 m.2.2.node, .int .i64 m.2.2.o.o.k, .int .u64 m.2.2.o.o.v, .int .u64 m.2.2.o.o.t, .int .i64 m.2.2.o.o.s, .int .i64 m.2.2.o.o.a, .int .i64 m.2.2.o.o.c, .slice m.2.2.o.D m.2.2.o.n m.2.2.o.q, .int .i64 m.2.2.at_, .int .i64 m.2.2.fr, .int .i64 m.2.2.tt, .bool m.2.2.dn, .int .i64 m.2.2.gone, .int .i64 m.2.2.seq, .int .i64 m.2.2.an.code, .int .i64 m.2.2.an.done, .slice m.2.2.an.D m.2.2.an.n m.2.2.an.q] ) _ rfl Tryz.underlying51 rfl (by kernel_rfl) (HR10.out _ gri) ?_)
    | (go_at_call 31; ((first | (with_reducible refine (HNV.out _).mono ?_) | (with_reducible refine (HNV.out _ HD.out).mono ?_)); rintro _ _ ⟨rfl, ⟨g11, rfl⟩⟩))
    | (go_at_call 34; ((with_reducible refine (HAN.out _ gri).mono ?_); rintro _ W12 ⟨rfl, hk12, hws12⟩; (first | rw [if_pos HLz.out] | rw [if_neg HLz.out]); have hgx12 : W12.heap[g]? = W1.heap[g]? := (by obtain ⟨cs, hcs⟩ := HGB.out; exact (hk12.2 g cs _ _ HNB.out ((HGX.out _ gri).trans hcs)).trans (HGX.out _ gri)); have hsz12 : W1.heap.size ≤ W12.heap.size := Nat.le_trans HSZ.out (Nat.le_trans (gri : Gr W4 _).below.size hk12.1); have HGX12 := hd_ hgx12; have HSZ12 := hd_ hsz12; have HWS12 := hd_ hws12; clear hgx12 hsz12 hws12 hk12))
    | (go_at_call 33; ((with_reducible refine (HLF.out _ gri).mono ?_); rintro _ W12 ⟨rfl, hk12, hws12⟩; have hgx12 : W12.heap[g]? = W1.heap[g]? := (by obtain ⟨cs, hcs⟩ := HGB.out; exact (hk12.2 g cs _ _ HNB.out ((HGX.out _ gri).trans hcs)).trans (HGX.out _ gri)); have hsz12 : W1.heap.size ≤ W12.heap.size := Nat.le_trans HSZ.out (Nat.le_trans (gri : Gr W4 _).below.size hk12.1); have HGX12 := hd_ hgx12; have HSZ12 := hd_ hsz12; have HWS12 := hd_ hws12; clear hgx12 hsz12 hws12 hk12))))
   iterate 2
    ·go_roundw
     case rel => exact ⟨k + 1, _, HLT.out, by go_num, HR2.out, HWS12.out, HGX12.out, HSZ12.out⟩
     case measure => have := HLT.out; simp [intOf]; omega
   iterate 2
    ·rw [HN0.out] at d1
     have k1 := HBC.out _ G10.out
     haveI := (HBK.out.gr G10.out).old
     refine wp_region_treeT (inCls_ghost _) (Cls.none _) ⟨Gr.of ((Below.refl _ _).drew), trivial⟩ [0, 1, 2, 3, 4, 5, 6, 7, 8, 9, 10, 11, 14, 15] 3 17 (by kernel_rfl) (by kernel_rfl) ?_
     simp only [pick, List.drop, List.take, List.nil_append, List.cons_append]
     repeat (refine wpCalm_step (fun K hK => ?_); go_simp; first | (refine hK _ ?_; clear hK K) | (apply Exists.intro; refine ⟨fun _ => ?_, hK _ ?_⟩; ((go_at_call 32; exact clip0 _ _ _)); clear hK K))
     refine wpCalm_load rfl rfl rfl (HB9.out.gr gri) Tryz.underlying51 rfl (by kernel_rfl) ?_
     repeat (refine wpCalm_step (fun K hK => ?_); go_simp; first | (refine hK _ ?_; clear hK K) | (apply Exists.intro; refine ⟨fun _ => ?_, hK _ ?_⟩; (skip); clear hK K))
     refine wpCalm_nil ?_
     refine ft_one 12 (by kernel_rfl) (by omega) ?_
     refine fe_effD rfl rfl rfl fun w4 hw4 => effAt_ok (.slice (some ⟨w4.heap.size, 0, none⟩) 1 1) (w' := w4.alloc (.cells (callL m.2.2).toArray 51)) (by go_simp) ?_
     obtain ⟨B2, hB2⟩ : ∃ B2, B2 = w4.heap.size := ⟨_, rfl⟩
     have hbB : BlockAt (w4.alloc (.cells (callL m.2.2).toArray 51)) B2 (callL m.2.2).toArray 51 := by rw [hB2]; infer_instance
     rw [← hB2]
     refine ⟨⟨fun w' => BlockAt w' B2 (callL m.2.2).toArray 51, fun a b h g => h.gr g⟩, ⟨hw4.1.trans gri, hbB⟩, ?_⟩
     clear hw4 hB2 hbB w4
     try simp only [Act.put, stA, List.set]
     refine ft_one 13 (by kernel_rfl) (by omega) ?_
     refine fe_effD rfl rfl rfl fun w4 hw4 => effAt_append_e0 _ _ rfl A0 B2 0 1 m.2.2 rfl rfl (cellsN_call hw4.2) hw4.1.below.size ?_
     intro va Wa ha
     refine ⟨⟨fun w' => QAt w' va (some m.2.2), fun a b h g => h.gr g⟩, ⟨hw4.1.trans_below ha.below, qat_app ha⟩, ?_⟩
     clear ha hw4 Wa w4
     try simp only [Act.put, stA, List.set]
     refine ft_one 16 (by kernel_rfl) (by omega) ?_
     refine fe_effD rfl rfl rfl fun w4 hw4 => effAt_ok (.pointer (some ⟨B, 2, none⟩)) (w' := w4) (by go_simp) ⟨_, hw4, ?_⟩
     clear hw4 w4
     try simp only [Act.put, stA, List.set]
     refine ft_end ⟨by kernel_rfl, fun w9 hw9 => ?_⟩
     try simp only [List.drop_succ_cons, List.drop_zero]
     have hbk := (HB4.out.grow (G10.out.trans (Gr.trans gri hw9.1))).set1 hw9.2 (fun x hx => by simp only [Option.mem_toList, Option.some.injEq] at hx; subst hx; exact HCO.out)
     obtain ⟨A9, n9, c9, hv9, hq9⟩ := hw9.2
     subst hv9
     obtain ⟨W12, hW12⟩ : ∃ W12, W12 = w9.setCell ⟨B, 2, none⟩ (.slice A9 n9 c9) := ⟨_, rfl⟩
     have hrun9 := run_storeBc 2 n9 c9 A9 (HB4.out.grow (G10.out.trans (Gr.trans gri hw9.1))).blk rfl
     rw [← hW12] at hbk hrun9
     have HWS12 := hd_ (show WS W B { s with q1 := some (cp m.2.2) } W12 from ⟨ws, q0, some m.2.2, gn, wv, v0, .slice A9 n9 c9, gv, hbk, HE.out.1, HE.out.2.1, rfl, HE.out.2.2.1, HE.out.2.2.2.1, HE.out.2.2.2.2.1, HE.out.2.2.2.2.2⟩)
     have hgx12 : W12.heap[g]? = W1.heap[g]? := by rw [hW12]; exact (Below.heap_setCell w9 ⟨B, 2, none⟩ _ g HNB.out).trans (HGX.out _ (G10.out.trans (Gr.trans gri hw9.1)))
     have hsz12 : W1.heap.size ≤ W12.heap.size := by rw [hW12]; simp only [World.size_setCell]; exact Nat.le_trans HSZ.out (G10.out.trans (Gr.trans gri hw9.1)).below.size
     have HGX12 := hd_ hgx12
     have HSZ12 := hd_ hsz12
     clear hbk hgx12 hsz12 hW12 hw9 hq9
     refine wpStoreG rfl _ _ rfl ⟨B, 2, none⟩ _ rfl rfl W12 hrun9 ?_
     clear hrun9 w9
     go_wp2
     go_roundw
     case rel => exact ⟨k + 1, _, HLT.out, by go_num, HR2.out, HWS12.out, HGX12.out, HSZ12.out⟩
     case measure => have := HLT.out; simp [intOf]; omega
   iterate 2
    ·rw [HN0.out] at d1
     have k1 := HBC.out _ G10.out
     haveI := (HBK.out.gr G10.out).old
     refine wp_region_treeT (inCls_ghost _) (Cls.none _) ⟨Gr.of ((Below.refl _ _).drew), trivial⟩ [0, 1, 2, 3, 4, 5, 6, 7, 8, 9, 10, 11, 14, 15] 3 17 (by kernel_rfl) (by kernel_rfl) ?_
     simp only [pick, List.drop, List.take, List.nil_append, List.cons_append]
     repeat (refine wpCalm_step (fun K hK => ?_); go_simp; first | (refine hK _ ?_; clear hK K) | (apply Exists.intro; refine ⟨fun _ => ?_, hK _ ?_⟩; ((go_at_call 32; exact clip0 _ _ _)); clear hK K))
     refine wpCalm_load rfl rfl rfl (HB9.out.gr gri) Tryz.underlying51 rfl (by kernel_rfl) ?_
     repeat (refine wpCalm_step (fun K hK => ?_); go_simp; first | (refine hK _ ?_; clear hK K) | (apply Exists.intro; refine ⟨fun _ => ?_, hK _ ?_⟩; (skip); clear hK K))
     refine wpCalm_nil ?_
     refine ft_one 12 (by kernel_rfl) (by omega) ?_
     refine fe_effD rfl rfl rfl fun w4 hw4 => effAt_ok (.slice (some ⟨w4.heap.size, 0, none⟩) 1 1) (w' := w4.alloc (.cells (callL m.2.2).toArray 51)) (by go_simp) ?_
     obtain ⟨B2, hB2⟩ : ∃ B2, B2 = w4.heap.size := ⟨_, rfl⟩
     have hbB : BlockAt (w4.alloc (.cells (callL m.2.2).toArray 51)) B2 (callL m.2.2).toArray 51 := by rw [hB2]; infer_instance
     rw [← hB2]
     refine ⟨⟨fun w' => BlockAt w' B2 (callL m.2.2).toArray 51, fun a b h g => h.gr g⟩, ⟨hw4.1.trans gri, hbB⟩, ?_⟩
     clear hw4 hB2 hbB w4
     try simp only [Act.put, stA, List.set]
     refine ft_one 13 (by kernel_rfl) (by omega) ?_
     refine fe_effD rfl rfl rfl fun w4 hw4 => effAt_append_e0 _ _ rfl A0 B2 0 1 m.2.2 rfl rfl (cellsN_call hw4.2) hw4.1.below.size ?_
     intro va Wa ha
     refine ⟨⟨fun w' => QAt w' va (some m.2.2), fun a b h g => h.gr g⟩, ⟨hw4.1.trans_below ha.below, qat_app ha⟩, ?_⟩
     clear ha hw4 Wa w4
     try simp only [Act.put, stA, List.set]
     refine ft_one 16 (by kernel_rfl) (by omega) ?_
     refine fe_effD rfl rfl rfl fun w4 hw4 => effAt_ok (.pointer (some ⟨B, 1, none⟩)) (w' := w4) (by go_simp) ⟨_, hw4, ?_⟩
     clear hw4 w4
     try simp only [Act.put, stA, List.set]
     refine ft_end ⟨by kernel_rfl, fun w9 hw9 => ?_⟩
     try simp only [List.drop_succ_cons, List.drop_zero]
     have hbk := (HB4.out.grow (G10.out.trans (Gr.trans gri hw9.1))).set0 hw9.2 (fun x hx => by simp only [Option.mem_toList, Option.some.injEq] at hx; subst hx; exact HCO.out)
     obtain ⟨A9, n9, c9, hv9, hq9⟩ := hw9.2
     subst hv9
     obtain ⟨W12, hW12⟩ : ∃ W12, W12 = w9.setCell ⟨B, 1, none⟩ (.slice A9 n9 c9) := ⟨_, rfl⟩
     have hrun9 := run_storeBc 1 n9 c9 A9 (HB4.out.grow (G10.out.trans (Gr.trans gri hw9.1))).blk rfl
     rw [← hW12] at hbk hrun9
     have HWS12 := hd_ (show WS W B { s with q0 := some (cp m.2.2) } W12 from ⟨ws, some m.2.2, q1, gn, wv, .slice A9 n9 c9, v1, gv, hbk, HE.out.1, rfl, HE.out.2.1, HE.out.2.2.1, HE.out.2.2.2.1, HE.out.2.2.2.2.1, HE.out.2.2.2.2.2⟩)
     have hgx12 : W12.heap[g]? = W1.heap[g]? := by rw [hW12]; exact (Below.heap_setCell w9 ⟨B, 1, none⟩ _ g HNB.out).trans (HGX.out _ (G10.out.trans (Gr.trans gri hw9.1)))
     have hsz12 : W1.heap.size ≤ W12.heap.size := by rw [hW12]; simp only [World.size_setCell]; exact Nat.le_trans HSZ.out (G10.out.trans (Gr.trans gri hw9.1)).below.size
     have HGX12 := hd_ hgx12
     have HSZ12 := hd_ hsz12
     clear hbk hgx12 hsz12 hW12 hw9 hq9
     refine wpStoreG rfl _ _ rfl ⟨B, 1, none⟩ _ rfl rfl W12 hrun9 ?_
     clear hrun9 w9
     go_wp2
     go_roundw
     case rel => exact ⟨k + 1, _, HLT.out, by go_num, HR2.out, HWS12.out, HGX12.out, HSZ12.out⟩
     case measure => have := HLT.out; simp [intOf]; omega
   ·refine bodyPost_ret (results_tmp2 rfl _ _ _) rfl ?_
    have e1 := congrArg Prod.fst HH.out
    have e2 := congrArg Prod.snd HH.out
    simp only at e1 e2
    rw [e1, e2]
    exact ⟨rfl, HWS12.out.gr0⟩
  ·have : k = N := by omega
   subst this
   have hrn := HRN.out
   rw [List.drop_eq_nil_of_le (by rw [HLN.out]; exact Nat.le_refl _)] at hrn
   obtain ⟨ws, q0, q1, gn, wv, v0, v1, gv, hb, h1, h2, h3, h4, h5, h6, h7⟩ := HWS4.out
   have hcnt : (ws.length : Int) = (cnt : Int) ∧ (0 : Int) = code := by
    have := Option.some.inj hrn
    have e1 := congrArg Prod.fst this
    have e2 := congrArg Prod.snd this
    simp only at e1 e2
    rw [← h1, List.length_map] at e1
    exact ⟨by rw [← e1], e2⟩
   have HCNT := hd_ hcnt
   obtain ⟨Aw, cw, hvw, _, _, _⟩ := hb.own.form wrIs
   obtain ⟨nw, hnw⟩ : ∃ nw, nw = ws.length := ⟨_, rfl⟩
   rw [← hnw] at hvw
   subst hvw
   have HNW2 := hd_ hnw
   have b0 : W4.cell? ⟨B, 0, none⟩ = some (.slice Aw nw cw) := (bc 0 hb.blk).trans rfl
   haveI := hb.blk.old
   clear hnw hcnt hrn h1 h2 h3 h4 h5 h6 h7 hb
   go_wp2
   refine bodyPost_ret (results_tmp2 rfl _ _ _) rfl ?_
   exact ⟨by rw [← HCNT.out.1, ← HCNT.out.2, HNW2.out]; rfl, HG4.out⟩
theorem gr_app1 {α : Type} {e : EK α} {base : Nat} {W W' : World} {v v' : Value} {xs ys : List α} (h : AppN e base W v xs ys v' W') (h0 : v.ownBlock = none) : Gr W W' :=
 Gr.of ((Below.refl _ _).grown h.gb (Nat.le_refl _) (fun q hq => by rw [h0] at hq; cases hq))
theorem devOk_take {d : Dev} (h : DevOk d) (k : Nat) : DevOk (d.take k) := ⟨h.sort.sublist (List.take_sublist _ _), fun p hp => h.keys p (List.mem_of_mem_take hp), fun p hp => h.vols p (List.mem_of_mem_take hp)⟩
theorem rvF_ext {d : Dev} {vf vf' : Int → Value} (h : ∀ p ∈ d, vf p.1 = vf' p.1) : d.map (rvF vf) = d.map (rvF vf') := List.map_congr_left fun p hp => by rw [rvF, rvF, h p hp]
theorem sort_ne {d : Dev} (hs : SortK d) {k : Nat} {n : Int} {x : VolM} (h : d[k]? = some (n, x)) {p : Int × VolM} (hp : p ∈ d.take k) : p.1 ≠ n := by
 obtain ⟨j, hj⟩ := List.mem_iff_getElem?.1 hp
 rw [List.getElem?_take] at hj
 split at hj
 ·rename_i hlt
  obtain ⟨h1, e1⟩ := List.getElem?_eq_some_iff.1 hj
  obtain ⟨h2, e2⟩ := List.getElem?_eq_some_iff.1 h
  have := List.pairwise_iff_getElem.1 hs j k h1 h2 hlt
  rw [e1, e2] at this
  intro e
  rw [e] at this
  omega
 ·cases hj
theorem rcopy_any (base R : Nat) (d : Dev) (w : World) (h : RefAt base w R d) (hd : d.length ≤ 1000) : Calls Tryz.prog 27 #[.pointer (some ⟨R, 0, none⟩)] w fun e w' => ∃ R2, e = .returned (.pointer (some ⟨R2, 0, none⟩)) ∧ RefAt w.heap.size w' R2 d ∧ Gr w w' := by
 obtain ⟨v, vf, h⟩ := h
 obtain ⟨A, c, hv, hc1, hc2, hc3, hrow⟩ := h.nilv
 subst hv
 obtain ⟨n, hn⟩ : ∃ n, n = d.length := ⟨_, rfl⟩
 rw [← hn] at h hc1 hd
 haveI := h.blk
 have x0 : w.cell? ⟨R, 0, none⟩ = some (.slice A n c) := (bc 0 h.blk).trans rfl
 haveI : Old R w := h.blk.old
 have HD := hd_ h
 have HN := hd_ hn
 have HR := hd_ hrow
 have hok := h.ok
 have HOK := hd_ hok
 clear h hrow hn hok
 go_enter Tryz.func27, Tryz.ntmps27
 go_wp2
 go_loopw [4] (fun i wr => ∃ (k : Nat) (v2 : Value) (vf2 : Int → Value), k ≤ n ∧ i = .int .i64 (k : Int) ∧ RefIn w.heap.size wr w.heap.size v2 vf2 (d.take k) ∧ Gr w wr) (fun i _ => n - (intOf i).toNat)
 case atStart => exact ⟨0, .slice none 0 0, vf, Nat.zero_le _, rfl, ⟨inferInstance, OwnN.nil _ _, by simp, Nat.le_refl _, ⟨List.Pairwise.nil, by simp, by simp⟩⟩, gri⟩
 case round =>
  obtain ⟨k, v2, vf2, hk, rfl, hd2, hg⟩ := hrel
  haveI := grc_of hg
  haveI := from_of hg
  have HG := hd_ hg
  have HD2 := hd_ hd2
  haveI := hd2.blk
  obtain ⟨A2, c2, hv2, hc21, hc22, hc23, hrow2⟩ := hd2.nilv
  have hl2 : (d.take k).length = k := by rw [List.length_take, ← HN.out]; omega
  rw [hl2] at hv2 hc21
  subst hv2
  have y0 : wr.cell? ⟨w.heap.size, 0, none⟩ = some (.slice A2 k c2) := (bc 0 hd2.blk).trans rfl
  haveI : Old w.heap.size wr := hd2.blk.old
  have x1 : wr.cell? ⟨R, 0, none⟩ = some (.slice A n c) := (bc 0 (HD.out.blk.gr HG.out)).trans rfl
  haveI : Old R wr := (HD.out.blk.gr HG.out).old
  clear hg hd2 hrow2
  by_cases hlt : k < n
  ·obtain ⟨p, hp⟩ : ∃ p, d[k]? = some p := ⟨_, List.getElem?_eq_getElem (by rw [← HN.out]; exact hlt)⟩
   obtain ⟨g, cc, hvg, hb1, hb2, hb3, hb4, hb5, hb6, hb7⟩ := HD.out.form (by rintro rfl; have := HN.out; simp at this; omega)
   cases hvg
   obtain ⟨e0, e1, e2⟩ := hb7 k p hp
   obtain ⟨Am, cm, hvm, hm1, hm2, hm3, hm4⟩ := (HD.out.vol p (List.mem_of_getElem? hp)).row
   obtain ⟨num, sz, m⟩ := p
   simp only at e0 e1 e2 hvm hm1
   rw [hvm] at e2
   have hcell : ∀ (j : Nat) v, w.cell? ⟨g, j, none⟩ = some v → wr.cell? ⟨g, j, none⟩ = some v := fun j v h => (HG.out.below.cell (p := ⟨g, j, none⟩) hb2).trans h
   have f0 := hcell _ _ e0
   have f1 := hcell _ _ e1
   have f2 := hcell _ _ e2
   simp only [Nat.add_zero] at f0
   haveI : Old g wr := old_of_cell f0
   obtain ⟨ml, hml⟩ : ∃ ml, ml = m.length := ⟨_, rfl⟩
   rw [← hml] at f2 hm1 hvm
   have HML := hd_ hml
   have HM4 := hd_ hm4
   have HP := hd_ hp
   have HVM := hd_ hvm
   have hvok := HOK.out.vols _ (List.mem_of_getElem? hp)
   have hm100 : ml ≤ 1000000 := by
    rw [hml]
    have := vols_len hvok
    simp only at *
    omega
   clear hcell e0 e1 e2 hm4 hml hp hvm hb7 hb6 hvok
   go_wp2_with (first | (at_builtin; refine wp_append_x (base := w.heap.size) (v := .slice none 0 0) (xs := []) rbIs rfl _ _ rfl rfl (OwnN.nil _ _) Am m ml cm HML.out.symm rfl hm3 (HM4.out.gr (HG.out.trans gri)) (by have := HML.out; simp; omega) past ?_; intro v1 W1 h1; obtain ⟨g5, rfl⟩ := gr_app1 h1 rfl; obtain ⟨A1, c1, hv1, hq1, hq2, _⟩ := h1.own.form rbIs; simp only [List.nil_append] at hv1; rw [← HML.out] at hv1; subst hv1; have H1 := hd_ h1; clear h1))
   obtain ⟨W5, hW5⟩ : ∃ W5, W5 = ((grown (wr.alloc (.cells #[.int .u64 num, .int .i64 sz, .slice Am ml cm] 102)) g5).setCell ⟨wr.heap.size, 2, none⟩ (.slice A1 ml c1)) := ⟨_, rfl⟩
   have hgr5 : Gr wr W5 := by rw [hW5]; exact gri
   have hV5 : BlockAt W5 wr.heap.size #[.int .u64 num, .int .i64 sz, .slice A1 ml c1] 102 := by
    rw [hW5]
    show BlockAt _ _ (#[.int .u64 num, .int .i64 sz, .slice Am ml cm].setIfInBounds 2 _) _
    infer_instance
   have hO5 : OwnN rbE w.heap.size W5 (.slice A1 ml c1) m := by
    rw [hW5]
    exact OwnN.set_ (hB := (inferInstance : BlockAt (grown (wr.alloc (.cells #[.int .u64 num, .int .i64 sz, .slice Am ml cm] 102)) g5) wr.heap.size #[.int .u64 num, .int .i64 sz, .slice Am ml cm] 102)) H1.out.own _ _ _ (by decide)
   have hR5 := HD2.out.gr hgr5
   rw [← hW5]
   have HG5 := hd_ (HG.out.trans hgr5)
   have HO5 := hd_ hO5.blkS
   have HR5 := hd_ hR5
   have HS5 := hd_ hgr5.below.size
   have HB5 := hd_ hR5.blk
   have HV5 := hd_ hV5
   clear hgr5 hV5 hO5 hR5 hW5 H1 HM4
   refine wp_region_planT ⟨fun w' => BlockAt w' w.heap.size #[.slice A2 k c2] 35 ∧ BlockAt w' wr.heap.size #[.int .u64 num, .int .i64 sz, .slice A1 ml c1] 102, fun w' => Gr W5 w'⟩ ⟨HB5.out.gr gri, HV5.out.gr gri⟩ gri 8 [(true, 0), (true, 1), (true, 2), (true, 3), (true, 4), (true, 5), (false, 6), (false, 7)] (by kernel_rfl) (by kernel_rfl) ?_
   simp only [pickP, pick, List.drop, List.take, List.nil_append, List.cons_append, List.map_cons, List.map_nil]
   refine p_same (.pointer (some ⟨w.heap.size, 0, none⟩)) rfl rfl (fun w1 hj => by go_simp) ?_
   simp only [Act.put, stA, List.set]
   refine p_same (.pointer (some ⟨w.heap.size, 0, none⟩)) rfl rfl (fun w1 hj => by go_simp) ?_
   simp only [Act.put, stA, List.set]
   refine p_same (.pointer (some ⟨w.heap.size, 0, none⟩)) rfl rfl (fun w1 hj => by go_simp) ?_
   simp only [Act.put, stA, List.set]
   refine p_same (.pointer (some ⟨w.heap.size, 0, none⟩)) rfl rfl (fun w1 hj => by go_simp) ?_
   simp only [Act.put, stA, List.set]
   refine p_same (.slice A2 k c2) rfl rfl (fun w1 hj => by have x1 : w1.cell? ⟨w.heap.size, 0, none⟩ = some (.slice A2 k c2) := (bc 0 hj.1).trans rfl; go_simp) ?_
   simp only [Act.put, stA, List.set]
   refine p_same (.agg #[.int .u64 num, .int .i64 sz, .slice A1 ml c1]) rfl rfl (fun w1 hj => by have x1 : w1.cell? ⟨wr.heap.size, 0, none⟩ = some (.int .u64 num) := (bc 0 hj.2).trans rfl; have x2 : w1.cell? ⟨wr.heap.size, 1, none⟩ = some (.int .i64 sz) := (bc 1 hj.2).trans rfl; have x3 : w1.cell? ⟨wr.heap.size, 2, none⟩ = some (.slice A1 ml c1) := (bc 2 hj.2).trans rfl; go_simp) ?_
   simp only [Act.put, stA, List.set]
   refine p_eff rfl rfl (fun w1 hj he => effAt_of (v := .slice (some ⟨w1.heap.size, 0, none⟩) 1 1) (w' := w1.alloc (.cells #[.int .u64 num, .int .i64 sz, .slice A1 ml c1] 102)) (by go_simp) ?_)
   obtain ⟨B, hB⟩ : ∃ B, B = w1.heap.size := ⟨_, rfl⟩
   refine ⟨⟨fun w' => BlockAt w' w.heap.size #[.slice A2 k c2] 35 ∧ BlockAt w' wr.heap.size #[.int .u64 num, .int .i64 sz, .slice A1 ml c1] 102, fun w' => Gr W5 w' ∧ BlockAt w' B #[.int .u64 num, .int .i64 sz, .slice A1 ml c1] 102⟩, ⟨⟨hj.1.gr gri, hj.2.gr gri⟩, he.trans gri, by rw [hB]; infer_instance⟩, fun _ h => h, ?_⟩
   rw [← hB]
   clear hB hj he w1
   simp only [Act.put, stA, List.set]
   refine p_eff rfl rfl (fun w1 hj he => effAt_append_x rvIs _ _ rfl rfl (HR5.out.own.gr he.1) (some ⟨B, 0, none⟩) [(⟨num, sz, .slice A1 ml c1⟩ : RV)] 1 1 rfl rfl (fun e => by cases e) (rowV_block rfl he.2) (by rw [List.length_map, List.length_take]; simp; omega) (HG5.out.trans he.1).below.size ?_)
   intro v7 W7 h7
   obtain ⟨vf3, hvf3⟩ : ∃ vf3 : Int → Value, vf3 = fun q => if q = num then .slice A1 ml c1 else vf2 q := ⟨_, rfl⟩
   have hne : ∀ p ∈ d.take k, p.1 ≠ num := fun p hp => sort_ne HOK.out.sort HP.out hp
   have hT : d.take (k + 1) = d.take k ++ [(num, sz, m)] := by rw [List.take_add_one, HP.out]; rfl
   have hmap : (d.take (k + 1)).map (rvF vf3) = (d.take k).map (rvF vf2) ++ [⟨num, sz, .slice A1 ml c1⟩] := by
    rw [hT, List.map_append, rvF_ext (vf := vf3) (vf' := vf2) (fun p hp => by rw [hvf3]; simp only [if_neg (hne p hp)])]
    simp [rvF, hvf3]
   have hbs : ∀ p ∈ d.take (k + 1), BlkS W7 (vf3 p.1) p.2.2 := fun p hp => by
    have hk7 : ∀ (b : Nat) cs f, w1.heap[b]? = some (Obj.cells cs 159 f) → W7.heap[b]? = w1.heap[b]? := fun b cs f hb => h7.block b (Array.getElem?_eq_some_iff.1 hb).1 (fun cs' f' e => by rw [hb] at e; cases e)
    rw [hT, List.mem_append] at hp
    rcases hp with hp | hp
    ·rw [hvf3]
     simp only [if_neg (hne p hp)]
     exact ((HR5.out.vol p hp).gr he.1).keep hk7
    ·rw [List.mem_singleton] at hp
     subst hp
     rw [hvf3]
     simp only [if_true]
     exact (HO5.out.gr he.1).keep hk7
   have hown := h7.own
   rw [← hmap] at hown
   have hbl : Below w.heap.size w W7 := ((HG5.out.trans he.1).below.trans h7.below)
   have hV7 : BlockAt W7 wr.heap.size #[.int .u64 num, .int .i64 sz, .slice A1 ml c1] 102 := ⟨(h7.gb.block _ hj.2.lt (fun e => by
    have := (HD2.out.own.lt wr.heap.size e.symm).2
    omega)).trans hj.2.eq⟩
   have hD7 := h7.keep _ _ _ hj.1 (by decide)
   obtain ⟨A7, c7, hv7, hq7, hq8, hq9⟩ := hown.form rvIs
   subst hv7
   obtain ⟨n7, hn7⟩ : ∃ n7, n7 = ((d.take (k + 1)).map (rvF vf3)).length := ⟨_, rfl⟩
   rw [← hn7] at hown ⊢
   refine ⟨⟨fun w' => BlockAt w' w.heap.size #[.slice A2 k c2] 35 ∧ BlockAt w' wr.heap.size #[.int .u64 num, .int .i64 sz, .slice A1 ml c1] 102, fun w' => OwnN rvE w.heap.size w' (.slice A7 n7 c7) ((d.take (k + 1)).map (rvF vf3)) ∧ (∀ p ∈ d.take (k + 1), BlkS w' (vf3 p.1) p.2.2) ∧ Below w.heap.size w w'⟩, ⟨⟨hD7, hV7⟩, hown, hbs, hbl⟩, fun _ h => h, ?_⟩
   clear h7 hj he hown hbs hbl hD7 hV7 hvf3 hne hT hmap hq7 hq8 hq9 hn7 W7 w1
   simp only [Act.put, stA, List.set]
   refine p_nil ?_
   intro w9 hj9 he9
   try simp only [List.drop_succ_cons, List.drop_zero]
   haveI := hj9.1
   have z0 : w9.cell? ⟨w.heap.size, 0, none⟩ = some (.slice A2 k c2) := (bc 0 hj9.1).trans rfl
   have z1 : w9.frozen? ⟨w.heap.size, 0, none⟩ = false := @block_frozen _ _ 0 _ _ hj9.1
   haveI : Old w.heap.size w9 := hj9.1.old
   have HJ9 := hd_ hj9
   have HE9 := hd_ he9
   have HK := hd_ (devOk_take HOK.out (k + 1))
   clear hj9 he9
   go_wp2
   go_roundw
   case rel =>
    have hrk : RK w9 (w9.setCell ⟨w.heap.size, 0, none⟩ (.slice A7 n7 c7)) := (RK.refl w9).set_ _ 0 _ HJ9.out.1.eq (.inr rfl)
    refine ⟨k + 1, .slice A7 n7 c7, vf3, hlt, by go_num, ⟨?_, HE9.out.1.set_ w.heap.size 0 (.slice A7 n7 c7) (by decide), fun p hp => hrk.blkS (HE9.out.2.1 p hp), Nat.le_refl _, HK.out⟩, Gr.of (HE9.out.2.2.setCell (p := ⟨w.heap.size, 0, none⟩) (Nat.le_refl _) _)⟩
    show BlockAt _ _ (#[.slice A2 k c2].setIfInBounds 0 (.slice A7 n7 c7)) _
    infer_instance
   case measure => simp [intOf]; omega
  ·have : k = n := by omega
   subst this
   have e : d.take k = d := List.take_of_length_le (by rw [← HN.out]; omega)
   have HE := hd_ e
   clear e
   go_wp2
   go_ret
   exact ⟨_, rfl, ⟨_, vf2, by have := HD2.out; rw [HE.out] at this; exact this⟩, HG.out⟩
end Go.Proofs.YtddckdhnolmjoaaGreat
