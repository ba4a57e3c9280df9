/- voileref26.StageOf: the stage of a text, as the reference reads it. Conditions: a text of at most 800000 bytes. -/
import Derived.Test.YtgjdgafoidppaaaDoorSStO
import Derived.Test.YtgjdgafoidppaaaDoorLate
namespace Go.Proofs.YtgjdgafoidppaaaDoor
open Go.RowKit
set_option linter.unusedVariables false
set_option linter.unusedSimpArgs false
set_option linter.unnecessarySimpa false
theorem wd_at (ws : List ByteArray) (k j : Nat) (hj : j < ws.length + k) : (ws ++ List.replicate k (⟨#[]⟩ : ByteArray))[j]? = some (wd ws j) := by
  unfold wd
  by_cases h : j < ws.length
  · rw [List.getElem?_append_left h, List.getElem?_eq_getElem h, List.drop_eq_getElem_cons h]; rfl
  · rw [List.getElem?_append_right (by omega), List.getElem?_replicate, if_pos (by omega), List.drop_eq_nil_of_le (by omega)]; rfl
theorem wd_short {ws : List ByteArray} (h : ∀ x ∈ ws, x.size ≤ 1000000000) (j : Nat) : (wd ws j).size ≤ 1000000000 := headD_short (fun x hx => h x (List.mem_of_mem_drop hx))
theorem Row.cellAt {W : World} {b o : Nat} {l : List ByteArray} (h : Row Value.string W (some ⟨b, o, none⟩) l) (j : Nat) (x : ByteArray) (hj : l[j]? = some x) : W.cell? ⟨b, o + j, none⟩ = some (.string x) := by
  obtain ⟨b', o', e, hb, hc⟩ := h.at_ (by rintro rfl; simp at hj)
  cases e
  exact hc j x hj
theorem words26_32 (s : ByteArray) (hs : s.size ≤ 900000) (w : World) :
    Calls Tryd.prog 31 #[.string s, .int .u8 32] w fun e w' => ∃ v, e = .returned v ∧ OwnS w.heap.size w' v (wordsB 32 s) ∧ Below w.heap.size w w' := words26_any s 32 hs w
theorem small26_w (s : ByteArray) (i : Nat) (h : (wd (wordsB 32 s) i).size ≤ 1000000000) (W : World) :
    Calls Tryd.prog 32 #[.string (wd (wordsB 32 s) i), .int .i64 1000000] W fun e W' => e = .returned (.int .i64 (nW s i)) ∧ Gr W W' := small26_any _ 1000000 (by omega) h W
theorem st26_no {s : ByteArray} (h : goodSt s = false) : Ending.returned (.tuple #[.agg #[.int .i64 0, .int .i64 0, .int .i64 0, .int .i64 0, .int .i64 0], .bool false]) = .returned (.tuple #[.agg (stV s), .bool (goodSt s)]) := by simp [stV, h]
theorem st26_yes {s : ByteArray} (h : goodSt s = true) : Ending.returned (.tuple #[.agg #[.int .i64 (nW s 1), .int .i64 (nW s 3), .int .i64 (nW s 2), .int .i64 (nW s 4), .int .i64 (nW s 5)], .bool true]) = .returned (.tuple #[.agg (stV s), .bool (goodSt s)]) := by simp [stV, h]
theorem store_int {w : World} {X o : Nat} {u : Value} {z : Int} (hc : w.cell? ⟨X, o, none⟩ = some u) (hf : w.frozen? ⟨X, o, none⟩ = false) : (storeVar 3 ⟨X, o, none⟩ (.int .i64 z)).run Tryd.prog w = .ok () (w.setCell ⟨X, o, none⟩ (.int .i64 z)) := by
  go_simp
set_option maxRecDepth 100000 in
set_option maxHeartbeats 4000000 in
theorem stageOf26_any (s : ByteArray) (hs : s.size ≤ 800000) (w : World) : Calls Tryd.prog 11 #[.string s] w fun e w' => e = .returned (.tuple #[.agg (stV s), .bool (goodSt s)]) ∧ Gr w w' := by
  have few : (wordsB 32 s).length ≤ 1000000 := by have := wordsB_le 32 s; omega
  have SH := Lib.hid (fun j => wd_short (fun x hx => by have := wordsB_each 32 s x hx; omega : ∀ x ∈ wordsB 32 s, x.size ≤ 1000000000) j)
  have hne : 1 ≤ (wordsB 32 s).length := by
    have := wordsB_ne 32 s
    cases h : wordsB 32 s with
    | nil => exact absurd h this
    | cons x r => simp
  go_enter Tryd.func11, Tryd.ntmps11
  go_wp2_with ((go_at_call 31; ((with_reducible refine (words26_32 s (by omega) _).mono ?_))))
  rintro _ W1 ⟨v1, rfl, hown0, hbw0⟩
  have hown : OwnS (w.heap.size + 1) W1 v1 (wordsB 32 s) := by simpa using hown0
  have hbw1 : Below (w.heap.size + 1) (w.alloc (.cells #[.int .i64 0, .int .i64 0, .int .i64 0, .int .i64 0, .int .i64 0] 29)) W1 := by simpa using hbw0
  have hsz : w.heap.size + 1 ≤ W1.heap.size := by simpa using hbw0.size
  clear hown0 hbw0
  go_wp2_with (at_builtin; refine wp_append_strs rfl _ _ rfl (w.heap.size + 1) v1 (wordsB 32 s) ?hs1 ?own1 _ (List.replicate 5 (⟨#[]⟩ : ByteArray)) 5 rfl rfl ?hc1 (by simp; omega) ?hb1 ?_)
  case hs1 => rfl
  case own1 => exact hown.alloc_ _
  case hc1 =>
    intro j y hj
    match j, hj with
    | 0, hj => simp at hj; subst hj; simp [go_sem]
    | 1, hj => simp at hj; subst hj; simp [go_sem]
    | 2, hj => simp at hj; subst hj; simp [go_sem]
    | 3, hj => simp at hj; subst hj; simp [go_sem]
    | 4, hj => simp at hj; subst hj; simp [go_sem]
  case hb1 => simp; omega
  intro v2 W2 a2
  have hb2 : Below w.heap.size w W2 := Below.trans (below_alloc (Below.refl _ _) (.cells #[.int .i64 0, .int .i64 0, .int .i64 0, .int .i64 0, .int .i64 0] 29)) (((hbw1.alloc hsz _).trans a2.below).mono (by omega))
  have bR0 : BlockAt W1 w.heap.size #[.int .i64 0, .int .i64 0, .int .i64 0, .int .i64 0, .int .i64 0] 29 := ⟨(hbw1.block w.heap.size (by omega)).trans (inferInstance : BlockAt (w.alloc (.cells #[.int .i64 0, .int .i64 0, .int .i64 0, .int .i64 0, .int .i64 0] 29)) w.heap.size _ _).eq⟩
  haveI bR : BlockAt W2 w.heap.size #[.int .i64 0, .int .i64 0, .int .i64 0, .int .i64 0, .int .i64 0] 29 := a2.keep _ _ _ inferInstance (by decide)
  haveI : Old w.heap.size W2 := bR.old
  obtain ⟨VA, vc, rfl, hvc, hrow⟩ := a2.own.form
  obtain ⟨b, o, rfl, hb, hxx⟩ := hrow.at_ (by simp)
  clear hxx
  have y1 := hrow.cellAt 1 _ (wd_at (wordsB 32 s) 5 1 (by omega))
  have y2 := hrow.cellAt 2 _ (wd_at (wordsB 32 s) 5 2 (by omega))
  have y3 := hrow.cellAt 3 _ (wd_at (wordsB 32 s) 5 3 (by omega))
  have y4 := hrow.cellAt 4 _ (wd_at (wordsB 32 s) 5 4 (by omega))
  have y5 := hrow.cellAt 5 _ (wd_at (wordsB 32 s) 5 5 (by omega))
  haveI : Old b W2 := ⟨hb⟩
  obtain ⟨n, hn⟩ : ∃ n, (wordsB 32 s ++ [(⟨#[]⟩ : ByteArray), ⟨#[]⟩, ⟨#[]⟩, ⟨#[]⟩, ⟨#[]⟩]).length = n + 6 := ⟨(wordsB 32 s).length - 1, by simp; omega⟩
  rw [hn]
  clear a2 hown hbw1 hrow few hne hn
  go_wp2
  have i1 : (1 : Int) < (n : Int) + 6 := by omega
  have i2 : (2 : Int) < (n : Int) + 6 := by omega
  have i3 : (3 : Int) < (n : Int) + 6 := by omega
  have i4 : (4 : Int) < (n : Int) + 6 := by omega
  have i5 : (5 : Int) < (n : Int) + 6 := by omega
  refine wp_region_late (W := W2) (I := OneBlock W2 W2.heap.size 29) (oneBlock_ghost _ _ _) #[.int .i64 0, .int .i64 0, .int .i64 0, .int .i64 0, .int .i64 0] ?hst [0, 1, 2, 3, 4, 5, 6, 7, 8, 9, 10, 11, 12, 13, 14, 15, 16, 17, 18, 19, 20, 21, 23, 26, 29] [22, 24, 25, 27, 28, 30, 31, 32, 33] (by kernel_rfl) (by kernel_rfl) ?_
  case hst => exact ⟨Gr.of (by repeat (first | with_reducible exact Below.refl _ _ | with_reducible apply below_alloc | with_reducible apply Below.drew)), inferInstance⟩
  simp only [pick, List.drop_succ_cons, List.drop_zero, List.take_succ_cons, List.take_zero, List.nil_append, List.cons_append]
  repeat (refine wpCalm_step (fun K hK => ?_); go_simp; first | (refine hK _ ?_; clear hK K) | (apply Exists.intro; refine ⟨fun _ => ?_, hK _ ?_⟩; ((go_at_call 32; exact (small26_w s _ (SH.out _) _))); clear hK K))
  refine wpCalm_nil ?_
  refine wpSts_store ⟨W2.heap.size, 0, none⟩ #[.int .i64 (nW s 1), .int .i64 0, .int .i64 0, .int .i64 0, .int .i64 0] rfl rfl rfl (oneBlock_store (Nat.le_refl _) (by simp) (fun _ hc hf => store_int hc hf)) ?_
  refine wpSts_calm (.pointer (some ⟨W2.heap.size, 2, none⟩)) rfl (fun g => by go_simp) ?_
  refine wpSts_store ⟨W2.heap.size, 2, none⟩ #[.int .i64 (nW s 1), .int .i64 0, .int .i64 (nW s 2), .int .i64 0, .int .i64 0] rfl rfl rfl (oneBlock_store (Nat.le_refl _) (by simp) (fun _ hc hf => store_int hc hf)) ?_
  refine wpSts_calm (.pointer (some ⟨W2.heap.size, 1, none⟩)) rfl (fun g => by go_simp) ?_
  refine wpSts_store ⟨W2.heap.size, 1, none⟩ #[.int .i64 (nW s 1), .int .i64 (nW s 3), .int .i64 (nW s 2), .int .i64 0, .int .i64 0] rfl rfl rfl (oneBlock_store (Nat.le_refl _) (by simp) (fun _ hc hf => store_int hc hf)) ?_
  refine wpSts_calm (.pointer (some ⟨W2.heap.size, 3, none⟩)) rfl (fun g => by go_simp) ?_
  refine wpSts_store ⟨W2.heap.size, 3, none⟩ #[.int .i64 (nW s 1), .int .i64 (nW s 3), .int .i64 (nW s 2), .int .i64 (nW s 4), .int .i64 0] rfl rfl rfl (oneBlock_store (Nat.le_refl _) (by simp) (fun _ hc hf => store_int hc hf)) ?_
  refine wpSts_calm (.pointer (some ⟨W2.heap.size, 4, none⟩)) rfl (fun g => by go_simp) ?_
  refine wpSts_store ⟨W2.heap.size, 4, none⟩ #[.int .i64 (nW s 1), .int .i64 (nW s 3), .int .i64 (nW s 2), .int .i64 (nW s 4), .int .i64 (nW s 5)] rfl rfl rfl (oneBlock_store (Nat.le_refl _) (by simp) (fun _ hc hf => store_int hc hf)) ?_
  refine wpSts_nil ?_
  rintro _ ⟨⟨g3, rfl⟩, bX⟩
  have x0 : (grown W2 g3).cell? ⟨W2.heap.size, 0, none⟩ = some (.int .i64 (nW s 1)) := (block_cells _ _ _ _ _).trans rfl
  have y0' : W2.cell? ⟨w.heap.size, 0, none⟩ = some (.int .i64 0) := (block_cells _ _ _ _ _).trans rfl
  have z0 : W2.frozen? ⟨w.heap.size, 0, none⟩ = false := block_frozen _ _ _ _ _
  have x1 : (grown W2 g3).cell? ⟨W2.heap.size, 1, none⟩ = some (.int .i64 (nW s 3)) := (block_cells _ _ _ _ _).trans rfl
  have y1' : W2.cell? ⟨w.heap.size, 1, none⟩ = some (.int .i64 0) := (block_cells _ _ _ _ _).trans rfl
  have z1 : W2.frozen? ⟨w.heap.size, 1, none⟩ = false := block_frozen _ _ _ _ _
  have x2 : (grown W2 g3).cell? ⟨W2.heap.size, 2, none⟩ = some (.int .i64 (nW s 2)) := (block_cells _ _ _ _ _).trans rfl
  have y2' : W2.cell? ⟨w.heap.size, 2, none⟩ = some (.int .i64 0) := (block_cells _ _ _ _ _).trans rfl
  have z2 : W2.frozen? ⟨w.heap.size, 2, none⟩ = false := block_frozen _ _ _ _ _
  have x3 : (grown W2 g3).cell? ⟨W2.heap.size, 3, none⟩ = some (.int .i64 (nW s 4)) := (block_cells _ _ _ _ _).trans rfl
  have y3' : W2.cell? ⟨w.heap.size, 3, none⟩ = some (.int .i64 0) := (block_cells _ _ _ _ _).trans rfl
  have z3 : W2.frozen? ⟨w.heap.size, 3, none⟩ = false := block_frozen _ _ _ _ _
  have x4 : (grown W2 g3).cell? ⟨W2.heap.size, 4, none⟩ = some (.int .i64 (nW s 5)) := (block_cells _ _ _ _ _).trans rfl
  have y4' : W2.cell? ⟨w.heap.size, 4, none⟩ = some (.int .i64 0) := (block_cells _ _ _ _ _).trans rfl
  have z4 : W2.frozen? ⟨w.heap.size, 4, none⟩ = false := block_frozen _ _ _ _ _
  haveI : Old W2.heap.size (grown W2 g3) := bX.old
  have hb3 : Below w.heap.size w (grown W2 g3) := below_trans hb2 (grown_below _ _)
  rcases Bool.eq_false_or_eq_true (mayStB (nW s 1) (nW s 3) (nW s 2) (nW s 4) (nW s 5)) with hM | hM
  · have HM := Lib.hid (fun W => mayStage26_any (nW s 1) (nW s 3) (nW s 2) (nW s 4) (nW s 5) W)
    rw [hM] at HM
    have HT := Lib.hid (fun W => stageText26_any (nW s 1) (nW s 3) (nW s 2) (nW s 4) (nW s 5) (bd_nW s) W)
    rcases Bool.eq_false_or_eq_true (stageTextL (nW s 1) (nW s 3) (nW s 2) (nW s 4) (nW s 5) == s.data.toList) with hS | hS
    · have hg : goodSt s = true := by rw [goodSt, hM, hS]; rfl
      have HG := Lib.hid hg; clear hg
      have hne : (stageTextL (nW s 1) (nW s 3) (nW s 2) (nW s 4) (nW s 5) == s.toList) = true := by rw [Lib.toList_data]; exact hS
      clear hS hM
      go_wp2_with (first | (go_at_call 14; ((with_reducible refine (HM.out _).mono ?_); rintro _ _ ⟨rfl, g4, rfl⟩)) | (go_at_call 16; ((with_reducible refine (HT.out _).mono ?_); rintro _ _ ⟨rfl, g5, rfl⟩)))
      exact bodyPost_ret (v := .tuple #[.agg #[.int .i64 (nW s 1), .int .i64 (nW s 3), .int .i64 (nW s 2), .int .i64 (nW s 4), .int .i64 (nW s 5)], .bool true]) (by simp [results, Tryd.results11, go_sem, x0, x1, x2, x3, x4, y0', y1', y2', y3', y4', z0, z1, z2, z3, z4]) rfl ⟨st26_yes HG.out, Gr.of (by repeat (first | with_reducible exact hb3 | with_reducible refine below_set_le ?_ (by omega) _ | with_reducible refine below_trans ?_ (grown_below _ _)))⟩
    · have hg : goodSt s = false := by rw [goodSt, hM, hS]; rfl
      have HG := Lib.hid hg; clear hg
      have hne : (stageTextL (nW s 1) (nW s 3) (nW s 2) (nW s 4) (nW s 5) == s.toList) = false := by rw [Lib.toList_data]; exact hS
      clear hS hM
      go_wp2_with (first | (go_at_call 14; ((with_reducible refine (HM.out _).mono ?_); rintro _ _ ⟨rfl, g4, rfl⟩)) | (go_at_call 16; ((with_reducible refine (HT.out _).mono ?_); rintro _ _ ⟨rfl, g5, rfl⟩)))
      exact bodyPost_ret (v := .tuple #[.agg #[.int .i64 0, .int .i64 0, .int .i64 0, .int .i64 0, .int .i64 0], .bool false]) (by simp [results, Tryd.results11, go_sem, x0, x1, x2, x3, x4, y0', y1', y2', y3', y4', z0, z1, z2, z3, z4]) rfl ⟨st26_no HG.out, Gr.of (by repeat (first | with_reducible exact hb3 | with_reducible refine below_set_le ?_ (by omega) _ | with_reducible refine below_trans ?_ (grown_below _ _)))⟩
  · have HM := Lib.hid (fun W => mayStage26_any (nW s 1) (nW s 3) (nW s 2) (nW s 4) (nW s 5) W)
    rw [hM] at HM
    have hg : goodSt s = false := by rw [goodSt, hM]; rfl
    have HG := Lib.hid hg; clear hg hM
    go_wp2_with (first | (go_at_call 14; ((with_reducible refine (HM.out _).mono ?_); rintro _ _ ⟨rfl, g4, rfl⟩)))
    exact bodyPost_ret (v := .tuple #[.agg #[.int .i64 0, .int .i64 0, .int .i64 0, .int .i64 0, .int .i64 0], .bool false]) (by simp [results, Tryd.results11, go_sem, x0, x1, x2, x3, x4, y0', y1', y2', y3', y4', z0, z1, z2, z3, z4]) rfl ⟨st26_no HG.out, Gr.of (by repeat (first | with_reducible exact hb3 | with_reducible refine below_set_le ?_ (by omega) _ | with_reducible refine below_trans ?_ (grown_below _ _)))⟩
end Go.Proofs.YtgjdgafoidppaaaDoor
