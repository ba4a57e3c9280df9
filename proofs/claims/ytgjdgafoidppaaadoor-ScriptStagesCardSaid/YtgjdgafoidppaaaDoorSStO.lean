/- script.StageOf: the stage of a text. Conditions: a text of at most 900000 bytes; the tables stand. -/
import Derived.Test.YtgjdgafoidppaaaDoorSStT
import Derived.Test.YtgjdgafoidppaaaDoorSWd
namespace Go.Proofs.YtgjdgafoidppaaaDoor
open Go.RowKit
set_option linter.unusedVariables false
set_option linter.unusedSimpArgs false
set_option linter.unnecessarySimpa false
theorem Row.set_other {X o : Nat} {W : World} {A : Option Addr} {l : List ByteArray} (h : Row Value.string W A l) (u v : Value) (hc : W.cell? ⟨X, o, none⟩ = some u) (hu : ∀ s, u ≠ .string s) : Row Value.string (W.setCell ⟨X, o, none⟩ v) A l :=
  ⟨fun h0 => by
    obtain ⟨b, o', rfl, hb, hx⟩ := h.at_ h0
    refine ⟨b, o', rfl, by simpa [World.setCell] using hb, fun j x hj => ?_⟩
    have h1 := hx j x hj
    rw [World.cell?_setCell_other _ _ _ _ (fun e => by
      rw [← e, hc] at h1
      exact hu x (Option.some.inj h1))]
    exact h1⟩
theorem WS.set_other {p X o : Nat} {W : World} {ws : List ByteArray} {bad : Bool} (h : WS p W ws bad) (u v : Value) (hne : X ≠ p) (hc : W.cell? ⟨X, o, none⟩ = some u) (hu : ∀ s, u ≠ .string s) : WS p (W.setCell ⟨X, o, none⟩ v) ws bad := by
  obtain ⟨f0, f1, c1, ⟨A, c, c0, hcc, hn, hr⟩, few, short⟩ := h
  refine ⟨by rw [World.frozen?_setCell]; exact f0, by rw [World.frozen?_setCell]; exact f1, ?_, ⟨A, c, ?_, hcc, hn, hr.set_other u v hc hu⟩, few, short⟩
  · rw [World.cell?_setCell_other _ _ _ _ (fun e => hne (congrArg Addr.block e))]; exact c1
  · rw [World.cell?_setCell_other _ _ _ _ (fun e => hne (congrArg Addr.block e))]; exact c0
theorem WS.alloc {p : Nat} {W : World} {ws : List ByteArray} {bad : Bool} (h : WS p W ws bad) (ob : Obj) : WS p (W.alloc ob) ws bad := h.gr ⟨_, below_alloc (Below.refl _ _) ob⟩
theorem WS.start (W : World) (ws : List ByteArray) (n n0 p : Nat) (T : TypeId) (hn : n = ws.length) [h1 : BlockAt W n0 (ws.map Value.string).toArray 9] [h2 : BlockAt W p #[.slice (some ⟨n0, 0, none⟩) n n, .bool false] T] (hne : n0 ≠ p) (few : ws.length ≤ 1000000) (short : ∀ x ∈ ws, x.size ≤ 1000000000) : WS p W ws false := by
  subst hn
  refine ⟨block_frozen _ _ _ _ _, block_frozen _ _ _ _ _, (block_cells _ _ _ _ _).trans rfl, ⟨_, _, (block_cells _ _ _ _ _).trans rfl, Nat.le_refl _, fun a e => by cases e; exact hne, ⟨fun _ => ⟨n0, 0, rfl, h1.lt, fun j x hj => ?_⟩⟩⟩, few, short⟩
  rw [block_cells, Nat.zero_add]
  simp [hj]
/-- A word by its place; the empty one, where there is none. -/
def wd (ws : List ByteArray) (i : Nat) : ByteArray := hdW (ws.drop i)
def nW (s : ByteArray) (i : Nat) : Nat := decV (wd (wordsB 32 s) i).data.toList 1000000
def bW (s : ByteArray) (i : Nat) : Bool := !decOk (wd (wordsB 32 s) i).data.toList 1000000
theorem itoa_no32 (n : Int) (h : 0 ≤ n) : (32 : UInt8) ∉ Lib.itoa n := by
  obtain ⟨k, rfl⟩ := Int.eq_ofNat_of_zero_le h
  rw [show ((k : Nat) : Int) = (k : Int) from rfl, Lib.itoa_nonneg]
  intro hm
  have h2 := (decDigits_all k).2.1
  rw [List.all_eq_true] at h2
  exact absurd (h2 32 hm) (by decide)
theorem stageWords_cut (m0 m1 d0 d1 g : Int) (b : StBd m0 m1 d0 d1 g) (s : ByteArray) (h : stageTextL m0 m1 d0 d1 g = s.data.toList) : wordsB 32 s = stageWords m0 m1 d0 d1 g := by
  have hb := b.is
  have h1 : cutL 32 s.data.toList = (stageWords m0 m1 d0 d1 g).map (·.data.toList) := by
    rw [← h]
    refine cutL_join 32 _ (by simp [stageWords]) (fun x hx => ?_)
    simp only [stageWords, List.map_cons, List.map_nil, List.mem_cons, List.mem_nil_iff, or_false] at hx
    rcases hx with rfl | rfl | rfl | rfl | rfl | rfl
    · decide
    · exact itoa_no32 _ (by omega)
    · exact itoa_no32 _ (by omega)
    · exact itoa_no32 _ (by omega)
    · exact itoa_no32 _ (by omega)
    · exact itoa_no32 _ (by omega)
  rw [wordsB, h1, List.map_map]
  simp [stageWords, Function.comp_def]
theorem itoa_ok (n : Int) (h : 0 ≤ n ∧ n ≤ 1000000) : decOk (Lib.itoa n) 1000000 = true := by
  obtain ⟨k, rfl⟩ := Int.eq_ofNat_of_zero_le h.1
  rw [Lib.itoa_nonneg]
  exact decOk_digits k 1000000 (by omega)
theorem small_w (s : ByteArray) (i : Nat) (p : Nat) (W : World) (bad : Bool) (h : WS p W ((wordsB 32 s).drop i) bad) :
    Calls Tryd.prog 29 #[.pointer (some ⟨p, 0, none⟩), .int .i64 1000000] W fun e W' => e = .returned (.int .i64 (nW s i)) ∧ WS p W' ((wordsB 32 s).drop (i + 1)) (bad || bW s i) ∧ Wrd p W W' :=
  (small_any p 1000000 (by omega) W _ bad h).mono fun e W' ⟨he, hw, hr⟩ => ⟨he, by rw [List.tail_drop] at hw; exact hw, hr⟩
theorem nW_le (s : ByteArray) (i : Nat) : nW s i ≤ 1000000 := decV_le _ _
def badW (s : ByteArray) : Bool := bW s 1 || bW s 2 || bW s 3 || bW s 4 || bW s 5
/-- Is a text a stage's? -/
def goodSt (s : ByteArray) : Bool := mayStB (nW s 1) (nW s 3) (nW s 2) (nW s 4) (nW s 5) && (stageTextL (nW s 1) (nW s 3) (nW s 2) (nW s 4) (nW s 5) == s.data.toList)
theorem bd_nW (s : ByteArray) : StBd (nW s 1) (nW s 3) (nW s 2) (nW s 4) (nW s 5) := ⟨by
  have h1 := nW_le s 1
  have h2 := nW_le s 2
  have h3 := nW_le s 3
  have h4 := nW_le s 4
  have h5 := nW_le s 5
  omega⟩
theorem good_words {s : ByteArray} (h : goodSt s = true) : badW s = false ∧ (wordsB 32 s).drop 6 = [] := by
  simp only [goodSt, Bool.and_eq_true, beq_iff_eq] at h
  have hb := (bd_nW s).is
  have hw := stageWords_cut _ _ _ _ _ (bd_nW s) s h.2
  refine ⟨?_, by rw [hw]; rfl⟩
  have e1 : bW s 1 = false := by rw [bW, hw]; exact congrArg (!·) (itoa_ok (nW s 1) (by omega))
  have e2 : bW s 2 = false := by rw [bW, hw]; exact congrArg (!·) (itoa_ok (nW s 2) (by omega))
  have e3 : bW s 3 = false := by rw [bW, hw]; exact congrArg (!·) (itoa_ok (nW s 3) (by omega))
  have e4 : bW s 4 = false := by rw [bW, hw]; exact congrArg (!·) (itoa_ok (nW s 4) (by omega))
  have e5 : bW s 5 = false := by rw [bW, hw]; exact congrArg (!·) (itoa_ok (nW s 5) (by omega))
  simp [badW, e1, e2, e3, e4, e5]
def stV (s : ByteArray) : Array Value := if goodSt s then #[.int .i64 (nW s 1), .int .i64 (nW s 3), .int .i64 (nW s 2), .int .i64 (nW s 4), .int .i64 (nW s 5)] else #[.int .i64 0, .int .i64 0, .int .i64 0, .int .i64 0, .int .i64 0]
def stE (s : ByteArray) : Int := if goodSt s then 0 else 4
theorem st_no {s : ByteArray} (h : goodSt s = false) : Ending.returned (.tuple #[.agg #[.int .i64 0, .int .i64 0, .int .i64 0, .int .i64 0, .int .i64 0], .int .i64 4]) = .returned (.tuple #[.agg (stV s), .int .i64 (stE s)]) := by simp [stV, stE, h]
theorem st_yes {s : ByteArray} (h : goodSt s = true) : Ending.returned (.tuple #[.agg #[.int .i64 (nW s 1), .int .i64 (nW s 3), .int .i64 (nW s 2), .int .i64 (nW s 4), .int .i64 (nW s 5)], .int .i64 0]) = .returned (.tuple #[.agg (stV s), .int .i64 (stE s)]) := by simp [stV, stE, h]
theorem below_set_le {a w : World} (h : Below a.heap.size a w) {b o : Nat} (hp : a.heap.size ≤ b) (u : Value) : Below a.heap.size a (w.setCell ⟨b, o, none⟩ u) := below_set h hp u
set_option maxRecDepth 100000 in
set_option maxHeartbeats 4000000 in
theorem stageOf_any (s : ByteArray) (hs : s.size ≤ 900000) (w : World) [hk : Tb w] [hm : Ml w] : Calls Tryd.prog 10 #[.string s] w fun e w' => e = .returned (.tuple #[.agg (stV s), .int .i64 (stE s)]) ∧ Gr w w' := by
  have few : (wordsB 32 s).length ≤ 1000000 := by have := wordsB_le 32 s; omega
  have short : ∀ x ∈ wordsB 32 s, x.size ≤ 1000000000 := fun x hx => by have := wordsB_each 32 s x hx; omega
  have FEW := Lib.hid few; clear few
  have SHORT := Lib.hid short; clear short
  have hne : (wordsB 32 s).isEmpty = false := by
    have := wordsB_ne 32 s
    cases h : wordsB 32 s with
    | nil => exact absurd h this
    | cons x r => rfl
  have HNE := Lib.hid hne; clear hne
  go_enter Tryd.func10, Tryd.ntmps10
  go_wp2_with ((go_at_call 27; ((with_reducible refine (split_any s 32 _ (by omega)).mono ?_))))
  rintro _ _ ⟨rfl, rfl⟩
  go_wp2_with ((go_at_call 28; ((with_reducible refine (word_any (w.heap.size + 1 + 1) _ (wordsB 32 s) false ?ws0).mono ?_))))
  case ws0 => exact WS.start _ _ _ (w.heap.size + 1) _ 68 rfl (by omega) FEW.out SHORT.out
  rintro _ W1 ⟨rfl, h1, r1⟩
  haveI : Tb W1 := r1.tb
  haveI : From w W1 := r1.from_ w
  haveI bR1 : BlockAt W1 w.heap.size #[.int .i64 0, .int .i64 0, .int .i64 0, .int .i64 0, .int .i64 0] 29 := BlockAt.grown inferInstance r1.g (fun e => by have := Option.some.inj e; omega)
  have h1' : WS (w.heap.size + 1 + 1) W1 ((wordsB 32 s).drop 1) false := by
    rw [HNE.out, ← List.drop_one] at h1
    exact h1
  have H1 := Lib.hid h1'; clear h1 h1'
  have hP1 : w.heap.size + 1 + 1 < W1.heap.size := H1.out.old.lt
  haveI : BNe w.heap.size W1.heap.size := ⟨by omega⟩
  have hb1 : Below w.heap.size w W1 := Below.trans (by (repeat (first | with_reducible exact Below.refl _ _ | with_reducible apply below_alloc))) (r1.below (by omega) (by simp; omega))
  clear r1
  go_wp2
  refine wp_loop_rounds 6 ?_
  rw [rounds_succ]
  go_wp2_with ((go_at_call 29; ((with_reducible refine (small_w s 1 (w.heap.size + 1 + 1) _ false ?ws1).mono ?_))))
  case ws1 => exact (H1.out.alloc _).alloc _
  rintro _ W2 ⟨rfl, h2, r2⟩
  haveI : Tb W2 := r2.tb
  haveI : From w W2 := r2.from_ w
  haveI bR2 : BlockAt W2 (w.heap.size) #[.int .i64 0, .int .i64 0, .int .i64 0, .int .i64 0, .int .i64 0] 29 := BlockAt.grown inferInstance r2.g (fun e => by have := Option.some.inj e; omega)
  haveI bX2 : BlockAt W2 (W1.heap.size) #[.int .i64 0, .int .i64 0, .int .i64 0, .int .i64 0, .int .i64 0] 29 := BlockAt.grown inferInstance r2.g (fun e => by have := Option.some.inj e; omega)
  haveI bL2 : BlockAt W2 (W1.heap.size + 1) #[.pointer (some ⟨W1.heap.size, 0, none⟩), .pointer (some ⟨W1.heap.size, 2, none⟩), .pointer (some ⟨W1.heap.size, 1, none⟩), .pointer (some ⟨W1.heap.size, 3, none⟩), .pointer (some ⟨W1.heap.size, 4, none⟩)] 70 := BlockAt.grown inferInstance r2.g (fun e => by have := Option.some.inj e; omega)
  have cX2 : W2.cell? ⟨W1.heap.size, 0, none⟩ = some (.int .i64 0) := (block_cells _ _ _ _ _).trans rfl
  have fX2 : W2.frozen? ⟨W1.heap.size, 0, none⟩ = false := block_frozen _ _ _ _ _
  have cL2 : W2.cell? ⟨W1.heap.size + 1, 1, none⟩ = some (.pointer (some ⟨W1.heap.size, 2, none⟩)) := (block_cells _ _ _ _ _).trans rfl
  have hb2 : Below w.heap.size w W2 := Below.trans (by (repeat (first | with_reducible exact hb1 | with_reducible apply below_alloc))) (r2.below (by omega) (by simp; omega))
  have H2 := Lib.hid h2; clear h2 r2
  go_wp2
  rw [rounds_succ]
  go_wp2_with ((go_at_call 29; ((with_reducible refine (small_w s 2 (w.heap.size + 1 + 1) _ (false || bW s 1) ?ws2).mono ?_))))
  case ws2 => exact H2.out.set_other (.int .i64 0) _ (by omega) ((block_cells _ _ _ _ _).trans rfl) (fun _ e => by cases e)
  rintro _ W3 ⟨rfl, h3, r3⟩
  haveI : Tb W3 := r3.tb
  haveI : From w W3 := r3.from_ w
  haveI bR3 : BlockAt W3 (w.heap.size) #[.int .i64 0, .int .i64 0, .int .i64 0, .int .i64 0, .int .i64 0] 29 := BlockAt.grown inferInstance r3.g (fun e => by have := Option.some.inj e; omega)
  haveI bX3 : BlockAt W3 (W1.heap.size) #[.int .i64 (nW s 1), .int .i64 0, .int .i64 0, .int .i64 0, .int .i64 0] 29 := BlockAt.grown inferInstance r3.g (fun e => by have := Option.some.inj e; omega)
  haveI bL3 : BlockAt W3 (W1.heap.size + 1) #[.pointer (some ⟨W1.heap.size, 0, none⟩), .pointer (some ⟨W1.heap.size, 2, none⟩), .pointer (some ⟨W1.heap.size, 1, none⟩), .pointer (some ⟨W1.heap.size, 3, none⟩), .pointer (some ⟨W1.heap.size, 4, none⟩)] 70 := BlockAt.grown inferInstance r3.g (fun e => by have := Option.some.inj e; omega)
  have cX3 : W3.cell? ⟨W1.heap.size, 2, none⟩ = some (.int .i64 0) := (block_cells _ _ _ _ _).trans rfl
  have fX3 : W3.frozen? ⟨W1.heap.size, 2, none⟩ = false := block_frozen _ _ _ _ _
  have cL3 : W3.cell? ⟨W1.heap.size + 1, 2, none⟩ = some (.pointer (some ⟨W1.heap.size, 1, none⟩)) := (block_cells _ _ _ _ _).trans rfl
  have hb3 : Below w.heap.size w W3 := Below.trans (by (repeat (first | with_reducible exact hb2 | with_reducible refine below_set_le ?_ (by omega) _))) (r3.below (by omega) (by simp [World.setCell]; have := (inferInstance : From w W2).le; omega))
  have H3 := Lib.hid h3; clear h3 r3
  go_wp2
  rw [rounds_succ]
  go_wp2_with ((go_at_call 29; ((with_reducible refine (small_w s 3 (w.heap.size + 1 + 1) _ ((false || bW s 1) || bW s 2) ?ws3).mono ?_))))
  case ws3 => exact H3.out.set_other (.int .i64 0) _ (by omega) ((block_cells _ _ _ _ _).trans rfl) (fun _ e => by cases e)
  rintro _ W4 ⟨rfl, h4, r4⟩
  haveI : Tb W4 := r4.tb
  haveI : From w W4 := r4.from_ w
  haveI bR4 : BlockAt W4 (w.heap.size) #[.int .i64 0, .int .i64 0, .int .i64 0, .int .i64 0, .int .i64 0] 29 := BlockAt.grown inferInstance r4.g (fun e => by have := Option.some.inj e; omega)
  haveI bX4 : BlockAt W4 (W1.heap.size) #[.int .i64 (nW s 1), .int .i64 0, .int .i64 (nW s 2), .int .i64 0, .int .i64 0] 29 := BlockAt.grown inferInstance r4.g (fun e => by have := Option.some.inj e; omega)
  haveI bL4 : BlockAt W4 (W1.heap.size + 1) #[.pointer (some ⟨W1.heap.size, 0, none⟩), .pointer (some ⟨W1.heap.size, 2, none⟩), .pointer (some ⟨W1.heap.size, 1, none⟩), .pointer (some ⟨W1.heap.size, 3, none⟩), .pointer (some ⟨W1.heap.size, 4, none⟩)] 70 := BlockAt.grown inferInstance r4.g (fun e => by have := Option.some.inj e; omega)
  have cX4 : W4.cell? ⟨W1.heap.size, 1, none⟩ = some (.int .i64 0) := (block_cells _ _ _ _ _).trans rfl
  have fX4 : W4.frozen? ⟨W1.heap.size, 1, none⟩ = false := block_frozen _ _ _ _ _
  have cL4 : W4.cell? ⟨W1.heap.size + 1, 3, none⟩ = some (.pointer (some ⟨W1.heap.size, 3, none⟩)) := (block_cells _ _ _ _ _).trans rfl
  have hb4 : Below w.heap.size w W4 := Below.trans (by (repeat (first | with_reducible exact hb3 | with_reducible refine below_set_le ?_ (by omega) _))) (r4.below (by omega) (by simp [World.setCell]; have := (inferInstance : From w W3).le; omega))
  have H4 := Lib.hid h4; clear h4 r4
  go_wp2
  rw [rounds_succ]
  go_wp2_with ((go_at_call 29; ((with_reducible refine (small_w s 4 (w.heap.size + 1 + 1) _ (((false || bW s 1) || bW s 2) || bW s 3) ?ws4).mono ?_))))
  case ws4 => exact H4.out.set_other (.int .i64 0) _ (by omega) ((block_cells _ _ _ _ _).trans rfl) (fun _ e => by cases e)
  rintro _ W5 ⟨rfl, h5, r5⟩
  haveI : Tb W5 := r5.tb
  haveI : From w W5 := r5.from_ w
  haveI bR5 : BlockAt W5 (w.heap.size) #[.int .i64 0, .int .i64 0, .int .i64 0, .int .i64 0, .int .i64 0] 29 := BlockAt.grown inferInstance r5.g (fun e => by have := Option.some.inj e; omega)
  haveI bX5 : BlockAt W5 (W1.heap.size) #[.int .i64 (nW s 1), .int .i64 (nW s 3), .int .i64 (nW s 2), .int .i64 0, .int .i64 0] 29 := BlockAt.grown inferInstance r5.g (fun e => by have := Option.some.inj e; omega)
  haveI bL5 : BlockAt W5 (W1.heap.size + 1) #[.pointer (some ⟨W1.heap.size, 0, none⟩), .pointer (some ⟨W1.heap.size, 2, none⟩), .pointer (some ⟨W1.heap.size, 1, none⟩), .pointer (some ⟨W1.heap.size, 3, none⟩), .pointer (some ⟨W1.heap.size, 4, none⟩)] 70 := BlockAt.grown inferInstance r5.g (fun e => by have := Option.some.inj e; omega)
  have cX5 : W5.cell? ⟨W1.heap.size, 3, none⟩ = some (.int .i64 0) := (block_cells _ _ _ _ _).trans rfl
  have fX5 : W5.frozen? ⟨W1.heap.size, 3, none⟩ = false := block_frozen _ _ _ _ _
  have cL5 : W5.cell? ⟨W1.heap.size + 1, 4, none⟩ = some (.pointer (some ⟨W1.heap.size, 4, none⟩)) := (block_cells _ _ _ _ _).trans rfl
  have hb5 : Below w.heap.size w W5 := Below.trans (by (repeat (first | with_reducible exact hb4 | with_reducible refine below_set_le ?_ (by omega) _))) (r5.below (by omega) (by simp [World.setCell]; have := (inferInstance : From w W4).le; omega))
  have H5 := Lib.hid h5; clear h5 r5
  go_wp2
  rw [rounds_succ]
  go_wp2_with ((go_at_call 29; ((with_reducible refine (small_w s 5 (w.heap.size + 1 + 1) _ ((((false || bW s 1) || bW s 2) || bW s 3) || bW s 4) ?ws5).mono ?_))))
  case ws5 => exact H5.out.set_other (.int .i64 0) _ (by omega) ((block_cells _ _ _ _ _).trans rfl) (fun _ e => by cases e)
  rintro _ W6 ⟨rfl, h6, r6⟩
  haveI : Tb W6 := r6.tb
  haveI : From w W6 := r6.from_ w
  haveI bR6 : BlockAt W6 (w.heap.size) #[.int .i64 0, .int .i64 0, .int .i64 0, .int .i64 0, .int .i64 0] 29 := BlockAt.grown inferInstance r6.g (fun e => by have := Option.some.inj e; omega)
  haveI bX6 : BlockAt W6 (W1.heap.size) #[.int .i64 (nW s 1), .int .i64 (nW s 3), .int .i64 (nW s 2), .int .i64 (nW s 4), .int .i64 0] 29 := BlockAt.grown inferInstance r6.g (fun e => by have := Option.some.inj e; omega)
  haveI bL6 : BlockAt W6 (W1.heap.size + 1) #[.pointer (some ⟨W1.heap.size, 0, none⟩), .pointer (some ⟨W1.heap.size, 2, none⟩), .pointer (some ⟨W1.heap.size, 1, none⟩), .pointer (some ⟨W1.heap.size, 3, none⟩), .pointer (some ⟨W1.heap.size, 4, none⟩)] 70 := BlockAt.grown inferInstance r6.g (fun e => by have := Option.some.inj e; omega)
  have cX6 : W6.cell? ⟨W1.heap.size, 4, none⟩ = some (.int .i64 0) := (block_cells _ _ _ _ _).trans rfl
  have fX6 : W6.frozen? ⟨W1.heap.size, 4, none⟩ = false := block_frozen _ _ _ _ _
  have hb6 : Below w.heap.size w W6 := Below.trans (by (repeat (first | with_reducible exact hb5 | with_reducible refine below_set_le ?_ (by omega) _))) (r6.below (by omega) (by simp [World.setCell]; have := (inferInstance : From w W5).le; omega))
  have H6 := Lib.hid h6; clear h6 r6
  go_wp2
  rw [rounds_succ]
  have hlt6 : w.heap.size + 1 + 1 < W1.heap.size := hP1
  have e1 : (w.heap.size + 1 + 1 = W1.heap.size) = False := by simp; omega
  have e2 : (W1.heap.size = w.heap.size + 1 + 1) = False := by simp; omega
  have e3 : (w.heap.size = W1.heap.size) = False := by simp; omega
  have e4 : (W1.heap.size = w.heap.size) = False := by simp; omega
  have hBAD : (((((false || bW s 1) || bW s 2) || bW s 3) || bW s 4) || bW s 5) = badW s := by simp [badW, Bool.or_assoc]
  have p1 := H6.out.c1
  rw [hBAD] at p1
  obtain ⟨A6, n6, p0, hn6, _, _⟩ := H6.out.c0
  have x0 : W6.cell? ⟨W1.heap.size, 0, none⟩ = some (.int .i64 (nW s 1)) := (block_cells _ _ _ _ _).trans rfl
  have x1 : W6.cell? ⟨W1.heap.size, 1, none⟩ = some (.int .i64 (nW s 3)) := (block_cells _ _ _ _ _).trans rfl
  have x2 : W6.cell? ⟨W1.heap.size, 2, none⟩ = some (.int .i64 (nW s 2)) := (block_cells _ _ _ _ _).trans rfl
  have x3 : W6.cell? ⟨W1.heap.size, 3, none⟩ = some (.int .i64 (nW s 4)) := (block_cells _ _ _ _ _).trans rfl
  have y0 : W6.cell? ⟨w.heap.size, 0, none⟩ = some (.int .i64 0) := (block_cells _ _ _ _ _).trans rfl
  have y1 : W6.cell? ⟨w.heap.size, 1, none⟩ = some (.int .i64 0) := (block_cells _ _ _ _ _).trans rfl
  have y2 : W6.cell? ⟨w.heap.size, 2, none⟩ = some (.int .i64 0) := (block_cells _ _ _ _ _).trans rfl
  have y3 : W6.cell? ⟨w.heap.size, 3, none⟩ = some (.int .i64 0) := (block_cells _ _ _ _ _).trans rfl
  have y4 : W6.cell? ⟨w.heap.size, 4, none⟩ = some (.int .i64 0) := (block_cells _ _ _ _ _).trans rfl
  have z0 : W6.frozen? ⟨w.heap.size, 0, none⟩ = false := block_frozen _ _ _ _ _
  have z1 : W6.frozen? ⟨w.heap.size, 1, none⟩ = false := block_frozen _ _ _ _ _
  have z2 : W6.frozen? ⟨w.heap.size, 2, none⟩ = false := block_frozen _ _ _ _ _
  have z3 : W6.frozen? ⟨w.heap.size, 3, none⟩ = false := block_frozen _ _ _ _ _
  have z4 : W6.frozen? ⟨w.heap.size, 4, none⟩ = false := block_frozen _ _ _ _ _
  haveI : Old w.heap.size W6 := bR6.old
  haveI : Old W1.heap.size W6 := bX6.old
  haveI : Old (w.heap.size + 1 + 1) W6 := H6.out.old
  rcases Bool.eq_false_or_eq_true (badW s) with hB | hB
  · rw [hB] at p1
    have hg : goodSt s = false := by
      cases h : goodSt s with
      | false => rfl
      | true => rw [(good_words h).1] at hB; cases hB
    have HG := Lib.hid hg; clear hg hB hBAD
    go_wp2
    exact bodyPost_ret (v := .tuple #[.agg #[.int .i64 0, .int .i64 0, .int .i64 0, .int .i64 0, .int .i64 0], .int .i64 4]) (by simp [results, Tryd.results10, go_sem, e1, e2, e3, e4, x0, x1, x2, x3, y0, y1, y2, y3, y4, z0, z1, z2, z3, z4]) rfl ⟨st_no HG.out, Gr.of (by repeat (first | with_reducible exact hb6 | with_reducible refine below_set_le ?_ (by omega) _ | with_reducible refine below_trans ?_ (grown_below _ _)))⟩
  · rw [hB] at p1
    rcases Nat.eq_zero_or_pos ((wordsB 32 s).drop 6).length with hL | hL
    · rw [hL] at p0
      rcases Bool.eq_false_or_eq_true (mayStB (nW s 1) (nW s 3) (nW s 2) (nW s 4) (nW s 5)) with hM | hM
      · have HM := Lib.hid (fun W => mayStage_any (nW s 1) (nW s 3) (nW s 2) (nW s 4) (nW s 5) W)
        rw [hM] at HM
        have HT := Lib.hid (fun W (_ : Tb W) => stageText_any (nW s 1) (nW s 3) (nW s 2) (nW s 4) (nW s 5) (bd_nW s) W)
        rcases Bool.eq_false_or_eq_true (stageTextL (nW s 1) (nW s 3) (nW s 2) (nW s 4) (nW s 5) == s.data.toList) with hS | hS
        · have hg : goodSt s = true := by rw [goodSt, hM, hS]; rfl
          have HG := Lib.hid hg; clear hg
          have hne : (stageTextL (nW s 1) (nW s 3) (nW s 2) (nW s 4) (nW s 5) == s.toList) = true := by rw [Lib.toList_data]; exact hS
          clear hS hM hB hBAD hL
          go_wp2_with (first | (go_at_call 13; ((with_reducible refine (HM.out _).mono ?_); rintro _ _ ⟨rfl, g1, rfl⟩)) | (go_at_call 30; ((with_reducible refine (HT.out _ inferInstance).mono ?_); rintro _ _ ⟨rfl, g2, rfl⟩)))
          exact bodyPost_ret (v := .tuple #[.agg #[.int .i64 (nW s 1), .int .i64 (nW s 3), .int .i64 (nW s 2), .int .i64 (nW s 4), .int .i64 (nW s 5)], .int .i64 0]) (by simp [results, Tryd.results10, go_sem, e1, e2, e3, e4, x0, x1, x2, x3, y0, y1, y2, y3, y4, z0, z1, z2, z3, z4]) rfl ⟨st_yes HG.out, Gr.of (by repeat (first | with_reducible exact hb6 | with_reducible refine below_set_le ?_ (by omega) _ | with_reducible refine below_trans ?_ (grown_below _ _)))⟩
        · have hg : goodSt s = false := by rw [goodSt, hM, hS]; rfl
          have HG := Lib.hid hg; clear hg
          have hne : (stageTextL (nW s 1) (nW s 3) (nW s 2) (nW s 4) (nW s 5) == s.toList) = false := by rw [Lib.toList_data]; exact hS
          clear hS hM hB hBAD hL
          go_wp2_with (first | (go_at_call 13; ((with_reducible refine (HM.out _).mono ?_); rintro _ _ ⟨rfl, g1, rfl⟩)) | (go_at_call 30; ((with_reducible refine (HT.out _ inferInstance).mono ?_); rintro _ _ ⟨rfl, g2, rfl⟩)))
          exact bodyPost_ret (v := .tuple #[.agg #[.int .i64 0, .int .i64 0, .int .i64 0, .int .i64 0, .int .i64 0], .int .i64 4]) (by simp [results, Tryd.results10, go_sem, e1, e2, e3, e4, x0, x1, x2, x3, y0, y1, y2, y3, y4, z0, z1, z2, z3, z4]) rfl ⟨st_no HG.out, Gr.of (by repeat (first | with_reducible exact hb6 | with_reducible refine below_set_le ?_ (by omega) _ | with_reducible refine below_trans ?_ (grown_below _ _)))⟩
      · have HM := Lib.hid (fun W => mayStage_any (nW s 1) (nW s 3) (nW s 2) (nW s 4) (nW s 5) W)
        rw [hM] at HM
        have hg : goodSt s = false := by rw [goodSt, hM]; rfl
        have HG := Lib.hid hg; clear hg hM hB hBAD hL
        go_wp2_with ((go_at_call 13; ((with_reducible refine (HM.out _).mono ?_); rintro _ _ ⟨rfl, g1, rfl⟩)))
        exact bodyPost_ret (v := .tuple #[.agg #[.int .i64 0, .int .i64 0, .int .i64 0, .int .i64 0, .int .i64 0], .int .i64 4]) (by simp [results, Tryd.results10, go_sem, e1, e2, e3, e4, x0, x1, x2, x3, y0, y1, y2, y3, y4, z0, z1, z2, z3, z4]) rfl ⟨st_no HG.out, Gr.of (by repeat (first | with_reducible exact hb6 | with_reducible refine below_set_le ?_ (by omega) _ | with_reducible refine below_trans ?_ (grown_below _ _)))⟩
    · have hg : goodSt s = false := by
        cases h : goodSt s with
        | false => rfl
        | true => rw [(good_words h).2] at hL; simp at hL
      have HG := Lib.hid hg; clear hg hB hBAD
      generalize ((wordsB 32 s).drop 6).length = q at *
      go_wp2
      exact bodyPost_ret (v := .tuple #[.agg #[.int .i64 0, .int .i64 0, .int .i64 0, .int .i64 0, .int .i64 0], .int .i64 4]) (by simp [results, Tryd.results10, go_sem, e1, e2, e3, e4, x0, x1, x2, x3, y0, y1, y2, y3, y4, z0, z1, z2, z3, z4]) rfl ⟨st_no HG.out, Gr.of (by repeat (first | with_reducible exact hb6 | with_reducible refine below_set_le ?_ (by omega) _ | with_reducible refine below_trans ?_ (grown_below _ _)))⟩
end Go.Proofs.YtgjdgafoidppaaaDoor
