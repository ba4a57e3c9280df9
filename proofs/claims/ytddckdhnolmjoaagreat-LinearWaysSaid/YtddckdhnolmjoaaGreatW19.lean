/- The chapter's rows of layer 24: known; linear.Explain. Conditions: none. Opening a law's arguments, and reading them again behind the .. -/
import Derived.Test.YtddckdhnolmjoaaGreatW17
import Derived.Test.YtddckdhnolmjoaaGreatW18
import Derived.Test.YtddckdhnolmjoaaGreatW01
import Derived.Carry
import Derived.Deep.Fields
import Derived.ShutString
set_option linter.unusedVariables false
set_option linter.unusedSimpArgs false
set_option linter.unnecessarySimpa false
set_option maxRecDepth 100000
set_option maxHeartbeats 8000000
namespace Go.Proofs.YtddckdhnolmjoaaGreat
open Go.RowKit
theorem explain_any (f : Nat) (l : List CallC) (A : Option Addr) (n cap : Nat) (W : World) (hn : l.length = n) (hne : l ≠ []) (hn9 : n ≤ 9) (hok : ∀ c ∈ l, MomOk c) (hck : ∀ c ∈ l, CallOk W c) (hs : ∀ j x y, (momK l)[j]? = some x → (momK l)[j + 1]? = some y → x.1 < y.1) (hr : RowN callE W A l) {cnt : Nat} {code : Int} (hrun : runK f (momK l) ⟨[([], [])], none, none, []⟩ = some (cnt, code)) : Calls Tryz.prog 16 #[.slice A n cap] W fun e w' => e = .returned (.int .i64 code) ∧ Gr W w' := by
 have HW := hd_ (fun W' (g : Gr W W') => worlds_any f l A n cap W' hn hne hn9 hok (fun c hc => (hck c hc).gr g) hs (hr.gr g) hrun)
 clear hn hne hn9 hok hck hs hr hrun
 go_enter Tryz.func16, Tryz.ntmps16
 go_wp2_with (first | (go_at_call 14; ((with_reducible refine (HW.out _ gri).mono ?_); rintro _ _ ⟨rfl, ⟨g1, rfl⟩⟩)))
 go_ret
 exact ⟨rfl, gri⟩
def kA : CallC := ⟨1, 0, ⟨⟨1, 1, 0, 1, 0, 0, []⟩, none, 0, 0⟩, 1, 0, 0, false, 1, 2, ⟨0, 0, [], none, 0, 0⟩⟩
def kB : CallC := ⟨2, 1, ⟨⟨9, 1, 0, 0, 0, 1, []⟩, none, 0, 0⟩, 3, 0, 0, true, -1, 4, ⟨6, 0, [], none, 0, 0⟩⟩
def kC (B : Nat) : CallC := ⟨3, 1, ⟨⟨9, 1, 0, 0, 0, 1, []⟩, none, 0, 0⟩, 5, 0, 0, true, -1, 6, ⟨0, 0, List.replicate 64 0, some ⟨B, 0, none⟩, 64, 64⟩⟩
def kD : CallC := ⟨4, 1, ⟨⟨9, 1, 0, 0, 0, 1, []⟩, none, 0, 0⟩, 7, 0, 0, true, -1, 8, ⟨6, 0, [], none, 0, 0⟩⟩
theorem CellsN.rows2 {α : Type} {e : EK α} (he : e.Is) {W : World} {B : Nat} {cs : Array Value} {t : TypeId} (xs : List α) (hok : ∀ x ∈ xs, e.ok x) (h : BlockAt W B cs t) (hc : cs.toList = xs.flatMap e.cs) : CellsN e W B 0 xs := fun j x hj i u hu => by
 have := flatN_at he xs hok j i x u hj hu
 rw [Nat.zero_add, block_cells W B _ cs t, ← Array.getElem?_toList, hc]
 exact this
theorem callOk_0 (num node k v s a c at_ : Int) (fr tt : Int) (dn : Bool) (gone seq code done : Int) (hv : 0 ≤ v) (h0 : 0 ≤ num) (h1 : num < 18446744073709551616) (W : World) : CallOk W ⟨num, node, ⟨⟨k, v, 0, s, a, c, []⟩, none, 0, 0⟩, at_, fr, tt, dn, gone, seq, ⟨code, done, [], none, 0, 0⟩⟩ where
 op := ⟨rfl, Nat.le_refl _, Nat.zero_le _, ⟨fun h => absurd rfl h⟩, hv, by show (0 : Int) ≤ 0; omega⟩
 an := ⟨rfl, Nat.le_refl _, Nat.zero_le _, fun _ => rfl, fun h => absurd rfl h⟩
 n0 := h0
 n1 := h1
theorem callOk_C (W : World) (C : Nat) (hC : BlockAt W C (bkC (List.replicate 64 0)) 5) : CallOk W (kC C) where
 op := ⟨rfl, Nat.le_refl _, Nat.zero_le _, ⟨fun h => absurd rfl h⟩, by show (0 : Int) ≤ 1; omega, by show (0 : Int) ≤ 0; omega⟩
 an := ⟨rfl, Nat.le_refl _, by show 64 ≤ 1000000; omega, fun h => (by cases h), fun _ => ⟨C, 0, _, _, rfl, Nat.zero_le _, hC.eq, fun j y hj => by
  rw [Nat.zero_add, bc _ hC]
  exact bkC_at hj⟩⟩
 n0 := by show (0 : Int) ≤ 3; omega
 n1 := by show (3 : Int) < 18446744073709551616; omega
theorem k_run3 (C : Nat) : runK 100 (momK [kA, kB, kC C]) ⟨[([], [])], none, none, []⟩ = some (1, 0) := by kernel_rfl
theorem k_run4 (C : Nat) : runK 100 (momK [kA, kB, kC C, kD]) ⟨[([], [])], none, none, []⟩ = some (0, 9) := by kernel_rfl
theorem k_ord (C : Nat) (l : List CallC) (hl : l = [kA, kB, kC C] ∨ l = [kA, kB, kC C, kD]) : ∀ j x y, (momK l)[j]? = some x → (momK l)[j + 1]? = some y → x.1 < y.1 := fun j x y hx hy => by
 rcases hl with rfl | rfl
 ·match j with
  | 0 | 1 | 2 | 3 | 4 => simp [momK, mom2, kA, kB, kC] at hx hy; subst hx hy; (first | decide | simp)
  | j + 5 => simp [momK, mom2] at hy
 ·match j with
  | 0 | 1 | 2 | 3 | 4 | 5 | 6 => simp [momK, mom2, kA, kB, kC, kD] at hx hy; subst hx hy; (first | decide | simp)
  | j + 7 => simp [momK, mom2] at hy
theorem k_mom (C : Nat) (l : List CallC) (hl : l = [kA, kB, kC C] ∨ l = [kA, kB, kC C, kD]) : ∀ c ∈ l, MomOk c := fun c hc => by
 rcases hl with rfl | rfl <;> simp only [List.mem_cons, List.mem_nil_iff, or_false] at hc
 ·rcases hc with rfl | rfl | rfl <;> exact ⟨by simp [kA, kB, kC, kD], by simp [kA, kB, kC, kD], by simp [kA, kB, kC, kD], by simp [kA, kB, kC, kD], by simp [kA, kB, kC, kD]⟩
 ·rcases hc with rfl | rfl | rfl | rfl <;> exact ⟨by simp [kA, kB, kC, kD], by simp [kA, kB, kC, kD], by simp [kA, kB, kC, kD], by simp [kA, kB, kC, kD], by simp [kA, kB, kC, kD]⟩
theorem k_ok (C : Nat) (W : World) (hC : BlockAt W C (bkC (List.replicate 64 0)) 5) (l : List CallC) (hl : l = [kA, kB, kC C] ∨ l = [kA, kB, kC C, kD]) : ∀ c ∈ l, CallOk W c := fun c hc => by
 have hA : CallOk W kA := callOk_0 _ _ _ _ _ _ _ _ _ _ _ _ _ _ _ (by decide) (by decide) (by decide) W
 have hB : CallOk W kB := callOk_0 _ _ _ _ _ _ _ _ _ _ _ _ _ _ _ (by decide) (by decide) (by decide) W
 have hD : CallOk W kD := callOk_0 _ _ _ _ _ _ _ _ _ _ _ _ _ _ _ (by decide) (by decide) (by decide) W
 rcases hl with rfl | rfl <;> simp only [List.mem_cons, List.mem_nil_iff, or_false] at hc
 ·rcases hc with rfl | rfl | rfl
  ·exact hA
  ·exact hB
  ·exact callOk_C W C hC
 ·rcases hc with rfl | rfl | rfl | rfl
  ·exact hA
  ·exact hB
  ·exact callOk_C W C hC
  ·exact hD
def zK64 : Array Value := bkC (List.replicate 64 0)
theorem mkK64 (w : World) : (Instr.makeSlice 25 (.int .i64 64) (.int .i64 64)).run Tryz.prog w = .ok (.slice (some ⟨w.heap.size, 0, none⟩) 64 64) (w.alloc (.cells zK64 5)) := by kernel_rfl
theorem explain3 (W : World) (R C : Nat) (hR : BlockAt W R #[.int .u64 1, .int .i64 0, .int .i64 1, .int .u64 1, .int .u64 0, .int .i64 1, .int .i64 0, .int .i64 0, .slice none 0 0, .int .i64 1, .int .i64 0, .int .i64 0, .bool false, .int .i64 1, .int .i64 2, .int .i64 0, .int .i64 0, .slice none 0 0, .int .u64 2, .int .i64 1, .int .i64 9, .int .u64 1, .int .u64 0, .int .i64 0, .int .i64 0, .int .i64 1, .slice none 0 0, .int .i64 3, .int .i64 0, .int .i64 0, .bool true, .int .i64 (-1), .int .i64 4, .int .i64 6, .int .i64 0, .slice none 0 0, .int .u64 3, .int .i64 1, .int .i64 9, .int .u64 1, .int .u64 0, .int .i64 0, .int .i64 0, .int .i64 1, .slice none 0 0, .int .i64 5, .int .i64 0, .int .i64 0, .bool true, .int .i64 (-1), .int .i64 6, .int .i64 0, .int .i64 0, .slice (some ⟨C, 0, none⟩) 64 64] 51) (hC : BlockAt W C zK64 5) : Calls Tryz.prog 16 #[.slice (some ⟨R, 0, none⟩) 3 3] W fun e w' => e = .returned (.int .i64 0) ∧ Gr W w' :=
 explain_any 100 [kA, kB, kC C] _ 3 3 W rfl (by simp) (by omega) (k_mom C _ (.inl rfl)) (k_ok C W hC _ (.inl rfl)) (k_ord C _ (.inl rfl)) ⟨fun _ _ => trivial, fun _ => ⟨R, 0, rfl, hR.lt, CellsN.rows2 callIs _ (fun _ _ => trivial) hR rfl⟩⟩ (k_run3 C)
theorem explain4 (W : World) (R C : Nat) (hR : BlockAt W R #[.int .u64 1, .int .i64 0, .int .i64 1, .int .u64 1, .int .u64 0, .int .i64 1, .int .i64 0, .int .i64 0, .slice none 0 0, .int .i64 1, .int .i64 0, .int .i64 0, .bool false, .int .i64 1, .int .i64 2, .int .i64 0, .int .i64 0, .slice none 0 0, .int .u64 2, .int .i64 1, .int .i64 9, .int .u64 1, .int .u64 0, .int .i64 0, .int .i64 0, .int .i64 1, .slice none 0 0, .int .i64 3, .int .i64 0, .int .i64 0, .bool true, .int .i64 (-1), .int .i64 4, .int .i64 6, .int .i64 0, .slice none 0 0, .int .u64 3, .int .i64 1, .int .i64 9, .int .u64 1, .int .u64 0, .int .i64 0, .int .i64 0, .int .i64 1, .slice none 0 0, .int .i64 5, .int .i64 0, .int .i64 0, .bool true, .int .i64 (-1), .int .i64 6, .int .i64 0, .int .i64 0, .slice (some ⟨C, 0, none⟩) 64 64, .int .u64 4, .int .i64 1, .int .i64 9, .int .u64 1, .int .u64 0, .int .i64 0, .int .i64 0, .int .i64 1, .slice none 0 0, .int .i64 7, .int .i64 0, .int .i64 0, .bool true, .int .i64 (-1), .int .i64 8, .int .i64 6, .int .i64 0, .slice none 0 0] 51) (hC : BlockAt W C zK64 5) : Calls Tryz.prog 16 #[.slice (some ⟨R, 0, none⟩) 4 4] W fun e w' => e = .returned (.int .i64 9) ∧ Gr W w' :=
 explain_any 100 [kA, kB, kC C, kD] _ 4 4 W rfl (by simp) (by omega) (k_mom C _ (.inr rfl)) (k_ok C W hC _ (.inr rfl)) (k_ord C _ (.inr rfl)) ⟨fun _ _ => trivial, fun _ => ⟨R, 0, rfl, hR.lt, CellsN.rows2 callIs _ (fun _ _ => trivial) hR rfl⟩⟩ (k_run4 C)
theorem run_su {W : World} {B o : Nat} {cs : Array Value} {u : Value} {n : Int} (hB : BlockAt W B cs 51) (h0 : cs[o]? = some u) : (storeVar 24 ⟨B, o, none⟩ (.int .u64 n)).run Tryz.prog W = .ok () (W.setCell ⟨B, o, none⟩ (.int .u64 n)) := by
 have cxd : W.cell? ⟨B, o, none⟩ = some u := (bc o hB).trans h0
 have fxd : W.frozen? ⟨B, o, none⟩ = false := @block_frozen _ _ o _ _ hB
 go_simp
theorem run_si {W : World} {B o : Nat} {cs : Array Value} {u : Value} {n : Int} (hB : BlockAt W B cs 51) (h0 : cs[o]? = some u) : (storeVar 3 ⟨B, o, none⟩ (.int .i64 n)).run Tryz.prog W = .ok () (W.setCell ⟨B, o, none⟩ (.int .i64 n)) := by
 have cxd : W.cell? ⟨B, o, none⟩ = some u := (bc o hB).trans h0
 have fxd : W.frozen? ⟨B, o, none⟩ = false := @block_frozen _ _ o _ _ hB
 go_simp
theorem call_info : (Tryz.prog.info? 51).map (·.size) = some 18 := by kernel_rfl
theorem load_call {W : World} {B : Nat} {cs : Array Value} [h : BlockAt W B cs 51] (hs : cs.size = 18) : (Instr.loadAt 51 (.pointer (some ⟨B, 0, none⟩))).run Tryz.prog W = .ok (.agg cs) W := by
 have hc : ∀ j v, cs.toList[j]? = some v → W.cell? ((⟨B, 0, none⟩ : Addr).add j) = some v := fun j v hv => by
  rw [Go.WideShapes.add_plain, Nat.zero_add, block_cells W B _ cs 51, ← Array.getElem?_toList]
  exact hv
 have hl : (loadCells ⟨B, 0, none⟩ cs.size).run Tryz.prog W = .ok cs W := by
  have := run_loadCells_list (P := Tryz.prog) W ⟨B, 0, none⟩ cs.toList hc
  simpa using this
 have hrun : (loadVar 51 ⟨B, 0, none⟩).run Tryz.prog W = .ok (.agg cs) W := by
  have hi := call_info
  cases hq : Tryz.prog.info? 51 with
  | none => simp [hq] at hi
  | some i =>
   have hz : i.size = cs.toList.length := by rw [hq] at hi; simp at hi; rw [hi, Array.length_toList, hs]
   have hagg : (isAgg 51).run Tryz.prog W = .ok true W := by
    unfold isAgg
    rw [Sem.run_bind, run_underlying Tryz.underlying51 W]
    rfl
   simp [loadVar, Sem.run_bind, hagg, sizeOf, typeInfo, hq, hz, hl]
 simp only [Instr.loadAt, Instr.sureAddr, Sem.run_bind, Sem.run_pure, Result.andThen_ok, hrun]
theorem wpLoadCallW {W : World} {ops : Array Oper} {rest : List Oper} {o : Oper} {a : Act} {Q : Exit → Act → World → Prop} {B : Nat} {cs : Array Value} (hB : BlockAt W B cs 51) (hw : Region.wanted o (yielded ops a.tmps) = true) (x : Operand) (ho : o.op = .load 51 x) (hx : a.eval x = .pointer (some ⟨B, 0, none⟩)) (hs : cs.size = 18)
  (h : wpList Tryz.prog ops Q rest (a.put o.dst (.agg cs)) W) : wpList Tryz.prog ops Q (o :: rest) a W := by
 have hr := load_call (h := hB) hs
 unfold wpList
 rw [if_pos hw]
 refine .inl ?_
 unfold Oper.wp execOp
 simp only [ho, hx, Sem.run_bind, Sem.run_pure, Result.andThen_ok, hr]
 exact h
theorem known24_any : KnownOk := fun w => by
 have hmk := mkK64
 have K3 := hd_ (fun W R C => explain3 W R C)
 have K4 := hd_ (fun W R C => explain4 W R C)
 go_enter Tryz.func6, Tryz.ntmps6
 go_wp2_with (first
  | (refine wp_storeCall (W0 := w) rfl _ _ rfl w.heap.size kA _ rfl rfl inferInstance rfl gri (Nat.le_refl _) ?_; obtain ⟨BA, hBA⟩ : ∃ B, B = w.heap.size := ⟨_, rfl⟩; rw [← hBA]; intro W1 gA bA; have HBA := hd_ (show BlockAt W1 BA #[.int .u64 1, .int .i64 0, .int .i64 1, .int .u64 1, .int .u64 0, .int .i64 1, .int .i64 0, .int .i64 0, .slice none 0 0, .int .i64 1, .int .i64 0, .int .i64 0, .bool false, .int .i64 1, .int .i64 2, .int .i64 0, .int .i64 0, .slice none 0 0] 51 from bA); have GA := hd_ gA; haveI := bA.old; haveI := grc_of GA.out; haveI := from_of GA.out; clear hBA gA bA)
  | (refine wp_storeCall (W0 := W1) rfl _ _ rfl W1.heap.size kB _ rfl rfl inferInstance rfl gri (Nat.le_refl _) ?_; obtain ⟨BB, hBB⟩ : ∃ B, B = W1.heap.size := ⟨_, rfl⟩; rw [← hBB]; intro W2 gB bB; have HBB := hd_ (show BlockAt W2 BB #[.int .u64 2, .int .i64 1, .int .i64 9, .int .u64 1, .int .u64 0, .int .i64 0, .int .i64 0, .int .i64 1, .slice none 0 0, .int .i64 3, .int .i64 0, .int .i64 0, .bool true, .int .i64 (-1), .int .i64 4, .int .i64 6, .int .i64 0, .slice none 0 0] 51 from bB); have GB := hd_ gB; haveI := bB.old; haveI := (HBA.out.gr gB).old; haveI := grc_of gB; haveI := from_of gB; haveI := grc_of (GA.out.trans gB); haveI := from_of (GA.out.trans gB); clear hBB gB bB)
  | (refine wp_storeCall (W0 := W2.alloc (.cells zK64 5)) rfl _ _ rfl (W2.heap.size + 1) (kC W2.heap.size) _ rfl rfl inferInstance rfl gri (by simp) ?_; obtain ⟨BC, hBC⟩ : ∃ B, B = W2.heap.size + 1 := ⟨_, rfl⟩; rw [← hBC]; intro W3 gC bC; have hcz : BlockAt W3 W2.heap.size zK64 5 := (inferInstance : BlockAt (W2.alloc (.cells zK64 5)) W2.heap.size zK64 5).gr gC; have g23 : Gr W2 W3 := Gr.trans gri gC; obtain ⟨C, hC⟩ : ∃ C, C = W2.heap.size := ⟨_, rfl⟩; rw [← hC] at bC hcz ⊢; have HBC := hd_ (show BlockAt W3 BC #[.int .u64 3, .int .i64 1, .int .i64 9, .int .u64 1, .int .u64 0, .int .i64 0, .int .i64 0, .int .i64 1, .slice none 0 0, .int .i64 5, .int .i64 0, .int .i64 0, .bool true, .int .i64 (-1), .int .i64 6, .int .i64 0, .int .i64 0, .slice (some ⟨C, 0, none⟩) 64 64] 51 from bC); have HCZ := hd_ hcz; have GC := hd_ g23; haveI := bC.old; haveI := hcz.old; haveI := (HBB.out.gr g23).old; haveI := (HBA.out.gr (GB.out.trans g23)).old; haveI := grc_of (GA.out.trans (GB.out.trans g23)); haveI := from_of (GA.out.trans (GB.out.trans g23)); have HRB0 := hd_ (show BlockAt W3 BB #[.int .u64 2, .int .i64 1, .int .i64 9, .int .u64 1, .int .u64 0, .int .i64 0, .int .i64 0, .int .i64 1, .slice none 0 0, .int .i64 3, .int .i64 0, .int .i64 0, .bool true, .int .i64 (-1), .int .i64 4, .int .i64 6, .int .i64 0, .slice none 0 0] 51 from (HBB.out.gr g23)); clear hBC gC bC hcz g23 hC)
  | (refine wpStoreG rfl _ _ rfl ⟨BD, 0, none⟩ (.int .u64 4) rfl rfl _ (run_su HBD.out rfl) ?_; obtain ⟨W5, hWW5⟩ : ∃ W, W = W4.setCell ⟨BD, 0, none⟩ (.int .u64 4) := ⟨_, rfl⟩; rw [← hWW5]; have bW5 : BlockAt W5 BD #[.int .u64 4, .int .i64 1, .int .i64 9, .int .u64 1, .int .u64 0, .int .i64 0, .int .i64 0, .int .i64 1, .slice none 0 0, .int .i64 3, .int .i64 0, .int .i64 0, .bool true, .int .i64 (-1), .int .i64 4, .int .i64 6, .int .i64 0, .slice none 0 0] 51 := (by rw [hWW5]; haveI := HBD.out; exact (inferInstance : BlockAt (W4.setCell ⟨BD, 0, none⟩ (.int .u64 4)) BD (#[.int .u64 2, .int .i64 1, .int .i64 9, .int .u64 1, .int .u64 0, .int .i64 0, .int .i64 0, .int .i64 1, .slice none 0 0, .int .i64 3, .int .i64 0, .int .i64 0, .bool true, .int .i64 (-1), .int .i64 4, .int .i64 6, .int .i64 0, .slice none 0 0].setIfInBounds 0 (.int .u64 4)) 51)); have gW5 : Gr W3 W5 := (by rw [hWW5]; exact Gr.of (GD.out.below.setCell (p := ⟨BD, 0, none⟩) HLD.out _)); have HBW5 := hd_ bW5; have HGW5 := hd_ gW5; haveI := bW5.old; clear hWW5 bW5 gW5)
  | (refine wpStoreG rfl _ _ rfl ⟨BD, 9, none⟩ (.int .i64 7) rfl rfl _ (run_si HBW5.out rfl) ?_; obtain ⟨W6, hWW6⟩ : ∃ W, W = W5.setCell ⟨BD, 9, none⟩ (.int .i64 7) := ⟨_, rfl⟩; rw [← hWW6]; have bW6 : BlockAt W6 BD #[.int .u64 4, .int .i64 1, .int .i64 9, .int .u64 1, .int .u64 0, .int .i64 0, .int .i64 0, .int .i64 1, .slice none 0 0, .int .i64 7, .int .i64 0, .int .i64 0, .bool true, .int .i64 (-1), .int .i64 4, .int .i64 6, .int .i64 0, .slice none 0 0] 51 := (by rw [hWW6]; haveI := HBW5.out; exact (inferInstance : BlockAt (W5.setCell ⟨BD, 9, none⟩ (.int .i64 7)) BD (#[.int .u64 4, .int .i64 1, .int .i64 9, .int .u64 1, .int .u64 0, .int .i64 0, .int .i64 0, .int .i64 1, .slice none 0 0, .int .i64 3, .int .i64 0, .int .i64 0, .bool true, .int .i64 (-1), .int .i64 4, .int .i64 6, .int .i64 0, .slice none 0 0].setIfInBounds 9 (.int .i64 7)) 51)); have gW6 : Gr W3 W6 := (by rw [hWW6]; exact Gr.of (HGW5.out.below.setCell (p := ⟨BD, 9, none⟩) HLD.out _)); have HBW6 := hd_ bW6; have HGW6 := hd_ gW6; haveI := bW6.old; clear hWW6 bW6 gW6)
  | (refine wpStoreG rfl _ _ rfl ⟨BD, 14, none⟩ (.int .i64 8) rfl rfl _ (run_si HBW6.out rfl) ?_; obtain ⟨W7, hWW7⟩ : ∃ W, W = W6.setCell ⟨BD, 14, none⟩ (.int .i64 8) := ⟨_, rfl⟩; rw [← hWW7]; have bW7 : BlockAt W7 BD #[.int .u64 4, .int .i64 1, .int .i64 9, .int .u64 1, .int .u64 0, .int .i64 0, .int .i64 0, .int .i64 1, .slice none 0 0, .int .i64 7, .int .i64 0, .int .i64 0, .bool true, .int .i64 (-1), .int .i64 8, .int .i64 6, .int .i64 0, .slice none 0 0] 51 := (by rw [hWW7]; haveI := HBW6.out; exact (inferInstance : BlockAt (W6.setCell ⟨BD, 14, none⟩ (.int .i64 8)) BD (#[.int .u64 4, .int .i64 1, .int .i64 9, .int .u64 1, .int .u64 0, .int .i64 0, .int .i64 0, .int .i64 1, .slice none 0 0, .int .i64 7, .int .i64 0, .int .i64 0, .bool true, .int .i64 (-1), .int .i64 4, .int .i64 6, .int .i64 0, .slice none 0 0].setIfInBounds 14 (.int .i64 8)) 51)); have gW7 : Gr W3 W7 := (by rw [hWW7]; exact Gr.of (HGW6.out.below.setCell (p := ⟨BD, 14, none⟩) HLD.out _)); have HBW7 := hd_ bW7; have HGW7 := hd_ gW7; haveI := bW7.old; have GW := hd_ (GA.out.trans (GB.out.trans (GC.out.trans gW7))); have HCZ5 := hd_ (HCZ.out.gr gW7); have HRA := hd_ (show BlockAt W7 BA #[.int .u64 1, .int .i64 0, .int .i64 1, .int .u64 1, .int .u64 0, .int .i64 1, .int .i64 0, .int .i64 0, .slice none 0 0, .int .i64 1, .int .i64 0, .int .i64 0, .bool false, .int .i64 1, .int .i64 2, .int .i64 0, .int .i64 0, .slice none 0 0] 51 from HBA.out.gr (GB.out.trans (GC.out.trans gW7))); have HRB := hd_ (show BlockAt W7 BB #[.int .u64 2, .int .i64 1, .int .i64 9, .int .u64 1, .int .u64 0, .int .i64 0, .int .i64 0, .int .i64 1, .slice none 0 0, .int .i64 3, .int .i64 0, .int .i64 0, .bool true, .int .i64 (-1), .int .i64 4, .int .i64 6, .int .i64 0, .slice none 0 0] 51 from HBB.out.gr (GC.out.trans gW7)); have HRC := hd_ (show BlockAt W7 BC #[.int .u64 3, .int .i64 1, .int .i64 9, .int .u64 1, .int .u64 0, .int .i64 0, .int .i64 0, .int .i64 1, .slice none 0 0, .int .i64 5, .int .i64 0, .int .i64 0, .bool true, .int .i64 (-1), .int .i64 6, .int .i64 0, .int .i64 0, .slice (some ⟨C, 0, none⟩) 64 64] 51 from HBC.out.gr gW7); have HRD := hd_ (show BlockAt W7 BD #[.int .u64 4, .int .i64 1, .int .i64 9, .int .u64 1, .int .u64 0, .int .i64 0, .int .i64 0, .int .i64 1, .slice none 0 0, .int .i64 7, .int .i64 0, .int .i64 0, .bool true, .int .i64 (-1), .int .i64 8, .int .i64 6, .int .i64 0, .slice none 0 0] 51 from bW7); haveI := HCZ5.out.old; haveI := (HBA.out.gr (GB.out.trans (GC.out.trans gW7))).old; haveI := (HBB.out.gr (GC.out.trans gW7)).old; haveI := (HBC.out.gr gW7).old; haveI := grc_of GW.out; haveI := from_of GW.out; clear hWW7 bW7 gW7)
  | (refine wpLoadCallW HRB0.out (by kernel_rfl) _ rfl rfl rfl ?_)
  | (refine wp_storeCall (W0 := W3) rfl _ _ rfl W3.heap.size kB _ rfl rfl inferInstance rfl gri (Nat.le_refl _) ?_; obtain ⟨BD, hBD⟩ : ∃ B, B = W3.heap.size := ⟨_, rfl⟩; rw [← hBD]; intro W4 gD bD; have HBD := hd_ (show BlockAt W4 BD #[.int .u64 2, .int .i64 1, .int .i64 9, .int .u64 1, .int .u64 0, .int .i64 0, .int .i64 0, .int .i64 1, .slice none 0 0, .int .i64 3, .int .i64 0, .int .i64 0, .bool true, .int .i64 (-1), .int .i64 4, .int .i64 6, .int .i64 0, .slice none 0 0] 51 from bD); have GD := hd_ gD; have HLD := hd_ (Nat.le_of_eq hBD.symm : W3.heap.size ≤ BD); haveI := bD.old; haveI := (HBA.out.gr (GB.out.trans (GC.out.trans gD))).old; haveI := (HBC.out.gr gD).old; clear hBD gD bD HRB0)
  | (refine wpLoadCallW HRA.out (by kernel_rfl) _ rfl rfl rfl ?_)
  | (refine wpLoadCallW HRB.out (by kernel_rfl) _ rfl rfl rfl ?_)
  | (refine wpLoadCallW HRC.out (by kernel_rfl) _ rfl rfl rfl ?_)
  | (refine wpLoadCallW HRD.out (by kernel_rfl) _ rfl rfl rfl ?_)
  | (go_at_call 16; (with_reducible refine (K3.out _ _ C inferInstance (HCZ5.out.gr gri)).mono ?_); rintro _ W8 ⟨rfl, hg8⟩; have g78 : Gr W7 W8 := Gr.trans gri hg8; have HCZ8 := hd_ (HCZ5.out.gr g78); have GW8 := hd_ (GW.out.trans g78); have H8A := hd_ (show BlockAt W8 BA #[.int .u64 1, .int .i64 0, .int .i64 1, .int .u64 1, .int .u64 0, .int .i64 1, .int .i64 0, .int .i64 0, .slice none 0 0, .int .i64 1, .int .i64 0, .int .i64 0, .bool false, .int .i64 1, .int .i64 2, .int .i64 0, .int .i64 0, .slice none 0 0] 51 from (HBA.out.gr (GB.out.trans (GC.out.trans (HGW7.out.trans g78))))); haveI := ((HBA.out.gr (GB.out.trans (GC.out.trans (HGW7.out.trans g78))))).old; have H8B := hd_ (show BlockAt W8 BB #[.int .u64 2, .int .i64 1, .int .i64 9, .int .u64 1, .int .u64 0, .int .i64 0, .int .i64 0, .int .i64 1, .slice none 0 0, .int .i64 3, .int .i64 0, .int .i64 0, .bool true, .int .i64 (-1), .int .i64 4, .int .i64 6, .int .i64 0, .slice none 0 0] 51 from (HBB.out.gr (GC.out.trans (HGW7.out.trans g78)))); haveI := ((HBB.out.gr (GC.out.trans (HGW7.out.trans g78)))).old; have H8C := hd_ (show BlockAt W8 BC #[.int .u64 3, .int .i64 1, .int .i64 9, .int .u64 1, .int .u64 0, .int .i64 0, .int .i64 0, .int .i64 1, .slice none 0 0, .int .i64 5, .int .i64 0, .int .i64 0, .bool true, .int .i64 (-1), .int .i64 6, .int .i64 0, .int .i64 0, .slice (some ⟨C, 0, none⟩) 64 64] 51 from (HBC.out.gr (HGW7.out.trans g78))); haveI := ((HBC.out.gr (HGW7.out.trans g78))).old; have H8D := hd_ (show BlockAt W8 BD #[.int .u64 4, .int .i64 1, .int .i64 9, .int .u64 1, .int .u64 0, .int .i64 0, .int .i64 0, .int .i64 1, .slice none 0 0, .int .i64 7, .int .i64 0, .int .i64 0, .bool true, .int .i64 (-1), .int .i64 8, .int .i64 6, .int .i64 0, .slice none 0 0] 51 from (HBW7.out.gr g78)); haveI := ((HBW7.out.gr g78)).old; haveI := grc_of GW8.out; haveI := from_of GW8.out; clear hg8 g78 HRA HRB HRC HRD)
  | (refine wpLoadCallW H8A.out (by kernel_rfl) _ rfl rfl rfl ?_)
  | (refine wpLoadCallW H8B.out (by kernel_rfl) _ rfl rfl rfl ?_)
  | (refine wpLoadCallW H8C.out (by kernel_rfl) _ rfl rfl rfl ?_)
  | (refine wpLoadCallW H8D.out (by kernel_rfl) _ rfl rfl rfl ?_)
  | (go_at_call 16; (with_reducible refine (K4.out _ _ C inferInstance (HCZ8.out.gr gri)).mono ?_); rintro _ _ ⟨rfl, ⟨g2, rfl⟩⟩))
 go_ret
 exact ⟨rfl, gri⟩
end Go.Proofs.YtddckdhnolmjoaaGreat
namespace Go.Proofs.YtddckdhnolmjoaaGreat
open Go.ChangeShapes Go.WideShapes Go.ChangeAt Go.RowKit Go.Deep
section
variable {H : Type} {enc : TypeId × Value → H} {P : Program}
def typesRead (P : Program) (ts : List TypeId) : Bool := ts.all fun t => P.readableRec t && decide (t < P.types.size)
theorem trodAll_below (hl : laidOutB P = true) {W W' : World} (hb : Below W.heap.size W W') :
  ∀ {ts : List TypeId} {vs : List Value} {ds : List (DataW H)} {ps : List MemPlace}, typesRead P ts = true →
   DataW.TrodAll enc P W 0 (fun _ => true) true ts vs ds ps → (∀ x ∈ ps, x.block < W.heap.size) → DataW.TrodAll enc P W' 0 (fun b => decide (b < W.heap.size)) true ts vs ds ps
 | [], [], [], _, _, h, _ => h
 | [], [], _ :: _, _, _, h, _ => h.elim
 | [], _ :: _, _, _, _, h, _ => h.elim
 | _ :: _, [], _, _, _, h, _ => h.elim
 | _ :: _, _ :: _, [], _, _, h, _ => h.elim
 | t :: ts, v :: vs, d :: ds, ps, hr, h, hlt => by
  obtain ⟨p, q, h1, h2, rfl⟩ := h
  simp only [typesRead, List.all_cons, Bool.and_eq_true, decide_eq_true_eq] at hr
  exact ⟨p, q, Below.trod hl hr.1.1 hr.1.2 h1 hb (fun x hx => hlt x (by simp [hx])), trodAll_below hl hb (by simpa [typesRead] using hr.2) h2 (fun x hx => hlt x (by simp [hx])), rfl⟩
variable {w : World} {base : Nat} {spare : Nat → Bool} {held : Bool}
end
end Go.Proofs.YtddckdhnolmjoaaGreat
