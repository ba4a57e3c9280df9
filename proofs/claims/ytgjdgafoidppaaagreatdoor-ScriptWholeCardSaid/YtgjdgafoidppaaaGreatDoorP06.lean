/- script's words.op: an operation that is read. Conditions: the words stand in memory; words of at most 200000 bytes. -/
import Derived.Test.YtgjdgafoidppaaaGreatDoorP05
namespace Go.Proofs.YtgjdgafoidppaaaGreatDoor
open Go.RowKit
set_option linter.unusedVariables false
set_option linter.unusedSimpArgs false
set_option linter.unnecessarySimpa false
def opWl : List ByteArray := [⟨#[]⟩, ⟨#[99, 114, 101, 97, 116, 101]⟩, ⟨#[100, 101, 108, 101, 116, 101]⟩, ⟨#[114, 101, 115, 105, 122, 101]⟩, ⟨#[115, 110, 97, 112]⟩, ⟨#[119, 114, 105, 116, 101]⟩, ⟨#[122, 101, 114, 111]⟩, ⟨#[100, 105, 115, 99, 97, 114, 100]⟩, ⟨#[102, 108, 117, 115, 104]⟩, ⟨#[114, 101, 97, 100]⟩]
theorem Row.iter_ {W : World} {A : Option Addr} {l : List ByteArray} (h : Row Value.string W A l) (k : Nat) (s : ByteArray) (pos pos' : Nat) [hi : IterAt W k s pos] : Row Value.string (W.iterAt k s pos') A l :=
 ⟨fun h0 => by
  obtain ⟨b, o', rfl, hb, hx⟩ := h.at_ h0
  exact ⟨b, o', rfl, by rw [Lib.iterAt_size]; exact hb, fun j x hj => (iterAt_cells W k b (o' + j) s pos pos').trans (hx j x hj)⟩⟩
theorem WS.iter_ {p : Nat} {W : World} {ws : List ByteArray} {bad : Bool} (h : WS p W ws bad) (k : Nat) (s : ByteArray) (pos pos' : Nat) [hi : IterAt W k s pos] : WS p (W.iterAt k s pos') ws bad := by
 obtain ⟨f0, f1, c1, ⟨A, c, c0, hcc, hn, hr⟩, few, short⟩ := h
 exact ⟨(iterAt_frozen W k p 0 s pos pos').trans f0, (iterAt_frozen W k p 1 s pos pos').trans f1, (iterAt_cells W k p 1 s pos pos').trans c1, ⟨A, c, (iterAt_cells W k p 0 s pos pos').trans c0, hcc, hn, hr.iter_ k s pos pos'⟩, few, short⟩
theorem WS.grown_ {p : Nat} {W : World} {ws : List ByteArray} {bad : Bool} (h : WS p W ws bad) (g : Growth W) : WS p (grown W g) ws bad := h.gr g
theorem WS.gr2 {p : Nat} {W V : World} {ws : List ByteArray} {bad : Bool} (h : WS p W ws bad) (hg : Gr W V) : WS p V ws bad := by obtain ⟨g, rfl⟩ := hg; exact h.gr g
def isStr : Value → Bool
 | .string _ => true
 | _ => false
theorem WS.setB {p X o : Nat} {W : World} {ws : List ByteArray} {bad : Bool} {cs : Array Value} {T : TypeId} (h : WS p W ws bad) (v : Value) (hne : X ≠ p) [hB : BlockAt W X cs T] (hu : cs.toList.all (fun v => !isStr v) = true) : WS p (W.setCell ⟨X, o, none⟩ v) ws bad := by
 obtain ⟨f0, f1, c1, ⟨A, c, c0, hcc, hn, hr⟩, few, short⟩ := h
 refine ⟨by rw [World.frozen?_setCell]; exact f0, by rw [World.frozen?_setCell]; exact f1, ?_, ⟨A, c, ?_, hcc, hn, ⟨fun h0 => ?_⟩⟩, few, short⟩
 ·rw [World.cell?_setCell_other _ _ _ _ (fun e => hne (congrArg Addr.block e))]; exact c1
 ·rw [World.cell?_setCell_other _ _ _ _ (fun e => hne (congrArg Addr.block e))]; exact c0
 ·obtain ⟨b, o', rfl, hb, hx⟩ := hr.at_ h0
  refine ⟨b, o', rfl, by simpa [World.setCell] using hb, fun j x hj => ?_⟩
  have h1 := hx j x hj
  rw [World.cell?_setCell_other _ _ _ _ (fun e => by
   rw [← e, block_cells] at h1
   rw [List.all_eq_true] at hu
   have hm := Array.mem_of_getElem? h1
   have := hu (.string x) (by simpa using hm)
   simp [isStr] at this)]
  exact h1
theorem Wrd.alloc_ {p : Nat} {W V : World} (h : Wrd p W V) (o : Obj) : Wrd p W (V.alloc o) := h.trans (Wrd.gr (Gr.of (below_alloc (Below.refl _ _) _)))
theorem Wrd.grown_ {p : Nat} {W V : World} (h : Wrd p W V) (g : Growth V) : Wrd p W (grown V g) := h.trans (Wrd.gr (Gr.of (grown_below V g)))
theorem Wrd.set_ {p : Nat} {W V : World} (h : Wrd p W V) {X : Nat} (o : Nat) (u : Value) (hX : W.heap.size ≤ X) : Wrd p W (V.setCell ⟨X, o, none⟩ u) :=
 ⟨h.g.os, h.g.tape, h.g.output, by have := h.g.size; simpa [World.setCell] using this, fun i hi hne => (Below.heap_setCell V ⟨X, o, none⟩ u i (by simp; omega)).trans (h.g.block i hi hne)⟩
theorem Wrd.iter_ {p : Nat} {W V : World} (h : Wrd p W V) {k : Nat} (hk : W.heap.size ≤ k) (s : ByteArray) (pos : Nat) : Wrd p W (V.iterAt k s pos) :=
 ⟨h.g.os, h.g.tape, h.g.output, by rw [Lib.iterAt_size]; exact h.g.size, fun i hi hne => (Lib.iterAt_other V k i s pos (by omega)).trans (h.g.block i hi hne)⟩
theorem Wrd.iterAt {p k : Nat} {W W' : World} {s : ByteArray} {pos : Nat} (r : Wrd p W W') (h : IterAt W k s pos) (hne : k ≠ p) : IterAt W' k s pos :=
 ⟨(r.g.block k h.lt (fun e => by cases e; exact hne rfl)).trans h.eq⟩
def nD (ws : List ByteArray) (i most : Nat) : Nat := decV (hdW (ws.drop i)).data.toList most
def bD (ws : List ByteArray) (i most : Nat) : Bool := !decOk (hdW (ws.drop i)).data.toList most
def dD (ws : List ByteArray) (i : Nat) : List UInt8 := dataOf (hdW (ws.drop i))
def xD (ws : List ByteArray) (i : Nat) : Bool := dataBad (hdW (ws.drop i))
theorem nD_le (ws : List ByteArray) (i most : Nat) : nD ws i most ≤ most := decV_le _ _
theorem number_d (ws : List ByteArray) (i : Nat) (p : Nat) (W : World) (bad : Bool) (h : WS p W (ws.drop i) bad) :
  Calls Tryz.prog 82 #[.pointer (some ⟨p, 0, none⟩), .int .u64 4294967295] W fun e W' => e = .returned (.int .u64 (nD ws i 4294967295)) ∧ WS p W' (ws.drop (i + 1)) (bad || bD ws i 4294967295) ∧ Wrd p W W' :=
 (number_any p 4294967295 (by omega) W _ bad h).mono fun e W' ⟨he, hw, hr⟩ => ⟨he, by rw [List.tail_drop] at hw; exact hw, hr⟩
theorem small_s (ws : List ByteArray) (i : Nat) (p : Nat) (W : World) (bad : Bool) (h : WS p W (ws.drop i) bad) :
  Calls Tryz.prog 53 #[.pointer (some ⟨p, 0, none⟩), .int .i64 256] W fun e W' => e = .returned (.int .i64 (nD ws i 256)) ∧ WS p W' (ws.drop (i + 1)) (bad || bD ws i 256) ∧ Wrd p W W' :=
 (small_any p 256 (by omega) W _ bad h).mono fun e W' ⟨he, hw, hr⟩ => ⟨he, by rw [List.tail_drop] at hw; exact hw, hr⟩
theorem small_a (ws : List ByteArray) (i : Nat) (p : Nat) (W : World) (bad : Bool) (h : WS p W (ws.drop i) bad) :
  Calls Tryz.prog 53 #[.pointer (some ⟨p, 0, none⟩), .int .i64 1048576] W fun e W' => e = .returned (.int .i64 (nD ws i 1048576)) ∧ WS p W' (ws.drop (i + 1)) (bad || bD ws i 1048576) ∧ Wrd p W W' :=
 (small_any p 1048576 (by omega) W _ bad h).mono fun e W' ⟨he, hw, hr⟩ => ⟨he, by rw [List.tail_drop] at hw; exact hw, hr⟩
theorem small_c (ws : List ByteArray) (i : Nat) (p : Nat) (W : World) (bad : Bool) (h : WS p W (ws.drop i) bad) :
  Calls Tryz.prog 53 #[.pointer (some ⟨p, 0, none⟩), .int .i64 1024] W fun e W' => e = .returned (.int .i64 (nD ws i 1024)) ∧ WS p W' (ws.drop (i + 1)) (bad || bD ws i 1024) ∧ Wrd p W W' :=
 (small_any p 1024 (by omega) W _ bad h).mono fun e W' ⟨he, hw, hr⟩ => ⟨he, by rw [List.tail_drop] at hw; exact hw, hr⟩
theorem data_d (ws : List ByteArray) (i : Nat) (p : Nat) [hfp : Far p] (W : World) [hm : Ml W] (bad : Bool) (h : WS p W (ws.drop i) bad) (hw : ∀ x ∈ ws, x.size ≤ 200000) :
  Calls Tryz.prog 83 #[.pointer (some ⟨p, 0, none⟩)] W fun e W' => ∃ v, e = .returned v ∧ OwnR bv 5 W.heap.size W' v (dD ws i) ∧ WS p W' (ws.drop (i + 1)) ((bad || (ws.drop i).isEmpty) || xD ws i) ∧ Wrd p W W' :=
 (data_any p W (ws.drop i) bad h (by
   unfold hdW
   cases hd : ws.drop i with
   | nil => exact Nat.zero_le _
   | cons x r => exact hw x (List.mem_of_mem_drop (i := i) (by rw [hd]; simp)))).mono fun e W' ⟨v, he, ho, hw, hr⟩ => ⟨v, he, ho, by rw [List.tail_drop] at hw; exact hw, hr⟩
set_option maxRecDepth 100000 in
set_option maxHeartbeats 4000000 in
theorem wop_0 (p : Nat) (W : World) [hm : Ml W] [htb : Tb W] [hfp : Far p] (ws : List ByteArray) (bad : Bool) (h : WS p W ws bad) (hw : ∀ x ∈ ws, x.size ≤ 200000) (kk : Int) (hk : max (Lib.idxOfS opWl (hdW ws)) 0 = kk) (hkk : kk = 0) :
  Calls Tryz.prog 37 #[.pointer (some ⟨p, 0, none⟩)] W fun e W' => ∃ dv, e = .returned (.agg #[.int .i64 0, .int .u64 0, .int .u64 0, .int .i64 0, .int .i64 0, .int .i64 0, dv]) ∧ OwnR bv 5 W.heap.size W' dv [] ∧ WS p W' (ws.drop 1) (bad || ws.isEmpty) ∧ Wrd p W W' := by
 subst hkk
 have H := Lib.hid h; clear h
 have HW := Lib.hid hw; clear hw
 have en : opPartsB 0 = ⟨#[]⟩ := rfl
 go_enter Tryz.func37, Tryz.ntmps37
 go_wp2_with ((go_at_call 80; ((with_reducible refine (opWords_any _).mono ?_))))
 rintro _ _ ⟨rfl, rfl⟩
 go_wp2_with ((go_at_call 49; ((with_reducible refine (word_any p _ ws bad ?ws).mono ?_))))
 case ws => exact (H.out.alloc _).alloc _
 rintro _ W1 ⟨rfl, h1, r1⟩
 haveI : Tb W1 := r1.tb
 haveI : Ml W1 := r1.ml
 have hp : p < W.heap.size := H.out.old.lt
 haveI bR1 : BlockAt W1 W.heap.size #[.int .i64 0, .int .u64 0, .int .u64 0, .int .i64 0, .int .i64 0, .int .i64 0, .slice none 0 0] 26 := r1.blockAt inferInstance (by omega)
 have bL : BlockAt W1 (W.heap.size + 1) (opWl.map Value.string).toArray 9 := r1.blockAt (show BlockAt _ (W.heap.size + 1) #[.string ⟨#[]⟩, .string ⟨#[99, 114, 101, 97, 116, 101]⟩, .string ⟨#[100, 101, 108, 101, 116, 101]⟩, .string ⟨#[114, 101, 115, 105, 122, 101]⟩, .string ⟨#[115, 110, 97, 112]⟩, .string ⟨#[119, 114, 105, 116, 101]⟩, .string ⟨#[122, 101, 114, 111]⟩, .string ⟨#[100, 105, 115, 99, 97, 114, 100]⟩, .string ⟨#[102, 108, 117, 115, 104]⟩, .string ⟨#[114, 101, 97, 100]⟩] 9 from inferInstance) (by omega)
 have hcl : ∀ j, j < opWl.length → W1.cell? ⟨W.heap.size + 1, 0 + j, none⟩ = some (.string (opWl.getD j ByteArray.empty)) := by
  intro j hj
  rw [Nat.zero_add, block_cells, List.getD_eq_getElem?_getD]
  simp [hj]
 have HCL := Lib.hid hcl; clear hcl bL
 have HIX := Lib.hid (Tryz.slices_Index_string (W.heap.size + 1) 0 10 10 opWl (hdW ws) W1 (by decide) (by decide) HCL.out)
 have HIX := Lib.hid (HIX.out.mono (R' := fun e w' => e = .returned (.int .i64 (Lib.idxOfS opWl (hdW ws))) ∧ W1 = w') fun _ _ ⟨a, b⟩ => ⟨a, b.symm⟩)
 generalize Lib.idxOfS opWl (hdW ws) = ix at *
 have hS1 : W.heap.size < W1.heap.size := bR1.lt
 have rW1 : Wrd p W W1 := ((Wrd.refl p W).alloc_ _).alloc_ _ |>.trans r1
 have h1' : WS p W1 (ws.drop 1) (bad || ws.isEmpty) := by rw [List.drop_one]; exact h1
 have H1 := Lib.hid h1'; clear h1 h1'
 have R1 := Lib.hid rW1; clear rW1 r1
 go_wp2_with ((go_at_call 50; ((with_reducible refine HIX.out.mono ?_))))
 rintro _ _ ⟨rfl, rfl⟩
 have hX : p < W1.heap.size := by omega
 haveI : BNe W.heap.size W1.heap.size := ⟨by have := bR1.old.lt; omega⟩
 clear HIX HCL
 go_wp2_with ((go_at_call 81; ((with_reducible refine (opPartsB_any 0 _).mono ?_))))
 rintro _ V ⟨rfl, hg⟩
 have hsV := hg.below.size
 have hsV : W1.heap.size + 1 ≤ V.heap.size := by simpa using hsV
 have bAV : BlockAt (W1.alloc (.cells #[.int .i64 0, .int .u64 0, .int .u64 0, .int .i64 0, .int .i64 0, .int .i64 0, .slice none 0 0] 26)) W1.heap.size #[.int .i64 0, .int .u64 0, .int .u64 0, .int .i64 0, .int .i64 0, .int .i64 0, .slice none 0 0] 26 := inferInstance
 have bAR : BlockAt (W1.alloc (.cells #[.int .i64 0, .int .u64 0, .int .u64 0, .int .i64 0, .int .i64 0, .int .i64 0, .slice none 0 0] 26)) W.heap.size #[.int .i64 0, .int .u64 0, .int .u64 0, .int .i64 0, .int .i64 0, .int .i64 0, .slice none 0 0] 26 := inferInstance
 haveI bXV : BlockAt V W1.heap.size #[.int .i64 0, .int .u64 0, .int .u64 0, .int .i64 0, .int .i64 0, .int .i64 0, .slice none 0 0] 26 := ⟨(hg.below.block _ bAV.lt).trans bAV.eq⟩
 haveI bRV : BlockAt V W.heap.size #[.int .i64 0, .int .u64 0, .int .u64 0, .int .i64 0, .int .i64 0, .int .i64 0, .slice none 0 0] 26 := ⟨(hg.below.block _ bAR.lt).trans bAR.eq⟩
 clear bAV bAR
 have rV := (R1.out.alloc_ _).trans (Wrd.gr hg)
 have H1 := Lib.hid ((H1.out.alloc _).gr2 hg)
 haveI : Tb V := (Wrd.gr (p := p) hg).tb
 haveI : Ml V := (Wrd.gr (p := p) hg).ml
 have R1 := Lib.hid rV; clear rV hg
 haveI : BNe W1.heap.size V.heap.size := ⟨by omega⟩
 haveI : BNe W.heap.size V.heap.size := ⟨by omega⟩
 go_wp2
 refine wp_loop_rounds 1 ?_
 rw [rounds_succ]
 have x0 : V.cell? ⟨W1.heap.size, 0, none⟩ = some (.int .i64 0) := (block_cells _ _ _ _ _).trans rfl
 have x1 : V.cell? ⟨W1.heap.size, 1, none⟩ = some (.int .u64 0) := (block_cells _ _ _ _ _).trans rfl
 have x2 : V.cell? ⟨W1.heap.size, 2, none⟩ = some (.int .u64 0) := (block_cells _ _ _ _ _).trans rfl
 have x3 : V.cell? ⟨W1.heap.size, 3, none⟩ = some (.int .i64 0) := (block_cells _ _ _ _ _).trans rfl
 have x4 : V.cell? ⟨W1.heap.size, 4, none⟩ = some (.int .i64 0) := (block_cells _ _ _ _ _).trans rfl
 have x5 : V.cell? ⟨W1.heap.size, 5, none⟩ = some (.int .i64 0) := (block_cells _ _ _ _ _).trans rfl
 have x6 : V.cell? ⟨W1.heap.size, 6, none⟩ = some (.slice none 0 0) := (block_cells _ _ _ _ _).trans rfl
 have y0 : V.cell? ⟨W.heap.size, 0, none⟩ = some (.int .i64 0) := (block_cells _ _ _ _ _).trans rfl
 have z0 : V.frozen? ⟨W.heap.size, 0, none⟩ = false := block_frozen _ _ _ _ _
 have y1 : V.cell? ⟨W.heap.size, 1, none⟩ = some (.int .u64 0) := (block_cells _ _ _ _ _).trans rfl
 have z1 : V.frozen? ⟨W.heap.size, 1, none⟩ = false := block_frozen _ _ _ _ _
 have y2 : V.cell? ⟨W.heap.size, 2, none⟩ = some (.int .u64 0) := (block_cells _ _ _ _ _).trans rfl
 have z2 : V.frozen? ⟨W.heap.size, 2, none⟩ = false := block_frozen _ _ _ _ _
 have y3 : V.cell? ⟨W.heap.size, 3, none⟩ = some (.int .i64 0) := (block_cells _ _ _ _ _).trans rfl
 have z3 : V.frozen? ⟨W.heap.size, 3, none⟩ = false := block_frozen _ _ _ _ _
 have y4 : V.cell? ⟨W.heap.size, 4, none⟩ = some (.int .i64 0) := (block_cells _ _ _ _ _).trans rfl
 have z4 : V.frozen? ⟨W.heap.size, 4, none⟩ = false := block_frozen _ _ _ _ _
 have y5 : V.cell? ⟨W.heap.size, 5, none⟩ = some (.int .i64 0) := (block_cells _ _ _ _ _).trans rfl
 have z5 : V.frozen? ⟨W.heap.size, 5, none⟩ = false := block_frozen _ _ _ _ _
 have y6 : V.cell? ⟨W.heap.size, 6, none⟩ = some (.slice none 0 0) := (block_cells _ _ _ _ _).trans rfl
 have z6 : V.frozen? ⟨W.heap.size, 6, none⟩ = false := block_frozen _ _ _ _ _
 have e3 : (W.heap.size = W1.heap.size) = False := by simp; omega
 have e4 : (W1.heap.size = W.heap.size) = False := by simp; omega
 haveI : Old W.heap.size V := (inferInstance : BlockAt V W.heap.size _ _).old
 haveI : Old W1.heap.size V := (inferInstance : BlockAt V W1.heap.size _ _).old
 go_wp2
 refine bodyPost_ret (v := .agg #[.int .i64 0, .int .u64 0, .int .u64 0, .int .i64 0, .int .i64 0, .int .i64 0, .slice none 0 0]) (by simp [results, Tryz.results37, go_sem, e3, e4, x0, x1, x2, x3, x4, x5, x6, y0, z0, y1, z1, y2, z2, y3, z3, y4, z4, y5, z5, y6, z6]) rfl ⟨_, rfl, ?own, ?ws9, ?wrd9⟩
 case own => exact OwnR.nil _ _
 case ws9 => repeat (first | with_reducible exact H1.out | with_reducible refine WS.alloc ?_ _ | (with_reducible refine WS.setB ?_ _ (by omega) rfl))
 case wrd9 => (with_reducible repeat (first | exact R1.out | refine Wrd.alloc_ ?_ _ | refine Wrd.set_ ?_ _ _ (by omega)))
set_option maxRecDepth 100000 in
set_option maxHeartbeats 4000000 in
theorem wop_1 (p : Nat) (W : World) [hm : Ml W] [htb : Tb W] [hfp : Far p] (ws : List ByteArray) (bad : Bool) (h : WS p W ws bad) (hw : ∀ x ∈ ws, x.size ≤ 200000) (kk : Int) (hk : max (Lib.idxOfS opWl (hdW ws)) 0 = kk) (hkk : kk = 1) :
  Calls Tryz.prog 37 #[.pointer (some ⟨p, 0, none⟩)] W fun e W' => ∃ dv, e = .returned (.agg #[.int .i64 1, .int .u64 (nD ws 1 4294967295), .int .u64 0, .int .i64 (nD ws 2 256), .int .i64 0, .int .i64 0, dv]) ∧ OwnR bv 5 W.heap.size W' dv [] ∧ WS p W' (ws.drop 3) (((bad || ws.isEmpty) || bD ws 1 4294967295) || bD ws 2 256) ∧ Wrd p W W' := by
 subst hkk
 have H := Lib.hid h; clear h
 have HW := Lib.hid hw; clear hw
 have en : opPartsB 1 = ⟨#[118, 115]⟩ := rfl
 go_enter Tryz.func37, Tryz.ntmps37
 go_wp2_with ((go_at_call 80; ((with_reducible refine (opWords_any _).mono ?_))))
 rintro _ _ ⟨rfl, rfl⟩
 go_wp2_with ((go_at_call 49; ((with_reducible refine (word_any p _ ws bad ?ws).mono ?_))))
 case ws => exact (H.out.alloc _).alloc _
 rintro _ W1 ⟨rfl, h1, r1⟩
 haveI : Tb W1 := r1.tb
 haveI : Ml W1 := r1.ml
 have hp : p < W.heap.size := H.out.old.lt
 haveI bR1 : BlockAt W1 W.heap.size #[.int .i64 0, .int .u64 0, .int .u64 0, .int .i64 0, .int .i64 0, .int .i64 0, .slice none 0 0] 26 := r1.blockAt inferInstance (by omega)
 have bL : BlockAt W1 (W.heap.size + 1) (opWl.map Value.string).toArray 9 := r1.blockAt (show BlockAt _ (W.heap.size + 1) #[.string ⟨#[]⟩, .string ⟨#[99, 114, 101, 97, 116, 101]⟩, .string ⟨#[100, 101, 108, 101, 116, 101]⟩, .string ⟨#[114, 101, 115, 105, 122, 101]⟩, .string ⟨#[115, 110, 97, 112]⟩, .string ⟨#[119, 114, 105, 116, 101]⟩, .string ⟨#[122, 101, 114, 111]⟩, .string ⟨#[100, 105, 115, 99, 97, 114, 100]⟩, .string ⟨#[102, 108, 117, 115, 104]⟩, .string ⟨#[114, 101, 97, 100]⟩] 9 from inferInstance) (by omega)
 have hcl : ∀ j, j < opWl.length → W1.cell? ⟨W.heap.size + 1, 0 + j, none⟩ = some (.string (opWl.getD j ByteArray.empty)) := by
  intro j hj
  rw [Nat.zero_add, block_cells, List.getD_eq_getElem?_getD]
  simp [hj]
 have HCL := Lib.hid hcl; clear hcl bL
 have HIX := Lib.hid (Tryz.slices_Index_string (W.heap.size + 1) 0 10 10 opWl (hdW ws) W1 (by decide) (by decide) HCL.out)
 have HIX := Lib.hid (HIX.out.mono (R' := fun e w' => e = .returned (.int .i64 (Lib.idxOfS opWl (hdW ws))) ∧ W1 = w') fun _ _ ⟨a, b⟩ => ⟨a, b.symm⟩)
 generalize Lib.idxOfS opWl (hdW ws) = ix at *
 have hS1 : W.heap.size < W1.heap.size := bR1.lt
 have rW1 : Wrd p W W1 := ((Wrd.refl p W).alloc_ _).alloc_ _ |>.trans r1
 have h1' : WS p W1 (ws.drop 1) (bad || ws.isEmpty) := by rw [List.drop_one]; exact h1
 have H1 := Lib.hid h1'; clear h1 h1'
 have R1 := Lib.hid rW1; clear rW1 r1
 go_wp2_with ((go_at_call 50; ((with_reducible refine HIX.out.mono ?_))))
 rintro _ _ ⟨rfl, rfl⟩
 have hX : p < W1.heap.size := by omega
 haveI : BNe W.heap.size W1.heap.size := ⟨by have := bR1.old.lt; omega⟩
 clear HIX HCL
 go_wp2_with ((go_at_call 81; ((with_reducible refine (opPartsB_any 1 _).mono ?_))))
 rintro _ V ⟨rfl, hg⟩
 have hsV := hg.below.size
 have hsV : W1.heap.size + 1 ≤ V.heap.size := by simpa using hsV
 have bAV : BlockAt (W1.alloc (.cells #[.int .i64 1, .int .u64 0, .int .u64 0, .int .i64 0, .int .i64 0, .int .i64 0, .slice none 0 0] 26)) W1.heap.size #[.int .i64 1, .int .u64 0, .int .u64 0, .int .i64 0, .int .i64 0, .int .i64 0, .slice none 0 0] 26 := inferInstance
 have bAR : BlockAt (W1.alloc (.cells #[.int .i64 1, .int .u64 0, .int .u64 0, .int .i64 0, .int .i64 0, .int .i64 0, .slice none 0 0] 26)) W.heap.size #[.int .i64 0, .int .u64 0, .int .u64 0, .int .i64 0, .int .i64 0, .int .i64 0, .slice none 0 0] 26 := inferInstance
 haveI bXV : BlockAt V W1.heap.size #[.int .i64 1, .int .u64 0, .int .u64 0, .int .i64 0, .int .i64 0, .int .i64 0, .slice none 0 0] 26 := ⟨(hg.below.block _ bAV.lt).trans bAV.eq⟩
 haveI bRV : BlockAt V W.heap.size #[.int .i64 0, .int .u64 0, .int .u64 0, .int .i64 0, .int .i64 0, .int .i64 0, .slice none 0 0] 26 := ⟨(hg.below.block _ bAR.lt).trans bAR.eq⟩
 clear bAV bAR
 have rV := (R1.out.alloc_ _).trans (Wrd.gr hg)
 have H1 := Lib.hid ((H1.out.alloc _).gr2 hg)
 haveI : Tb V := (Wrd.gr (p := p) hg).tb
 haveI : Ml V := (Wrd.gr (p := p) hg).ml
 have R1 := Lib.hid rV; clear rV hg
 haveI : BNe W1.heap.size V.heap.size := ⟨by omega⟩
 haveI : BNe W.heap.size V.heap.size := ⟨by omega⟩
 go_wp2
 refine wp_loop_rounds 3 ?_
 rw [rounds_succ]
 go_wp2_with ((go_at_call 82; ((with_reducible refine (number_d ws 1 p _ (bad || ws.isEmpty) ?w0).mono ?_))))
 case w0 => repeat (first | with_reducible exact H1.out | with_reducible refine WS.alloc ?_ _ | with_reducible refine WS.grown_ ?_ _ | with_reducible refine WS.iter_ ?_ _ _ _ _ | (with_reducible refine WS.set_other ?_ (.int .i64 0) _ (by omega) ((block_cells _ _ _ _ _).trans rfl) (fun _ e => by cases e)))
 rintro _ W2 ⟨rfl, h2, r2⟩
 haveI : Tb W2 := r2.tb
 haveI : Ml W2 := r2.ml
 haveI bR2 : BlockAt W2 W.heap.size #[.int .i64 0, .int .u64 0, .int .u64 0, .int .i64 0, .int .i64 0, .int .i64 0, .slice none 0 0] 26 := r2.blockAt inferInstance (by omega)
 haveI bX2 : BlockAt W2 W1.heap.size #[.int .i64 1, .int .u64 0, .int .u64 0, .int .i64 0, .int .i64 0, .int .i64 0, .slice none 0 0] 26 := r2.blockAt inferInstance (by omega)
 have cX2 : W2.cell? ⟨W1.heap.size, 1, none⟩ = some (.int .u64 0) := (block_cells _ _ _ _ _).trans rfl
 have fX2 : W2.frozen? ⟨W1.heap.size, 1, none⟩ = false := block_frozen _ _ _ _ _
 haveI iX2 : IterAt W2 V.heap.size ⟨#[118, 115]⟩ 1 := r2.iterAt inferInstance (by omega)
 have rW2 : Wrd p W W2 := Wrd.trans (by (with_reducible repeat (first | exact R1.out | refine Wrd.alloc_ ?_ _ | refine Wrd.grown_ ?_ _ | refine Wrd.iter_ ?_ (by omega) _ _ | refine Wrd.set_ ?_ _ _ (by omega)))) r2
 have H2 := Lib.hid h2; clear h2
 have R2 := Lib.hid rW2; clear rW2 r2
 go_wp2
 rw [rounds_succ]
 go_wp2_with ((go_at_call 53; ((with_reducible refine (small_s ws 2 p _ ((bad || ws.isEmpty) || bD ws 1 4294967295) ?w1).mono ?_))))
 case w1 => repeat (first | with_reducible exact H2.out | with_reducible refine WS.alloc ?_ _ | with_reducible refine WS.grown_ ?_ _ | with_reducible refine WS.iter_ ?_ _ _ _ _ | (with_reducible refine WS.set_other ?_ (.int .u64 0) _ (by omega) ((block_cells _ _ _ _ _).trans rfl) (fun _ e => by cases e)))
 rintro _ W3 ⟨rfl, h3, r3⟩
 haveI : Tb W3 := r3.tb
 haveI : Ml W3 := r3.ml
 haveI bR3 : BlockAt W3 W.heap.size #[.int .i64 0, .int .u64 0, .int .u64 0, .int .i64 0, .int .i64 0, .int .i64 0, .slice none 0 0] 26 := r3.blockAt inferInstance (by omega)
 haveI bX3 : BlockAt W3 W1.heap.size #[.int .i64 1, .int .u64 (nD ws 1 4294967295), .int .u64 0, .int .i64 0, .int .i64 0, .int .i64 0, .slice none 0 0] 26 := r3.blockAt inferInstance (by omega)
 have cX3 : W3.cell? ⟨W1.heap.size, 3, none⟩ = some (.int .i64 0) := (block_cells _ _ _ _ _).trans rfl
 have fX3 : W3.frozen? ⟨W1.heap.size, 3, none⟩ = false := block_frozen _ _ _ _ _
 haveI iX3 : IterAt W3 V.heap.size ⟨#[118, 115]⟩ 2 := r3.iterAt inferInstance (by omega)
 have rW3 : Wrd p W W3 := Wrd.trans (by (with_reducible repeat (first | exact R2.out | refine Wrd.alloc_ ?_ _ | refine Wrd.grown_ ?_ _ | refine Wrd.iter_ ?_ (by omega) _ _ | refine Wrd.set_ ?_ _ _ (by omega)))) r3
 have H3 := Lib.hid h3; clear h3
 have R3 := Lib.hid rW3; clear rW3 r3
 go_wp2
 rw [rounds_succ]
 have x0 : W3.cell? ⟨W1.heap.size, 0, none⟩ = some (.int .i64 1) := (block_cells _ _ _ _ _).trans rfl
 have x1 : W3.cell? ⟨W1.heap.size, 1, none⟩ = some (.int .u64 (nD ws 1 4294967295)) := (block_cells _ _ _ _ _).trans rfl
 have x2 : W3.cell? ⟨W1.heap.size, 2, none⟩ = some (.int .u64 0) := (block_cells _ _ _ _ _).trans rfl
 have x4 : W3.cell? ⟨W1.heap.size, 4, none⟩ = some (.int .i64 0) := (block_cells _ _ _ _ _).trans rfl
 have x5 : W3.cell? ⟨W1.heap.size, 5, none⟩ = some (.int .i64 0) := (block_cells _ _ _ _ _).trans rfl
 have x6 : W3.cell? ⟨W1.heap.size, 6, none⟩ = some (.slice none 0 0) := (block_cells _ _ _ _ _).trans rfl
 have y0 : W3.cell? ⟨W.heap.size, 0, none⟩ = some (.int .i64 0) := (block_cells _ _ _ _ _).trans rfl
 have z0 : W3.frozen? ⟨W.heap.size, 0, none⟩ = false := block_frozen _ _ _ _ _
 have y1 : W3.cell? ⟨W.heap.size, 1, none⟩ = some (.int .u64 0) := (block_cells _ _ _ _ _).trans rfl
 have z1 : W3.frozen? ⟨W.heap.size, 1, none⟩ = false := block_frozen _ _ _ _ _
 have y2 : W3.cell? ⟨W.heap.size, 2, none⟩ = some (.int .u64 0) := (block_cells _ _ _ _ _).trans rfl
 have z2 : W3.frozen? ⟨W.heap.size, 2, none⟩ = false := block_frozen _ _ _ _ _
 have y3 : W3.cell? ⟨W.heap.size, 3, none⟩ = some (.int .i64 0) := (block_cells _ _ _ _ _).trans rfl
 have z3 : W3.frozen? ⟨W.heap.size, 3, none⟩ = false := block_frozen _ _ _ _ _
 have y4 : W3.cell? ⟨W.heap.size, 4, none⟩ = some (.int .i64 0) := (block_cells _ _ _ _ _).trans rfl
 have z4 : W3.frozen? ⟨W.heap.size, 4, none⟩ = false := block_frozen _ _ _ _ _
 have y5 : W3.cell? ⟨W.heap.size, 5, none⟩ = some (.int .i64 0) := (block_cells _ _ _ _ _).trans rfl
 have z5 : W3.frozen? ⟨W.heap.size, 5, none⟩ = false := block_frozen _ _ _ _ _
 have y6 : W3.cell? ⟨W.heap.size, 6, none⟩ = some (.slice none 0 0) := (block_cells _ _ _ _ _).trans rfl
 have z6 : W3.frozen? ⟨W.heap.size, 6, none⟩ = false := block_frozen _ _ _ _ _
 have e3 : (W.heap.size = W1.heap.size) = False := by simp; omega
 have e4 : (W1.heap.size = W.heap.size) = False := by simp; omega
 haveI : Old W.heap.size W3 := (inferInstance : BlockAt W3 W.heap.size _ _).old
 haveI : Old W1.heap.size W3 := (inferInstance : BlockAt W3 W1.heap.size _ _).old
 go_wp2
 refine bodyPost_ret (v := .agg #[.int .i64 1, .int .u64 (nD ws 1 4294967295), .int .u64 0, .int .i64 (nD ws 2 256), .int .i64 0, .int .i64 0, .slice none 0 0]) (by simp [results, Tryz.results37, go_sem, e3, e4, x0, x1, x2, x4, x5, x6, y0, z0, y1, z1, y2, z2, y3, z3, y4, z4, y5, z5, y6, z6]) rfl ⟨_, rfl, ?own, ?ws9, ?wrd9⟩
 case own => exact OwnR.nil _ _
 case ws9 => repeat (first | with_reducible exact H3.out | with_reducible refine WS.alloc ?_ _ | (with_reducible refine WS.setB ?_ _ (by omega) rfl))
 case wrd9 => (with_reducible repeat (first | exact R3.out | refine Wrd.alloc_ ?_ _ | refine Wrd.set_ ?_ _ _ (by omega)))
set_option maxRecDepth 100000 in
set_option maxHeartbeats 4000000 in
theorem wop_2 (p : Nat) (W : World) [hm : Ml W] [htb : Tb W] [hfp : Far p] (ws : List ByteArray) (bad : Bool) (h : WS p W ws bad) (hw : ∀ x ∈ ws, x.size ≤ 200000) (kk : Int) (hk : max (Lib.idxOfS opWl (hdW ws)) 0 = kk) (hkk : kk = 2) :
  Calls Tryz.prog 37 #[.pointer (some ⟨p, 0, none⟩)] W fun e W' => ∃ dv, e = .returned (.agg #[.int .i64 2, .int .u64 (nD ws 1 4294967295), .int .u64 0, .int .i64 0, .int .i64 0, .int .i64 0, dv]) ∧ OwnR bv 5 W.heap.size W' dv [] ∧ WS p W' (ws.drop 2) ((bad || ws.isEmpty) || bD ws 1 4294967295) ∧ Wrd p W W' := by
 subst hkk
 have H := Lib.hid h; clear h
 have HW := Lib.hid hw; clear hw
 have en : opPartsB 2 = ⟨#[118]⟩ := rfl
 go_enter Tryz.func37, Tryz.ntmps37
 go_wp2_with ((go_at_call 80; ((with_reducible refine (opWords_any _).mono ?_))))
 rintro _ _ ⟨rfl, rfl⟩
 go_wp2_with ((go_at_call 49; ((with_reducible refine (word_any p _ ws bad ?ws).mono ?_))))
 case ws => exact (H.out.alloc _).alloc _
 rintro _ W1 ⟨rfl, h1, r1⟩
 haveI : Tb W1 := r1.tb
 haveI : Ml W1 := r1.ml
 have hp : p < W.heap.size := H.out.old.lt
 haveI bR1 : BlockAt W1 W.heap.size #[.int .i64 0, .int .u64 0, .int .u64 0, .int .i64 0, .int .i64 0, .int .i64 0, .slice none 0 0] 26 := r1.blockAt inferInstance (by omega)
 have bL : BlockAt W1 (W.heap.size + 1) (opWl.map Value.string).toArray 9 := r1.blockAt (show BlockAt _ (W.heap.size + 1) #[.string ⟨#[]⟩, .string ⟨#[99, 114, 101, 97, 116, 101]⟩, .string ⟨#[100, 101, 108, 101, 116, 101]⟩, .string ⟨#[114, 101, 115, 105, 122, 101]⟩, .string ⟨#[115, 110, 97, 112]⟩, .string ⟨#[119, 114, 105, 116, 101]⟩, .string ⟨#[122, 101, 114, 111]⟩, .string ⟨#[100, 105, 115, 99, 97, 114, 100]⟩, .string ⟨#[102, 108, 117, 115, 104]⟩, .string ⟨#[114, 101, 97, 100]⟩] 9 from inferInstance) (by omega)
 have hcl : ∀ j, j < opWl.length → W1.cell? ⟨W.heap.size + 1, 0 + j, none⟩ = some (.string (opWl.getD j ByteArray.empty)) := by
  intro j hj
  rw [Nat.zero_add, block_cells, List.getD_eq_getElem?_getD]
  simp [hj]
 have HCL := Lib.hid hcl; clear hcl bL
 have HIX := Lib.hid (Tryz.slices_Index_string (W.heap.size + 1) 0 10 10 opWl (hdW ws) W1 (by decide) (by decide) HCL.out)
 have HIX := Lib.hid (HIX.out.mono (R' := fun e w' => e = .returned (.int .i64 (Lib.idxOfS opWl (hdW ws))) ∧ W1 = w') fun _ _ ⟨a, b⟩ => ⟨a, b.symm⟩)
 generalize Lib.idxOfS opWl (hdW ws) = ix at *
 have hS1 : W.heap.size < W1.heap.size := bR1.lt
 have rW1 : Wrd p W W1 := ((Wrd.refl p W).alloc_ _).alloc_ _ |>.trans r1
 have h1' : WS p W1 (ws.drop 1) (bad || ws.isEmpty) := by rw [List.drop_one]; exact h1
 have H1 := Lib.hid h1'; clear h1 h1'
 have R1 := Lib.hid rW1; clear rW1 r1
 go_wp2_with ((go_at_call 50; ((with_reducible refine HIX.out.mono ?_))))
 rintro _ _ ⟨rfl, rfl⟩
 have hX : p < W1.heap.size := by omega
 haveI : BNe W.heap.size W1.heap.size := ⟨by have := bR1.old.lt; omega⟩
 clear HIX HCL
 go_wp2_with ((go_at_call 81; ((with_reducible refine (opPartsB_any 2 _).mono ?_))))
 rintro _ V ⟨rfl, hg⟩
 have hsV := hg.below.size
 have hsV : W1.heap.size + 1 ≤ V.heap.size := by simpa using hsV
 have bAV : BlockAt (W1.alloc (.cells #[.int .i64 2, .int .u64 0, .int .u64 0, .int .i64 0, .int .i64 0, .int .i64 0, .slice none 0 0] 26)) W1.heap.size #[.int .i64 2, .int .u64 0, .int .u64 0, .int .i64 0, .int .i64 0, .int .i64 0, .slice none 0 0] 26 := inferInstance
 have bAR : BlockAt (W1.alloc (.cells #[.int .i64 2, .int .u64 0, .int .u64 0, .int .i64 0, .int .i64 0, .int .i64 0, .slice none 0 0] 26)) W.heap.size #[.int .i64 0, .int .u64 0, .int .u64 0, .int .i64 0, .int .i64 0, .int .i64 0, .slice none 0 0] 26 := inferInstance
 haveI bXV : BlockAt V W1.heap.size #[.int .i64 2, .int .u64 0, .int .u64 0, .int .i64 0, .int .i64 0, .int .i64 0, .slice none 0 0] 26 := ⟨(hg.below.block _ bAV.lt).trans bAV.eq⟩
 haveI bRV : BlockAt V W.heap.size #[.int .i64 0, .int .u64 0, .int .u64 0, .int .i64 0, .int .i64 0, .int .i64 0, .slice none 0 0] 26 := ⟨(hg.below.block _ bAR.lt).trans bAR.eq⟩
 clear bAV bAR
 have rV := (R1.out.alloc_ _).trans (Wrd.gr hg)
 have H1 := Lib.hid ((H1.out.alloc _).gr2 hg)
 haveI : Tb V := (Wrd.gr (p := p) hg).tb
 haveI : Ml V := (Wrd.gr (p := p) hg).ml
 have R1 := Lib.hid rV; clear rV hg
 haveI : BNe W1.heap.size V.heap.size := ⟨by omega⟩
 haveI : BNe W.heap.size V.heap.size := ⟨by omega⟩
 go_wp2
 refine wp_loop_rounds 2 ?_
 rw [rounds_succ]
 go_wp2_with ((go_at_call 82; ((with_reducible refine (number_d ws 1 p _ (bad || ws.isEmpty) ?w0).mono ?_))))
 case w0 => repeat (first | with_reducible exact H1.out | with_reducible refine WS.alloc ?_ _ | with_reducible refine WS.grown_ ?_ _ | with_reducible refine WS.iter_ ?_ _ _ _ _ | (with_reducible refine WS.set_other ?_ (.int .i64 0) _ (by omega) ((block_cells _ _ _ _ _).trans rfl) (fun _ e => by cases e)))
 rintro _ W2 ⟨rfl, h2, r2⟩
 haveI : Tb W2 := r2.tb
 haveI : Ml W2 := r2.ml
 haveI bR2 : BlockAt W2 W.heap.size #[.int .i64 0, .int .u64 0, .int .u64 0, .int .i64 0, .int .i64 0, .int .i64 0, .slice none 0 0] 26 := r2.blockAt inferInstance (by omega)
 haveI bX2 : BlockAt W2 W1.heap.size #[.int .i64 2, .int .u64 0, .int .u64 0, .int .i64 0, .int .i64 0, .int .i64 0, .slice none 0 0] 26 := r2.blockAt inferInstance (by omega)
 have cX2 : W2.cell? ⟨W1.heap.size, 1, none⟩ = some (.int .u64 0) := (block_cells _ _ _ _ _).trans rfl
 have fX2 : W2.frozen? ⟨W1.heap.size, 1, none⟩ = false := block_frozen _ _ _ _ _
 haveI iX2 : IterAt W2 V.heap.size ⟨#[118]⟩ 1 := r2.iterAt inferInstance (by omega)
 have rW2 : Wrd p W W2 := Wrd.trans (by (with_reducible repeat (first | exact R1.out | refine Wrd.alloc_ ?_ _ | refine Wrd.grown_ ?_ _ | refine Wrd.iter_ ?_ (by omega) _ _ | refine Wrd.set_ ?_ _ _ (by omega)))) r2
 have H2 := Lib.hid h2; clear h2
 have R2 := Lib.hid rW2; clear rW2 r2
 go_wp2
 rw [rounds_succ]
 have x0 : W2.cell? ⟨W1.heap.size, 0, none⟩ = some (.int .i64 2) := (block_cells _ _ _ _ _).trans rfl
 have x2 : W2.cell? ⟨W1.heap.size, 2, none⟩ = some (.int .u64 0) := (block_cells _ _ _ _ _).trans rfl
 have x3 : W2.cell? ⟨W1.heap.size, 3, none⟩ = some (.int .i64 0) := (block_cells _ _ _ _ _).trans rfl
 have x4 : W2.cell? ⟨W1.heap.size, 4, none⟩ = some (.int .i64 0) := (block_cells _ _ _ _ _).trans rfl
 have x5 : W2.cell? ⟨W1.heap.size, 5, none⟩ = some (.int .i64 0) := (block_cells _ _ _ _ _).trans rfl
 have x6 : W2.cell? ⟨W1.heap.size, 6, none⟩ = some (.slice none 0 0) := (block_cells _ _ _ _ _).trans rfl
 have y0 : W2.cell? ⟨W.heap.size, 0, none⟩ = some (.int .i64 0) := (block_cells _ _ _ _ _).trans rfl
 have z0 : W2.frozen? ⟨W.heap.size, 0, none⟩ = false := block_frozen _ _ _ _ _
 have y1 : W2.cell? ⟨W.heap.size, 1, none⟩ = some (.int .u64 0) := (block_cells _ _ _ _ _).trans rfl
 have z1 : W2.frozen? ⟨W.heap.size, 1, none⟩ = false := block_frozen _ _ _ _ _
 have y2 : W2.cell? ⟨W.heap.size, 2, none⟩ = some (.int .u64 0) := (block_cells _ _ _ _ _).trans rfl
 have z2 : W2.frozen? ⟨W.heap.size, 2, none⟩ = false := block_frozen _ _ _ _ _
 have y3 : W2.cell? ⟨W.heap.size, 3, none⟩ = some (.int .i64 0) := (block_cells _ _ _ _ _).trans rfl
 have z3 : W2.frozen? ⟨W.heap.size, 3, none⟩ = false := block_frozen _ _ _ _ _
 have y4 : W2.cell? ⟨W.heap.size, 4, none⟩ = some (.int .i64 0) := (block_cells _ _ _ _ _).trans rfl
 have z4 : W2.frozen? ⟨W.heap.size, 4, none⟩ = false := block_frozen _ _ _ _ _
 have y5 : W2.cell? ⟨W.heap.size, 5, none⟩ = some (.int .i64 0) := (block_cells _ _ _ _ _).trans rfl
 have z5 : W2.frozen? ⟨W.heap.size, 5, none⟩ = false := block_frozen _ _ _ _ _
 have y6 : W2.cell? ⟨W.heap.size, 6, none⟩ = some (.slice none 0 0) := (block_cells _ _ _ _ _).trans rfl
 have z6 : W2.frozen? ⟨W.heap.size, 6, none⟩ = false := block_frozen _ _ _ _ _
 have e3 : (W.heap.size = W1.heap.size) = False := by simp; omega
 have e4 : (W1.heap.size = W.heap.size) = False := by simp; omega
 haveI : Old W.heap.size W2 := (inferInstance : BlockAt W2 W.heap.size _ _).old
 haveI : Old W1.heap.size W2 := (inferInstance : BlockAt W2 W1.heap.size _ _).old
 go_wp2
 refine bodyPost_ret (v := .agg #[.int .i64 2, .int .u64 (nD ws 1 4294967295), .int .u64 0, .int .i64 0, .int .i64 0, .int .i64 0, .slice none 0 0]) (by simp [results, Tryz.results37, go_sem, e3, e4, x0, x2, x3, x4, x5, x6, y0, z0, y1, z1, y2, z2, y3, z3, y4, z4, y5, z5, y6, z6]) rfl ⟨_, rfl, ?own, ?ws9, ?wrd9⟩
 case own => exact OwnR.nil _ _
 case ws9 => repeat (first | with_reducible exact H2.out | with_reducible refine WS.alloc ?_ _ | (with_reducible refine WS.setB ?_ _ (by omega) rfl))
 case wrd9 => (with_reducible repeat (first | exact R2.out | refine Wrd.alloc_ ?_ _ | refine Wrd.set_ ?_ _ _ (by omega)))
set_option maxRecDepth 100000 in
set_option maxHeartbeats 4000000 in
theorem wop_3 (p : Nat) (W : World) [hm : Ml W] [htb : Tb W] [hfp : Far p] (ws : List ByteArray) (bad : Bool) (h : WS p W ws bad) (hw : ∀ x ∈ ws, x.size ≤ 200000) (kk : Int) (hk : max (Lib.idxOfS opWl (hdW ws)) 0 = kk) (hkk : kk = 3) :
  Calls Tryz.prog 37 #[.pointer (some ⟨p, 0, none⟩)] W fun e W' => ∃ dv, e = .returned (.agg #[.int .i64 3, .int .u64 (nD ws 1 4294967295), .int .u64 0, .int .i64 (nD ws 2 256), .int .i64 0, .int .i64 0, dv]) ∧ OwnR bv 5 W.heap.size W' dv [] ∧ WS p W' (ws.drop 3) (((bad || ws.isEmpty) || bD ws 1 4294967295) || bD ws 2 256) ∧ Wrd p W W' := by
 subst hkk
 have H := Lib.hid h; clear h
 have HW := Lib.hid hw; clear hw
 have en : opPartsB 3 = ⟨#[118, 115]⟩ := rfl
 go_enter Tryz.func37, Tryz.ntmps37
 go_wp2_with ((go_at_call 80; ((with_reducible refine (opWords_any _).mono ?_))))
 rintro _ _ ⟨rfl, rfl⟩
 go_wp2_with ((go_at_call 49; ((with_reducible refine (word_any p _ ws bad ?ws).mono ?_))))
 case ws => exact (H.out.alloc _).alloc _
 rintro _ W1 ⟨rfl, h1, r1⟩
 haveI : Tb W1 := r1.tb
 haveI : Ml W1 := r1.ml
 have hp : p < W.heap.size := H.out.old.lt
 haveI bR1 : BlockAt W1 W.heap.size #[.int .i64 0, .int .u64 0, .int .u64 0, .int .i64 0, .int .i64 0, .int .i64 0, .slice none 0 0] 26 := r1.blockAt inferInstance (by omega)
 have bL : BlockAt W1 (W.heap.size + 1) (opWl.map Value.string).toArray 9 := r1.blockAt (show BlockAt _ (W.heap.size + 1) #[.string ⟨#[]⟩, .string ⟨#[99, 114, 101, 97, 116, 101]⟩, .string ⟨#[100, 101, 108, 101, 116, 101]⟩, .string ⟨#[114, 101, 115, 105, 122, 101]⟩, .string ⟨#[115, 110, 97, 112]⟩, .string ⟨#[119, 114, 105, 116, 101]⟩, .string ⟨#[122, 101, 114, 111]⟩, .string ⟨#[100, 105, 115, 99, 97, 114, 100]⟩, .string ⟨#[102, 108, 117, 115, 104]⟩, .string ⟨#[114, 101, 97, 100]⟩] 9 from inferInstance) (by omega)
 have hcl : ∀ j, j < opWl.length → W1.cell? ⟨W.heap.size + 1, 0 + j, none⟩ = some (.string (opWl.getD j ByteArray.empty)) := by
  intro j hj
  rw [Nat.zero_add, block_cells, List.getD_eq_getElem?_getD]
  simp [hj]
 have HCL := Lib.hid hcl; clear hcl bL
 have HIX := Lib.hid (Tryz.slices_Index_string (W.heap.size + 1) 0 10 10 opWl (hdW ws) W1 (by decide) (by decide) HCL.out)
 have HIX := Lib.hid (HIX.out.mono (R' := fun e w' => e = .returned (.int .i64 (Lib.idxOfS opWl (hdW ws))) ∧ W1 = w') fun _ _ ⟨a, b⟩ => ⟨a, b.symm⟩)
 generalize Lib.idxOfS opWl (hdW ws) = ix at *
 have hS1 : W.heap.size < W1.heap.size := bR1.lt
 have rW1 : Wrd p W W1 := ((Wrd.refl p W).alloc_ _).alloc_ _ |>.trans r1
 have h1' : WS p W1 (ws.drop 1) (bad || ws.isEmpty) := by rw [List.drop_one]; exact h1
 have H1 := Lib.hid h1'; clear h1 h1'
 have R1 := Lib.hid rW1; clear rW1 r1
 go_wp2_with ((go_at_call 50; ((with_reducible refine HIX.out.mono ?_))))
 rintro _ _ ⟨rfl, rfl⟩
 have hX : p < W1.heap.size := by omega
 haveI : BNe W.heap.size W1.heap.size := ⟨by have := bR1.old.lt; omega⟩
 clear HIX HCL
 go_wp2_with ((go_at_call 81; ((with_reducible refine (opPartsB_any 3 _).mono ?_))))
 rintro _ V ⟨rfl, hg⟩
 have hsV := hg.below.size
 have hsV : W1.heap.size + 1 ≤ V.heap.size := by simpa using hsV
 have bAV : BlockAt (W1.alloc (.cells #[.int .i64 3, .int .u64 0, .int .u64 0, .int .i64 0, .int .i64 0, .int .i64 0, .slice none 0 0] 26)) W1.heap.size #[.int .i64 3, .int .u64 0, .int .u64 0, .int .i64 0, .int .i64 0, .int .i64 0, .slice none 0 0] 26 := inferInstance
 have bAR : BlockAt (W1.alloc (.cells #[.int .i64 3, .int .u64 0, .int .u64 0, .int .i64 0, .int .i64 0, .int .i64 0, .slice none 0 0] 26)) W.heap.size #[.int .i64 0, .int .u64 0, .int .u64 0, .int .i64 0, .int .i64 0, .int .i64 0, .slice none 0 0] 26 := inferInstance
 haveI bXV : BlockAt V W1.heap.size #[.int .i64 3, .int .u64 0, .int .u64 0, .int .i64 0, .int .i64 0, .int .i64 0, .slice none 0 0] 26 := ⟨(hg.below.block _ bAV.lt).trans bAV.eq⟩
 haveI bRV : BlockAt V W.heap.size #[.int .i64 0, .int .u64 0, .int .u64 0, .int .i64 0, .int .i64 0, .int .i64 0, .slice none 0 0] 26 := ⟨(hg.below.block _ bAR.lt).trans bAR.eq⟩
 clear bAV bAR
 have rV := (R1.out.alloc_ _).trans (Wrd.gr hg)
 have H1 := Lib.hid ((H1.out.alloc _).gr2 hg)
 haveI : Tb V := (Wrd.gr (p := p) hg).tb
 haveI : Ml V := (Wrd.gr (p := p) hg).ml
 have R1 := Lib.hid rV; clear rV hg
 haveI : BNe W1.heap.size V.heap.size := ⟨by omega⟩
 haveI : BNe W.heap.size V.heap.size := ⟨by omega⟩
 go_wp2
 refine wp_loop_rounds 3 ?_
 rw [rounds_succ]
 go_wp2_with ((go_at_call 82; ((with_reducible refine (number_d ws 1 p _ (bad || ws.isEmpty) ?w0).mono ?_))))
 case w0 => repeat (first | with_reducible exact H1.out | with_reducible refine WS.alloc ?_ _ | with_reducible refine WS.grown_ ?_ _ | with_reducible refine WS.iter_ ?_ _ _ _ _ | (with_reducible refine WS.set_other ?_ (.int .i64 0) _ (by omega) ((block_cells _ _ _ _ _).trans rfl) (fun _ e => by cases e)))
 rintro _ W2 ⟨rfl, h2, r2⟩
 haveI : Tb W2 := r2.tb
 haveI : Ml W2 := r2.ml
 haveI bR2 : BlockAt W2 W.heap.size #[.int .i64 0, .int .u64 0, .int .u64 0, .int .i64 0, .int .i64 0, .int .i64 0, .slice none 0 0] 26 := r2.blockAt inferInstance (by omega)
 haveI bX2 : BlockAt W2 W1.heap.size #[.int .i64 3, .int .u64 0, .int .u64 0, .int .i64 0, .int .i64 0, .int .i64 0, .slice none 0 0] 26 := r2.blockAt inferInstance (by omega)
 have cX2 : W2.cell? ⟨W1.heap.size, 1, none⟩ = some (.int .u64 0) := (block_cells _ _ _ _ _).trans rfl
 have fX2 : W2.frozen? ⟨W1.heap.size, 1, none⟩ = false := block_frozen _ _ _ _ _
 haveI iX2 : IterAt W2 V.heap.size ⟨#[118, 115]⟩ 1 := r2.iterAt inferInstance (by omega)
 have rW2 : Wrd p W W2 := Wrd.trans (by (with_reducible repeat (first | exact R1.out | refine Wrd.alloc_ ?_ _ | refine Wrd.grown_ ?_ _ | refine Wrd.iter_ ?_ (by omega) _ _ | refine Wrd.set_ ?_ _ _ (by omega)))) r2
 have H2 := Lib.hid h2; clear h2
 have R2 := Lib.hid rW2; clear rW2 r2
 go_wp2
 rw [rounds_succ]
 go_wp2_with ((go_at_call 53; ((with_reducible refine (small_s ws 2 p _ ((bad || ws.isEmpty) || bD ws 1 4294967295) ?w1).mono ?_))))
 case w1 => repeat (first | with_reducible exact H2.out | with_reducible refine WS.alloc ?_ _ | with_reducible refine WS.grown_ ?_ _ | with_reducible refine WS.iter_ ?_ _ _ _ _ | (with_reducible refine WS.set_other ?_ (.int .u64 0) _ (by omega) ((block_cells _ _ _ _ _).trans rfl) (fun _ e => by cases e)))
 rintro _ W3 ⟨rfl, h3, r3⟩
 haveI : Tb W3 := r3.tb
 haveI : Ml W3 := r3.ml
 haveI bR3 : BlockAt W3 W.heap.size #[.int .i64 0, .int .u64 0, .int .u64 0, .int .i64 0, .int .i64 0, .int .i64 0, .slice none 0 0] 26 := r3.blockAt inferInstance (by omega)
 haveI bX3 : BlockAt W3 W1.heap.size #[.int .i64 3, .int .u64 (nD ws 1 4294967295), .int .u64 0, .int .i64 0, .int .i64 0, .int .i64 0, .slice none 0 0] 26 := r3.blockAt inferInstance (by omega)
 have cX3 : W3.cell? ⟨W1.heap.size, 3, none⟩ = some (.int .i64 0) := (block_cells _ _ _ _ _).trans rfl
 have fX3 : W3.frozen? ⟨W1.heap.size, 3, none⟩ = false := block_frozen _ _ _ _ _
 haveI iX3 : IterAt W3 V.heap.size ⟨#[118, 115]⟩ 2 := r3.iterAt inferInstance (by omega)
 have rW3 : Wrd p W W3 := Wrd.trans (by (with_reducible repeat (first | exact R2.out | refine Wrd.alloc_ ?_ _ | refine Wrd.grown_ ?_ _ | refine Wrd.iter_ ?_ (by omega) _ _ | refine Wrd.set_ ?_ _ _ (by omega)))) r3
 have H3 := Lib.hid h3; clear h3
 have R3 := Lib.hid rW3; clear rW3 r3
 go_wp2
 rw [rounds_succ]
 have x0 : W3.cell? ⟨W1.heap.size, 0, none⟩ = some (.int .i64 3) := (block_cells _ _ _ _ _).trans rfl
 have x1 : W3.cell? ⟨W1.heap.size, 1, none⟩ = some (.int .u64 (nD ws 1 4294967295)) := (block_cells _ _ _ _ _).trans rfl
 have x2 : W3.cell? ⟨W1.heap.size, 2, none⟩ = some (.int .u64 0) := (block_cells _ _ _ _ _).trans rfl
 have x4 : W3.cell? ⟨W1.heap.size, 4, none⟩ = some (.int .i64 0) := (block_cells _ _ _ _ _).trans rfl
 have x5 : W3.cell? ⟨W1.heap.size, 5, none⟩ = some (.int .i64 0) := (block_cells _ _ _ _ _).trans rfl
 have x6 : W3.cell? ⟨W1.heap.size, 6, none⟩ = some (.slice none 0 0) := (block_cells _ _ _ _ _).trans rfl
 have y0 : W3.cell? ⟨W.heap.size, 0, none⟩ = some (.int .i64 0) := (block_cells _ _ _ _ _).trans rfl
 have z0 : W3.frozen? ⟨W.heap.size, 0, none⟩ = false := block_frozen _ _ _ _ _
 have y1 : W3.cell? ⟨W.heap.size, 1, none⟩ = some (.int .u64 0) := (block_cells _ _ _ _ _).trans rfl
 have z1 : W3.frozen? ⟨W.heap.size, 1, none⟩ = false := block_frozen _ _ _ _ _
 have y2 : W3.cell? ⟨W.heap.size, 2, none⟩ = some (.int .u64 0) := (block_cells _ _ _ _ _).trans rfl
 have z2 : W3.frozen? ⟨W.heap.size, 2, none⟩ = false := block_frozen _ _ _ _ _
 have y3 : W3.cell? ⟨W.heap.size, 3, none⟩ = some (.int .i64 0) := (block_cells _ _ _ _ _).trans rfl
 have z3 : W3.frozen? ⟨W.heap.size, 3, none⟩ = false := block_frozen _ _ _ _ _
 have y4 : W3.cell? ⟨W.heap.size, 4, none⟩ = some (.int .i64 0) := (block_cells _ _ _ _ _).trans rfl
 have z4 : W3.frozen? ⟨W.heap.size, 4, none⟩ = false := block_frozen _ _ _ _ _
 have y5 : W3.cell? ⟨W.heap.size, 5, none⟩ = some (.int .i64 0) := (block_cells _ _ _ _ _).trans rfl
 have z5 : W3.frozen? ⟨W.heap.size, 5, none⟩ = false := block_frozen _ _ _ _ _
 have y6 : W3.cell? ⟨W.heap.size, 6, none⟩ = some (.slice none 0 0) := (block_cells _ _ _ _ _).trans rfl
 have z6 : W3.frozen? ⟨W.heap.size, 6, none⟩ = false := block_frozen _ _ _ _ _
 have e3 : (W.heap.size = W1.heap.size) = False := by simp; omega
 have e4 : (W1.heap.size = W.heap.size) = False := by simp; omega
 haveI : Old W.heap.size W3 := (inferInstance : BlockAt W3 W.heap.size _ _).old
 haveI : Old W1.heap.size W3 := (inferInstance : BlockAt W3 W1.heap.size _ _).old
 go_wp2
 refine bodyPost_ret (v := .agg #[.int .i64 3, .int .u64 (nD ws 1 4294967295), .int .u64 0, .int .i64 (nD ws 2 256), .int .i64 0, .int .i64 0, .slice none 0 0]) (by simp [results, Tryz.results37, go_sem, e3, e4, x0, x1, x2, x4, x5, x6, y0, z0, y1, z1, y2, z2, y3, z3, y4, z4, y5, z5, y6, z6]) rfl ⟨_, rfl, ?own, ?ws9, ?wrd9⟩
 case own => exact OwnR.nil _ _
 case ws9 => repeat (first | with_reducible exact H3.out | with_reducible refine WS.alloc ?_ _ | (with_reducible refine WS.setB ?_ _ (by omega) rfl))
 case wrd9 => (with_reducible repeat (first | exact R3.out | refine Wrd.alloc_ ?_ _ | refine Wrd.set_ ?_ _ _ (by omega)))
set_option maxRecDepth 100000 in
set_option maxHeartbeats 4000000 in
theorem wop_4 (p : Nat) (W : World) [hm : Ml W] [htb : Tb W] [hfp : Far p] (ws : List ByteArray) (bad : Bool) (h : WS p W ws bad) (hw : ∀ x ∈ ws, x.size ≤ 200000) (kk : Int) (hk : max (Lib.idxOfS opWl (hdW ws)) 0 = kk) (hkk : kk = 4) :
  Calls Tryz.prog 37 #[.pointer (some ⟨p, 0, none⟩)] W fun e W' => ∃ dv, e = .returned (.agg #[.int .i64 4, .int .u64 (nD ws 1 4294967295), .int .u64 (nD ws 2 4294967295), .int .i64 0, .int .i64 0, .int .i64 0, dv]) ∧ OwnR bv 5 W.heap.size W' dv [] ∧ WS p W' (ws.drop 3) (((bad || ws.isEmpty) || bD ws 1 4294967295) || bD ws 2 4294967295) ∧ Wrd p W W' := by
 subst hkk
 have H := Lib.hid h; clear h
 have HW := Lib.hid hw; clear hw
 have en : opPartsB 4 = ⟨#[118, 116]⟩ := rfl
 go_enter Tryz.func37, Tryz.ntmps37
 go_wp2_with ((go_at_call 80; ((with_reducible refine (opWords_any _).mono ?_))))
 rintro _ _ ⟨rfl, rfl⟩
 go_wp2_with ((go_at_call 49; ((with_reducible refine (word_any p _ ws bad ?ws).mono ?_))))
 case ws => exact (H.out.alloc _).alloc _
 rintro _ W1 ⟨rfl, h1, r1⟩
 haveI : Tb W1 := r1.tb
 haveI : Ml W1 := r1.ml
 have hp : p < W.heap.size := H.out.old.lt
 haveI bR1 : BlockAt W1 W.heap.size #[.int .i64 0, .int .u64 0, .int .u64 0, .int .i64 0, .int .i64 0, .int .i64 0, .slice none 0 0] 26 := r1.blockAt inferInstance (by omega)
 have bL : BlockAt W1 (W.heap.size + 1) (opWl.map Value.string).toArray 9 := r1.blockAt (show BlockAt _ (W.heap.size + 1) #[.string ⟨#[]⟩, .string ⟨#[99, 114, 101, 97, 116, 101]⟩, .string ⟨#[100, 101, 108, 101, 116, 101]⟩, .string ⟨#[114, 101, 115, 105, 122, 101]⟩, .string ⟨#[115, 110, 97, 112]⟩, .string ⟨#[119, 114, 105, 116, 101]⟩, .string ⟨#[122, 101, 114, 111]⟩, .string ⟨#[100, 105, 115, 99, 97, 114, 100]⟩, .string ⟨#[102, 108, 117, 115, 104]⟩, .string ⟨#[114, 101, 97, 100]⟩] 9 from inferInstance) (by omega)
 have hcl : ∀ j, j < opWl.length → W1.cell? ⟨W.heap.size + 1, 0 + j, none⟩ = some (.string (opWl.getD j ByteArray.empty)) := by
  intro j hj
  rw [Nat.zero_add, block_cells, List.getD_eq_getElem?_getD]
  simp [hj]
 have HCL := Lib.hid hcl; clear hcl bL
 have HIX := Lib.hid (Tryz.slices_Index_string (W.heap.size + 1) 0 10 10 opWl (hdW ws) W1 (by decide) (by decide) HCL.out)
 have HIX := Lib.hid (HIX.out.mono (R' := fun e w' => e = .returned (.int .i64 (Lib.idxOfS opWl (hdW ws))) ∧ W1 = w') fun _ _ ⟨a, b⟩ => ⟨a, b.symm⟩)
 generalize Lib.idxOfS opWl (hdW ws) = ix at *
 have hS1 : W.heap.size < W1.heap.size := bR1.lt
 have rW1 : Wrd p W W1 := ((Wrd.refl p W).alloc_ _).alloc_ _ |>.trans r1
 have h1' : WS p W1 (ws.drop 1) (bad || ws.isEmpty) := by rw [List.drop_one]; exact h1
 have H1 := Lib.hid h1'; clear h1 h1'
 have R1 := Lib.hid rW1; clear rW1 r1
 go_wp2_with ((go_at_call 50; ((with_reducible refine HIX.out.mono ?_))))
 rintro _ _ ⟨rfl, rfl⟩
 have hX : p < W1.heap.size := by omega
 haveI : BNe W.heap.size W1.heap.size := ⟨by have := bR1.old.lt; omega⟩
 clear HIX HCL
 go_wp2_with ((go_at_call 81; ((with_reducible refine (opPartsB_any 4 _).mono ?_))))
 rintro _ V ⟨rfl, hg⟩
 have hsV := hg.below.size
 have hsV : W1.heap.size + 1 ≤ V.heap.size := by simpa using hsV
 have bAV : BlockAt (W1.alloc (.cells #[.int .i64 4, .int .u64 0, .int .u64 0, .int .i64 0, .int .i64 0, .int .i64 0, .slice none 0 0] 26)) W1.heap.size #[.int .i64 4, .int .u64 0, .int .u64 0, .int .i64 0, .int .i64 0, .int .i64 0, .slice none 0 0] 26 := inferInstance
 have bAR : BlockAt (W1.alloc (.cells #[.int .i64 4, .int .u64 0, .int .u64 0, .int .i64 0, .int .i64 0, .int .i64 0, .slice none 0 0] 26)) W.heap.size #[.int .i64 0, .int .u64 0, .int .u64 0, .int .i64 0, .int .i64 0, .int .i64 0, .slice none 0 0] 26 := inferInstance
 haveI bXV : BlockAt V W1.heap.size #[.int .i64 4, .int .u64 0, .int .u64 0, .int .i64 0, .int .i64 0, .int .i64 0, .slice none 0 0] 26 := ⟨(hg.below.block _ bAV.lt).trans bAV.eq⟩
 haveI bRV : BlockAt V W.heap.size #[.int .i64 0, .int .u64 0, .int .u64 0, .int .i64 0, .int .i64 0, .int .i64 0, .slice none 0 0] 26 := ⟨(hg.below.block _ bAR.lt).trans bAR.eq⟩
 clear bAV bAR
 have rV := (R1.out.alloc_ _).trans (Wrd.gr hg)
 have H1 := Lib.hid ((H1.out.alloc _).gr2 hg)
 haveI : Tb V := (Wrd.gr (p := p) hg).tb
 haveI : Ml V := (Wrd.gr (p := p) hg).ml
 have R1 := Lib.hid rV; clear rV hg
 haveI : BNe W1.heap.size V.heap.size := ⟨by omega⟩
 haveI : BNe W.heap.size V.heap.size := ⟨by omega⟩
 go_wp2
 refine wp_loop_rounds 3 ?_
 rw [rounds_succ]
 go_wp2_with ((go_at_call 82; ((with_reducible refine (number_d ws 1 p _ (bad || ws.isEmpty) ?w0).mono ?_))))
 case w0 => repeat (first | with_reducible exact H1.out | with_reducible refine WS.alloc ?_ _ | with_reducible refine WS.grown_ ?_ _ | with_reducible refine WS.iter_ ?_ _ _ _ _ | (with_reducible refine WS.set_other ?_ (.int .i64 0) _ (by omega) ((block_cells _ _ _ _ _).trans rfl) (fun _ e => by cases e)))
 rintro _ W2 ⟨rfl, h2, r2⟩
 haveI : Tb W2 := r2.tb
 haveI : Ml W2 := r2.ml
 haveI bR2 : BlockAt W2 W.heap.size #[.int .i64 0, .int .u64 0, .int .u64 0, .int .i64 0, .int .i64 0, .int .i64 0, .slice none 0 0] 26 := r2.blockAt inferInstance (by omega)
 haveI bX2 : BlockAt W2 W1.heap.size #[.int .i64 4, .int .u64 0, .int .u64 0, .int .i64 0, .int .i64 0, .int .i64 0, .slice none 0 0] 26 := r2.blockAt inferInstance (by omega)
 have cX2 : W2.cell? ⟨W1.heap.size, 1, none⟩ = some (.int .u64 0) := (block_cells _ _ _ _ _).trans rfl
 have fX2 : W2.frozen? ⟨W1.heap.size, 1, none⟩ = false := block_frozen _ _ _ _ _
 haveI iX2 : IterAt W2 V.heap.size ⟨#[118, 116]⟩ 1 := r2.iterAt inferInstance (by omega)
 have rW2 : Wrd p W W2 := Wrd.trans (by (with_reducible repeat (first | exact R1.out | refine Wrd.alloc_ ?_ _ | refine Wrd.grown_ ?_ _ | refine Wrd.iter_ ?_ (by omega) _ _ | refine Wrd.set_ ?_ _ _ (by omega)))) r2
 have H2 := Lib.hid h2; clear h2
 have R2 := Lib.hid rW2; clear rW2 r2
 go_wp2
 rw [rounds_succ]
 go_wp2_with ((go_at_call 82; ((with_reducible refine (number_d ws 2 p _ ((bad || ws.isEmpty) || bD ws 1 4294967295) ?w1).mono ?_))))
 case w1 => repeat (first | with_reducible exact H2.out | with_reducible refine WS.alloc ?_ _ | with_reducible refine WS.grown_ ?_ _ | with_reducible refine WS.iter_ ?_ _ _ _ _ | (with_reducible refine WS.set_other ?_ (.int .u64 0) _ (by omega) ((block_cells _ _ _ _ _).trans rfl) (fun _ e => by cases e)))
 rintro _ W3 ⟨rfl, h3, r3⟩
 haveI : Tb W3 := r3.tb
 haveI : Ml W3 := r3.ml
 haveI bR3 : BlockAt W3 W.heap.size #[.int .i64 0, .int .u64 0, .int .u64 0, .int .i64 0, .int .i64 0, .int .i64 0, .slice none 0 0] 26 := r3.blockAt inferInstance (by omega)
 haveI bX3 : BlockAt W3 W1.heap.size #[.int .i64 4, .int .u64 (nD ws 1 4294967295), .int .u64 0, .int .i64 0, .int .i64 0, .int .i64 0, .slice none 0 0] 26 := r3.blockAt inferInstance (by omega)
 have cX3 : W3.cell? ⟨W1.heap.size, 2, none⟩ = some (.int .u64 0) := (block_cells _ _ _ _ _).trans rfl
 have fX3 : W3.frozen? ⟨W1.heap.size, 2, none⟩ = false := block_frozen _ _ _ _ _
 haveI iX3 : IterAt W3 V.heap.size ⟨#[118, 116]⟩ 2 := r3.iterAt inferInstance (by omega)
 have rW3 : Wrd p W W3 := Wrd.trans (by (with_reducible repeat (first | exact R2.out | refine Wrd.alloc_ ?_ _ | refine Wrd.grown_ ?_ _ | refine Wrd.iter_ ?_ (by omega) _ _ | refine Wrd.set_ ?_ _ _ (by omega)))) r3
 have H3 := Lib.hid h3; clear h3
 have R3 := Lib.hid rW3; clear rW3 r3
 go_wp2
 rw [rounds_succ]
 have x0 : W3.cell? ⟨W1.heap.size, 0, none⟩ = some (.int .i64 4) := (block_cells _ _ _ _ _).trans rfl
 have x1 : W3.cell? ⟨W1.heap.size, 1, none⟩ = some (.int .u64 (nD ws 1 4294967295)) := (block_cells _ _ _ _ _).trans rfl
 have x3 : W3.cell? ⟨W1.heap.size, 3, none⟩ = some (.int .i64 0) := (block_cells _ _ _ _ _).trans rfl
 have x4 : W3.cell? ⟨W1.heap.size, 4, none⟩ = some (.int .i64 0) := (block_cells _ _ _ _ _).trans rfl
 have x5 : W3.cell? ⟨W1.heap.size, 5, none⟩ = some (.int .i64 0) := (block_cells _ _ _ _ _).trans rfl
 have x6 : W3.cell? ⟨W1.heap.size, 6, none⟩ = some (.slice none 0 0) := (block_cells _ _ _ _ _).trans rfl
 have y0 : W3.cell? ⟨W.heap.size, 0, none⟩ = some (.int .i64 0) := (block_cells _ _ _ _ _).trans rfl
 have z0 : W3.frozen? ⟨W.heap.size, 0, none⟩ = false := block_frozen _ _ _ _ _
 have y1 : W3.cell? ⟨W.heap.size, 1, none⟩ = some (.int .u64 0) := (block_cells _ _ _ _ _).trans rfl
 have z1 : W3.frozen? ⟨W.heap.size, 1, none⟩ = false := block_frozen _ _ _ _ _
 have y2 : W3.cell? ⟨W.heap.size, 2, none⟩ = some (.int .u64 0) := (block_cells _ _ _ _ _).trans rfl
 have z2 : W3.frozen? ⟨W.heap.size, 2, none⟩ = false := block_frozen _ _ _ _ _
 have y3 : W3.cell? ⟨W.heap.size, 3, none⟩ = some (.int .i64 0) := (block_cells _ _ _ _ _).trans rfl
 have z3 : W3.frozen? ⟨W.heap.size, 3, none⟩ = false := block_frozen _ _ _ _ _
 have y4 : W3.cell? ⟨W.heap.size, 4, none⟩ = some (.int .i64 0) := (block_cells _ _ _ _ _).trans rfl
 have z4 : W3.frozen? ⟨W.heap.size, 4, none⟩ = false := block_frozen _ _ _ _ _
 have y5 : W3.cell? ⟨W.heap.size, 5, none⟩ = some (.int .i64 0) := (block_cells _ _ _ _ _).trans rfl
 have z5 : W3.frozen? ⟨W.heap.size, 5, none⟩ = false := block_frozen _ _ _ _ _
 have y6 : W3.cell? ⟨W.heap.size, 6, none⟩ = some (.slice none 0 0) := (block_cells _ _ _ _ _).trans rfl
 have z6 : W3.frozen? ⟨W.heap.size, 6, none⟩ = false := block_frozen _ _ _ _ _
 have e3 : (W.heap.size = W1.heap.size) = False := by simp; omega
 have e4 : (W1.heap.size = W.heap.size) = False := by simp; omega
 haveI : Old W.heap.size W3 := (inferInstance : BlockAt W3 W.heap.size _ _).old
 haveI : Old W1.heap.size W3 := (inferInstance : BlockAt W3 W1.heap.size _ _).old
 go_wp2
 refine bodyPost_ret (v := .agg #[.int .i64 4, .int .u64 (nD ws 1 4294967295), .int .u64 (nD ws 2 4294967295), .int .i64 0, .int .i64 0, .int .i64 0, .slice none 0 0]) (by simp [results, Tryz.results37, go_sem, e3, e4, x0, x1, x3, x4, x5, x6, y0, z0, y1, z1, y2, z2, y3, z3, y4, z4, y5, z5, y6, z6]) rfl ⟨_, rfl, ?own, ?ws9, ?wrd9⟩
 case own => exact OwnR.nil _ _
 case ws9 => repeat (first | with_reducible exact H3.out | with_reducible refine WS.alloc ?_ _ | (with_reducible refine WS.setB ?_ _ (by omega) rfl))
 case wrd9 => (with_reducible repeat (first | exact R3.out | refine Wrd.alloc_ ?_ _ | refine Wrd.set_ ?_ _ _ (by omega)))
set_option maxRecDepth 100000 in
set_option maxHeartbeats 4000000 in
theorem wop_5 (p : Nat) (W : World) [hm : Ml W] [htb : Tb W] [hfp : Far p] (ws : List ByteArray) (bad : Bool) (h : WS p W ws bad) (hw : ∀ x ∈ ws, x.size ≤ 200000) (kk : Int) (hk : max (Lib.idxOfS opWl (hdW ws)) 0 = kk) (hkk : kk = 5) :
  Calls Tryz.prog 37 #[.pointer (some ⟨p, 0, none⟩)] W fun e W' => ∃ dv, e = .returned (.agg #[.int .i64 5, .int .u64 (nD ws 1 4294967295), .int .u64 0, .int .i64 0, .int .i64 (nD ws 2 1048576), .int .i64 0, dv]) ∧ OwnR bv 5 W.heap.size W' dv (dD ws 3) ∧ WS p W' (ws.drop 4) (((((bad || ws.isEmpty) || bD ws 1 4294967295) || bD ws 2 1048576) || (ws.drop 3).isEmpty) || xD ws 3) ∧ Wrd p W W' := by
 subst hkk
 have H := Lib.hid h; clear h
 have HW := Lib.hid hw; clear hw
 have en : opPartsB 5 = ⟨#[118, 97, 100]⟩ := rfl
 go_enter Tryz.func37, Tryz.ntmps37
 go_wp2_with ((go_at_call 80; ((with_reducible refine (opWords_any _).mono ?_))))
 rintro _ _ ⟨rfl, rfl⟩
 go_wp2_with ((go_at_call 49; ((with_reducible refine (word_any p _ ws bad ?ws).mono ?_))))
 case ws => exact (H.out.alloc _).alloc _
 rintro _ W1 ⟨rfl, h1, r1⟩
 haveI : Tb W1 := r1.tb
 haveI : Ml W1 := r1.ml
 have hp : p < W.heap.size := H.out.old.lt
 haveI bR1 : BlockAt W1 W.heap.size #[.int .i64 0, .int .u64 0, .int .u64 0, .int .i64 0, .int .i64 0, .int .i64 0, .slice none 0 0] 26 := r1.blockAt inferInstance (by omega)
 have bL : BlockAt W1 (W.heap.size + 1) (opWl.map Value.string).toArray 9 := r1.blockAt (show BlockAt _ (W.heap.size + 1) #[.string ⟨#[]⟩, .string ⟨#[99, 114, 101, 97, 116, 101]⟩, .string ⟨#[100, 101, 108, 101, 116, 101]⟩, .string ⟨#[114, 101, 115, 105, 122, 101]⟩, .string ⟨#[115, 110, 97, 112]⟩, .string ⟨#[119, 114, 105, 116, 101]⟩, .string ⟨#[122, 101, 114, 111]⟩, .string ⟨#[100, 105, 115, 99, 97, 114, 100]⟩, .string ⟨#[102, 108, 117, 115, 104]⟩, .string ⟨#[114, 101, 97, 100]⟩] 9 from inferInstance) (by omega)
 have hcl : ∀ j, j < opWl.length → W1.cell? ⟨W.heap.size + 1, 0 + j, none⟩ = some (.string (opWl.getD j ByteArray.empty)) := by
  intro j hj
  rw [Nat.zero_add, block_cells, List.getD_eq_getElem?_getD]
  simp [hj]
 have HCL := Lib.hid hcl; clear hcl bL
 have HIX := Lib.hid (Tryz.slices_Index_string (W.heap.size + 1) 0 10 10 opWl (hdW ws) W1 (by decide) (by decide) HCL.out)
 have HIX := Lib.hid (HIX.out.mono (R' := fun e w' => e = .returned (.int .i64 (Lib.idxOfS opWl (hdW ws))) ∧ W1 = w') fun _ _ ⟨a, b⟩ => ⟨a, b.symm⟩)
 generalize Lib.idxOfS opWl (hdW ws) = ix at *
 have hS1 : W.heap.size < W1.heap.size := bR1.lt
 have rW1 : Wrd p W W1 := ((Wrd.refl p W).alloc_ _).alloc_ _ |>.trans r1
 have h1' : WS p W1 (ws.drop 1) (bad || ws.isEmpty) := by rw [List.drop_one]; exact h1
 have H1 := Lib.hid h1'; clear h1 h1'
 have R1 := Lib.hid rW1; clear rW1 r1
 go_wp2_with ((go_at_call 50; ((with_reducible refine HIX.out.mono ?_))))
 rintro _ _ ⟨rfl, rfl⟩
 have hX : p < W1.heap.size := by omega
 haveI : BNe W.heap.size W1.heap.size := ⟨by have := bR1.old.lt; omega⟩
 clear HIX HCL
 go_wp2_with ((go_at_call 81; ((with_reducible refine (opPartsB_any 5 _).mono ?_))))
 rintro _ V ⟨rfl, hg⟩
 have hsV := hg.below.size
 have hsV : W1.heap.size + 1 ≤ V.heap.size := by simpa using hsV
 have bAV : BlockAt (W1.alloc (.cells #[.int .i64 5, .int .u64 0, .int .u64 0, .int .i64 0, .int .i64 0, .int .i64 0, .slice none 0 0] 26)) W1.heap.size #[.int .i64 5, .int .u64 0, .int .u64 0, .int .i64 0, .int .i64 0, .int .i64 0, .slice none 0 0] 26 := inferInstance
 have bAR : BlockAt (W1.alloc (.cells #[.int .i64 5, .int .u64 0, .int .u64 0, .int .i64 0, .int .i64 0, .int .i64 0, .slice none 0 0] 26)) W.heap.size #[.int .i64 0, .int .u64 0, .int .u64 0, .int .i64 0, .int .i64 0, .int .i64 0, .slice none 0 0] 26 := inferInstance
 haveI bXV : BlockAt V W1.heap.size #[.int .i64 5, .int .u64 0, .int .u64 0, .int .i64 0, .int .i64 0, .int .i64 0, .slice none 0 0] 26 := ⟨(hg.below.block _ bAV.lt).trans bAV.eq⟩
 haveI bRV : BlockAt V W.heap.size #[.int .i64 0, .int .u64 0, .int .u64 0, .int .i64 0, .int .i64 0, .int .i64 0, .slice none 0 0] 26 := ⟨(hg.below.block _ bAR.lt).trans bAR.eq⟩
 clear bAV bAR
 have rV := (R1.out.alloc_ _).trans (Wrd.gr hg)
 have H1 := Lib.hid ((H1.out.alloc _).gr2 hg)
 haveI : Tb V := (Wrd.gr (p := p) hg).tb
 haveI : Ml V := (Wrd.gr (p := p) hg).ml
 have R1 := Lib.hid rV; clear rV hg
 haveI : BNe W1.heap.size V.heap.size := ⟨by omega⟩
 haveI : BNe W.heap.size V.heap.size := ⟨by omega⟩
 go_wp2
 refine wp_loop_rounds 4 ?_
 rw [rounds_succ]
 go_wp2_with ((go_at_call 82; ((with_reducible refine (number_d ws 1 p _ (bad || ws.isEmpty) ?w0).mono ?_))))
 case w0 => repeat (first | with_reducible exact H1.out | with_reducible refine WS.alloc ?_ _ | with_reducible refine WS.grown_ ?_ _ | with_reducible refine WS.iter_ ?_ _ _ _ _ | (with_reducible refine WS.set_other ?_ (.int .i64 0) _ (by omega) ((block_cells _ _ _ _ _).trans rfl) (fun _ e => by cases e)))
 rintro _ W2 ⟨rfl, h2, r2⟩
 haveI : Tb W2 := r2.tb
 haveI : Ml W2 := r2.ml
 haveI bR2 : BlockAt W2 W.heap.size #[.int .i64 0, .int .u64 0, .int .u64 0, .int .i64 0, .int .i64 0, .int .i64 0, .slice none 0 0] 26 := r2.blockAt inferInstance (by omega)
 haveI bX2 : BlockAt W2 W1.heap.size #[.int .i64 5, .int .u64 0, .int .u64 0, .int .i64 0, .int .i64 0, .int .i64 0, .slice none 0 0] 26 := r2.blockAt inferInstance (by omega)
 have cX2 : W2.cell? ⟨W1.heap.size, 1, none⟩ = some (.int .u64 0) := (block_cells _ _ _ _ _).trans rfl
 have fX2 : W2.frozen? ⟨W1.heap.size, 1, none⟩ = false := block_frozen _ _ _ _ _
 haveI iX2 : IterAt W2 V.heap.size ⟨#[118, 97, 100]⟩ 1 := r2.iterAt inferInstance (by omega)
 have rW2 : Wrd p W W2 := Wrd.trans (by (with_reducible repeat (first | exact R1.out | refine Wrd.alloc_ ?_ _ | refine Wrd.grown_ ?_ _ | refine Wrd.iter_ ?_ (by omega) _ _ | refine Wrd.set_ ?_ _ _ (by omega)))) r2
 have H2 := Lib.hid h2; clear h2
 have R2 := Lib.hid rW2; clear rW2 r2
 go_wp2
 rw [rounds_succ]
 go_wp2_with ((go_at_call 53; ((with_reducible refine (small_a ws 2 p _ ((bad || ws.isEmpty) || bD ws 1 4294967295) ?w1).mono ?_))))
 case w1 => repeat (first | with_reducible exact H2.out | with_reducible refine WS.alloc ?_ _ | with_reducible refine WS.grown_ ?_ _ | with_reducible refine WS.iter_ ?_ _ _ _ _ | (with_reducible refine WS.set_other ?_ (.int .u64 0) _ (by omega) ((block_cells _ _ _ _ _).trans rfl) (fun _ e => by cases e)))
 rintro _ W3 ⟨rfl, h3, r3⟩
 haveI : Tb W3 := r3.tb
 haveI : Ml W3 := r3.ml
 haveI bR3 : BlockAt W3 W.heap.size #[.int .i64 0, .int .u64 0, .int .u64 0, .int .i64 0, .int .i64 0, .int .i64 0, .slice none 0 0] 26 := r3.blockAt inferInstance (by omega)
 haveI bX3 : BlockAt W3 W1.heap.size #[.int .i64 5, .int .u64 (nD ws 1 4294967295), .int .u64 0, .int .i64 0, .int .i64 0, .int .i64 0, .slice none 0 0] 26 := r3.blockAt inferInstance (by omega)
 have cX3 : W3.cell? ⟨W1.heap.size, 4, none⟩ = some (.int .i64 0) := (block_cells _ _ _ _ _).trans rfl
 have fX3 : W3.frozen? ⟨W1.heap.size, 4, none⟩ = false := block_frozen _ _ _ _ _
 haveI iX3 : IterAt W3 V.heap.size ⟨#[118, 97, 100]⟩ 2 := r3.iterAt inferInstance (by omega)
 have rW3 : Wrd p W W3 := Wrd.trans (by (with_reducible repeat (first | exact R2.out | refine Wrd.alloc_ ?_ _ | refine Wrd.grown_ ?_ _ | refine Wrd.iter_ ?_ (by omega) _ _ | refine Wrd.set_ ?_ _ _ (by omega)))) r3
 have H3 := Lib.hid h3; clear h3
 have R3 := Lib.hid rW3; clear rW3 r3
 go_wp2
 rw [rounds_succ]
 go_wp2_with ((go_at_call 83; ((with_reducible refine (data_d ws 3 p _ (((bad || ws.isEmpty) || bD ws 1 4294967295) || bD ws 2 1048576) ?w2 HW.out).mono ?_))))
 case w2 => repeat (first | with_reducible exact H3.out | with_reducible refine WS.alloc ?_ _ | with_reducible refine WS.grown_ ?_ _ | with_reducible refine WS.iter_ ?_ _ _ _ _ | (with_reducible refine WS.set_other ?_ (.int .i64 0) _ (by omega) ((block_cells _ _ _ _ _).trans rfl) (fun _ e => by cases e)))
 rintro _ W4 ⟨dv, rfl, ho4, h4, r4⟩
 haveI : Tb W4 := r4.tb
 haveI : Ml W4 := r4.ml
 haveI bR4 : BlockAt W4 W.heap.size #[.int .i64 0, .int .u64 0, .int .u64 0, .int .i64 0, .int .i64 0, .int .i64 0, .slice none 0 0] 26 := r4.blockAt inferInstance (by omega)
 haveI bX4 : BlockAt W4 W1.heap.size #[.int .i64 5, .int .u64 (nD ws 1 4294967295), .int .u64 0, .int .i64 0, .int .i64 (nD ws 2 1048576), .int .i64 0, .slice none 0 0] 26 := r4.blockAt inferInstance (by omega)
 have cX4 : W4.cell? ⟨W1.heap.size, 6, none⟩ = some (.slice none 0 0) := (block_cells _ _ _ _ _).trans rfl
 have fX4 : W4.frozen? ⟨W1.heap.size, 6, none⟩ = false := block_frozen _ _ _ _ _
 haveI iX4 : IterAt W4 V.heap.size ⟨#[118, 97, 100]⟩ 3 := r4.iterAt inferInstance (by omega)
 have rW4 : Wrd p W W4 := Wrd.trans (by (with_reducible repeat (first | exact R3.out | refine Wrd.alloc_ ?_ _ | refine Wrd.grown_ ?_ _ | refine Wrd.iter_ ?_ (by omega) _ _ | refine Wrd.set_ ?_ _ _ (by omega)))) r4
 have H4 := Lib.hid h4; clear h4
 have ho9 : OwnR bv 5 W.heap.size W4 dv (dD ws 3) := OwnR.more ho4 (Wrd.g (p := p) (by (with_reducible repeat (first | exact R3.out | refine Wrd.alloc_ ?_ _ | refine Wrd.grown_ ?_ _ | refine Wrd.iter_ ?_ (by omega) _ _ | refine Wrd.set_ ?_ _ _ (by omega))))).size
 have HO := Lib.hid ho9; clear ho4 ho9
 obtain ⟨Ad, cd, rfl, hcd, hrd⟩ := HO.out.form
 clear hrd
 have R4 := Lib.hid rW4; clear rW4 r4
 go_wp2
 rw [rounds_succ]
 have x0 : W4.cell? ⟨W1.heap.size, 0, none⟩ = some (.int .i64 5) := (block_cells _ _ _ _ _).trans rfl
 have x1 : W4.cell? ⟨W1.heap.size, 1, none⟩ = some (.int .u64 (nD ws 1 4294967295)) := (block_cells _ _ _ _ _).trans rfl
 have x2 : W4.cell? ⟨W1.heap.size, 2, none⟩ = some (.int .u64 0) := (block_cells _ _ _ _ _).trans rfl
 have x3 : W4.cell? ⟨W1.heap.size, 3, none⟩ = some (.int .i64 0) := (block_cells _ _ _ _ _).trans rfl
 have x4 : W4.cell? ⟨W1.heap.size, 4, none⟩ = some (.int .i64 (nD ws 2 1048576)) := (block_cells _ _ _ _ _).trans rfl
 have x5 : W4.cell? ⟨W1.heap.size, 5, none⟩ = some (.int .i64 0) := (block_cells _ _ _ _ _).trans rfl
 have y0 : W4.cell? ⟨W.heap.size, 0, none⟩ = some (.int .i64 0) := (block_cells _ _ _ _ _).trans rfl
 have z0 : W4.frozen? ⟨W.heap.size, 0, none⟩ = false := block_frozen _ _ _ _ _
 have y1 : W4.cell? ⟨W.heap.size, 1, none⟩ = some (.int .u64 0) := (block_cells _ _ _ _ _).trans rfl
 have z1 : W4.frozen? ⟨W.heap.size, 1, none⟩ = false := block_frozen _ _ _ _ _
 have y2 : W4.cell? ⟨W.heap.size, 2, none⟩ = some (.int .u64 0) := (block_cells _ _ _ _ _).trans rfl
 have z2 : W4.frozen? ⟨W.heap.size, 2, none⟩ = false := block_frozen _ _ _ _ _
 have y3 : W4.cell? ⟨W.heap.size, 3, none⟩ = some (.int .i64 0) := (block_cells _ _ _ _ _).trans rfl
 have z3 : W4.frozen? ⟨W.heap.size, 3, none⟩ = false := block_frozen _ _ _ _ _
 have y4 : W4.cell? ⟨W.heap.size, 4, none⟩ = some (.int .i64 0) := (block_cells _ _ _ _ _).trans rfl
 have z4 : W4.frozen? ⟨W.heap.size, 4, none⟩ = false := block_frozen _ _ _ _ _
 have y5 : W4.cell? ⟨W.heap.size, 5, none⟩ = some (.int .i64 0) := (block_cells _ _ _ _ _).trans rfl
 have z5 : W4.frozen? ⟨W.heap.size, 5, none⟩ = false := block_frozen _ _ _ _ _
 have y6 : W4.cell? ⟨W.heap.size, 6, none⟩ = some (.slice none 0 0) := (block_cells _ _ _ _ _).trans rfl
 have z6 : W4.frozen? ⟨W.heap.size, 6, none⟩ = false := block_frozen _ _ _ _ _
 have e3 : (W.heap.size = W1.heap.size) = False := by simp; omega
 have e4 : (W1.heap.size = W.heap.size) = False := by simp; omega
 haveI : Old W.heap.size W4 := (inferInstance : BlockAt W4 W.heap.size _ _).old
 haveI : Old W1.heap.size W4 := (inferInstance : BlockAt W4 W1.heap.size _ _).old
 go_wp2
 refine bodyPost_ret (v := .agg #[.int .i64 5, .int .u64 (nD ws 1 4294967295), .int .u64 0, .int .i64 0, .int .i64 (nD ws 2 1048576), .int .i64 0, .slice Ad (dD ws 3).length cd]) (by simp [results, Tryz.results37, go_sem, e3, e4, x0, x1, x2, x3, x4, x5, y0, z0, y1, z1, y2, z2, y3, z3, y4, z4, y5, z5, y6, z6]) rfl ⟨_, rfl, ?own, ?ws9, ?wrd9⟩
 case own => (with_reducible repeat (first | exact HO.out | refine OwnR.set_ ?_ _ _ _ (by decide)))
 case ws9 => repeat (first | with_reducible exact H4.out | with_reducible refine WS.alloc ?_ _ | (with_reducible refine WS.setB ?_ _ (by omega) rfl))
 case wrd9 => (with_reducible repeat (first | exact R4.out | refine Wrd.alloc_ ?_ _ | refine Wrd.set_ ?_ _ _ (by omega)))
set_option maxRecDepth 100000 in
set_option maxHeartbeats 4000000 in
theorem wop_6 (p : Nat) (W : World) [hm : Ml W] [htb : Tb W] [hfp : Far p] (ws : List ByteArray) (bad : Bool) (h : WS p W ws bad) (hw : ∀ x ∈ ws, x.size ≤ 200000) (kk : Int) (hk : max (Lib.idxOfS opWl (hdW ws)) 0 = kk) (hkk : kk = 6) :
  Calls Tryz.prog 37 #[.pointer (some ⟨p, 0, none⟩)] W fun e W' => ∃ dv, e = .returned (.agg #[.int .i64 6, .int .u64 (nD ws 1 4294967295), .int .u64 0, .int .i64 0, .int .i64 (nD ws 2 1048576), .int .i64 (nD ws 3 1024), dv]) ∧ OwnR bv 5 W.heap.size W' dv [] ∧ WS p W' (ws.drop 4) ((((bad || ws.isEmpty) || bD ws 1 4294967295) || bD ws 2 1048576) || bD ws 3 1024) ∧ Wrd p W W' := by
 subst hkk
 have H := Lib.hid h; clear h
 have HW := Lib.hid hw; clear hw
 have en : opPartsB 6 = ⟨#[118, 97, 99]⟩ := rfl
 go_enter Tryz.func37, Tryz.ntmps37
 go_wp2_with ((go_at_call 80; ((with_reducible refine (opWords_any _).mono ?_))))
 rintro _ _ ⟨rfl, rfl⟩
 go_wp2_with ((go_at_call 49; ((with_reducible refine (word_any p _ ws bad ?ws).mono ?_))))
 case ws => exact (H.out.alloc _).alloc _
 rintro _ W1 ⟨rfl, h1, r1⟩
 haveI : Tb W1 := r1.tb
 haveI : Ml W1 := r1.ml
 have hp : p < W.heap.size := H.out.old.lt
 haveI bR1 : BlockAt W1 W.heap.size #[.int .i64 0, .int .u64 0, .int .u64 0, .int .i64 0, .int .i64 0, .int .i64 0, .slice none 0 0] 26 := r1.blockAt inferInstance (by omega)
 have bL : BlockAt W1 (W.heap.size + 1) (opWl.map Value.string).toArray 9 := r1.blockAt (show BlockAt _ (W.heap.size + 1) #[.string ⟨#[]⟩, .string ⟨#[99, 114, 101, 97, 116, 101]⟩, .string ⟨#[100, 101, 108, 101, 116, 101]⟩, .string ⟨#[114, 101, 115, 105, 122, 101]⟩, .string ⟨#[115, 110, 97, 112]⟩, .string ⟨#[119, 114, 105, 116, 101]⟩, .string ⟨#[122, 101, 114, 111]⟩, .string ⟨#[100, 105, 115, 99, 97, 114, 100]⟩, .string ⟨#[102, 108, 117, 115, 104]⟩, .string ⟨#[114, 101, 97, 100]⟩] 9 from inferInstance) (by omega)
 have hcl : ∀ j, j < opWl.length → W1.cell? ⟨W.heap.size + 1, 0 + j, none⟩ = some (.string (opWl.getD j ByteArray.empty)) := by
  intro j hj
  rw [Nat.zero_add, block_cells, List.getD_eq_getElem?_getD]
  simp [hj]
 have HCL := Lib.hid hcl; clear hcl bL
 have HIX := Lib.hid (Tryz.slices_Index_string (W.heap.size + 1) 0 10 10 opWl (hdW ws) W1 (by decide) (by decide) HCL.out)
 have HIX := Lib.hid (HIX.out.mono (R' := fun e w' => e = .returned (.int .i64 (Lib.idxOfS opWl (hdW ws))) ∧ W1 = w') fun _ _ ⟨a, b⟩ => ⟨a, b.symm⟩)
 generalize Lib.idxOfS opWl (hdW ws) = ix at *
 have hS1 : W.heap.size < W1.heap.size := bR1.lt
 have rW1 : Wrd p W W1 := ((Wrd.refl p W).alloc_ _).alloc_ _ |>.trans r1
 have h1' : WS p W1 (ws.drop 1) (bad || ws.isEmpty) := by rw [List.drop_one]; exact h1
 have H1 := Lib.hid h1'; clear h1 h1'
 have R1 := Lib.hid rW1; clear rW1 r1
 go_wp2_with ((go_at_call 50; ((with_reducible refine HIX.out.mono ?_))))
 rintro _ _ ⟨rfl, rfl⟩
 have hX : p < W1.heap.size := by omega
 haveI : BNe W.heap.size W1.heap.size := ⟨by have := bR1.old.lt; omega⟩
 clear HIX HCL
 go_wp2_with ((go_at_call 81; ((with_reducible refine (opPartsB_any 6 _).mono ?_))))
 rintro _ V ⟨rfl, hg⟩
 have hsV := hg.below.size
 have hsV : W1.heap.size + 1 ≤ V.heap.size := by simpa using hsV
 have bAV : BlockAt (W1.alloc (.cells #[.int .i64 6, .int .u64 0, .int .u64 0, .int .i64 0, .int .i64 0, .int .i64 0, .slice none 0 0] 26)) W1.heap.size #[.int .i64 6, .int .u64 0, .int .u64 0, .int .i64 0, .int .i64 0, .int .i64 0, .slice none 0 0] 26 := inferInstance
 have bAR : BlockAt (W1.alloc (.cells #[.int .i64 6, .int .u64 0, .int .u64 0, .int .i64 0, .int .i64 0, .int .i64 0, .slice none 0 0] 26)) W.heap.size #[.int .i64 0, .int .u64 0, .int .u64 0, .int .i64 0, .int .i64 0, .int .i64 0, .slice none 0 0] 26 := inferInstance
 haveI bXV : BlockAt V W1.heap.size #[.int .i64 6, .int .u64 0, .int .u64 0, .int .i64 0, .int .i64 0, .int .i64 0, .slice none 0 0] 26 := ⟨(hg.below.block _ bAV.lt).trans bAV.eq⟩
 haveI bRV : BlockAt V W.heap.size #[.int .i64 0, .int .u64 0, .int .u64 0, .int .i64 0, .int .i64 0, .int .i64 0, .slice none 0 0] 26 := ⟨(hg.below.block _ bAR.lt).trans bAR.eq⟩
 clear bAV bAR
 have rV := (R1.out.alloc_ _).trans (Wrd.gr hg)
 have H1 := Lib.hid ((H1.out.alloc _).gr2 hg)
 haveI : Tb V := (Wrd.gr (p := p) hg).tb
 haveI : Ml V := (Wrd.gr (p := p) hg).ml
 have R1 := Lib.hid rV; clear rV hg
 haveI : BNe W1.heap.size V.heap.size := ⟨by omega⟩
 haveI : BNe W.heap.size V.heap.size := ⟨by omega⟩
 go_wp2
 refine wp_loop_rounds 4 ?_
 rw [rounds_succ]
 go_wp2_with ((go_at_call 82; ((with_reducible refine (number_d ws 1 p _ (bad || ws.isEmpty) ?w0).mono ?_))))
 case w0 => repeat (first | with_reducible exact H1.out | with_reducible refine WS.alloc ?_ _ | with_reducible refine WS.grown_ ?_ _ | with_reducible refine WS.iter_ ?_ _ _ _ _ | (with_reducible refine WS.set_other ?_ (.int .i64 0) _ (by omega) ((block_cells _ _ _ _ _).trans rfl) (fun _ e => by cases e)))
 rintro _ W2 ⟨rfl, h2, r2⟩
 haveI : Tb W2 := r2.tb
 haveI : Ml W2 := r2.ml
 haveI bR2 : BlockAt W2 W.heap.size #[.int .i64 0, .int .u64 0, .int .u64 0, .int .i64 0, .int .i64 0, .int .i64 0, .slice none 0 0] 26 := r2.blockAt inferInstance (by omega)
 haveI bX2 : BlockAt W2 W1.heap.size #[.int .i64 6, .int .u64 0, .int .u64 0, .int .i64 0, .int .i64 0, .int .i64 0, .slice none 0 0] 26 := r2.blockAt inferInstance (by omega)
 have cX2 : W2.cell? ⟨W1.heap.size, 1, none⟩ = some (.int .u64 0) := (block_cells _ _ _ _ _).trans rfl
 have fX2 : W2.frozen? ⟨W1.heap.size, 1, none⟩ = false := block_frozen _ _ _ _ _
 haveI iX2 : IterAt W2 V.heap.size ⟨#[118, 97, 99]⟩ 1 := r2.iterAt inferInstance (by omega)
 have rW2 : Wrd p W W2 := Wrd.trans (by (with_reducible repeat (first | exact R1.out | refine Wrd.alloc_ ?_ _ | refine Wrd.grown_ ?_ _ | refine Wrd.iter_ ?_ (by omega) _ _ | refine Wrd.set_ ?_ _ _ (by omega)))) r2
 have H2 := Lib.hid h2; clear h2
 have R2 := Lib.hid rW2; clear rW2 r2
 go_wp2
 rw [rounds_succ]
 go_wp2_with ((go_at_call 53; ((with_reducible refine (small_a ws 2 p _ ((bad || ws.isEmpty) || bD ws 1 4294967295) ?w1).mono ?_))))
 case w1 => repeat (first | with_reducible exact H2.out | with_reducible refine WS.alloc ?_ _ | with_reducible refine WS.grown_ ?_ _ | with_reducible refine WS.iter_ ?_ _ _ _ _ | (with_reducible refine WS.set_other ?_ (.int .u64 0) _ (by omega) ((block_cells _ _ _ _ _).trans rfl) (fun _ e => by cases e)))
 rintro _ W3 ⟨rfl, h3, r3⟩
 haveI : Tb W3 := r3.tb
 haveI : Ml W3 := r3.ml
 haveI bR3 : BlockAt W3 W.heap.size #[.int .i64 0, .int .u64 0, .int .u64 0, .int .i64 0, .int .i64 0, .int .i64 0, .slice none 0 0] 26 := r3.blockAt inferInstance (by omega)
 haveI bX3 : BlockAt W3 W1.heap.size #[.int .i64 6, .int .u64 (nD ws 1 4294967295), .int .u64 0, .int .i64 0, .int .i64 0, .int .i64 0, .slice none 0 0] 26 := r3.blockAt inferInstance (by omega)
 have cX3 : W3.cell? ⟨W1.heap.size, 4, none⟩ = some (.int .i64 0) := (block_cells _ _ _ _ _).trans rfl
 have fX3 : W3.frozen? ⟨W1.heap.size, 4, none⟩ = false := block_frozen _ _ _ _ _
 haveI iX3 : IterAt W3 V.heap.size ⟨#[118, 97, 99]⟩ 2 := r3.iterAt inferInstance (by omega)
 have rW3 : Wrd p W W3 := Wrd.trans (by (with_reducible repeat (first | exact R2.out | refine Wrd.alloc_ ?_ _ | refine Wrd.grown_ ?_ _ | refine Wrd.iter_ ?_ (by omega) _ _ | refine Wrd.set_ ?_ _ _ (by omega)))) r3
 have H3 := Lib.hid h3; clear h3
 have R3 := Lib.hid rW3; clear rW3 r3
 go_wp2
 rw [rounds_succ]
 go_wp2_with ((go_at_call 53; ((with_reducible refine (small_c ws 3 p _ (((bad || ws.isEmpty) || bD ws 1 4294967295) || bD ws 2 1048576) ?w2).mono ?_))))
 case w2 => repeat (first | with_reducible exact H3.out | with_reducible refine WS.alloc ?_ _ | with_reducible refine WS.grown_ ?_ _ | with_reducible refine WS.iter_ ?_ _ _ _ _ | (with_reducible refine WS.set_other ?_ (.int .i64 0) _ (by omega) ((block_cells _ _ _ _ _).trans rfl) (fun _ e => by cases e)))
 rintro _ W4 ⟨rfl, h4, r4⟩
 haveI : Tb W4 := r4.tb
 haveI : Ml W4 := r4.ml
 haveI bR4 : BlockAt W4 W.heap.size #[.int .i64 0, .int .u64 0, .int .u64 0, .int .i64 0, .int .i64 0, .int .i64 0, .slice none 0 0] 26 := r4.blockAt inferInstance (by omega)
 haveI bX4 : BlockAt W4 W1.heap.size #[.int .i64 6, .int .u64 (nD ws 1 4294967295), .int .u64 0, .int .i64 0, .int .i64 (nD ws 2 1048576), .int .i64 0, .slice none 0 0] 26 := r4.blockAt inferInstance (by omega)
 have cX4 : W4.cell? ⟨W1.heap.size, 5, none⟩ = some (.int .i64 0) := (block_cells _ _ _ _ _).trans rfl
 have fX4 : W4.frozen? ⟨W1.heap.size, 5, none⟩ = false := block_frozen _ _ _ _ _
 haveI iX4 : IterAt W4 V.heap.size ⟨#[118, 97, 99]⟩ 3 := r4.iterAt inferInstance (by omega)
 have rW4 : Wrd p W W4 := Wrd.trans (by (with_reducible repeat (first | exact R3.out | refine Wrd.alloc_ ?_ _ | refine Wrd.grown_ ?_ _ | refine Wrd.iter_ ?_ (by omega) _ _ | refine Wrd.set_ ?_ _ _ (by omega)))) r4
 have H4 := Lib.hid h4; clear h4
 have R4 := Lib.hid rW4; clear rW4 r4
 go_wp2
 rw [rounds_succ]
 have x0 : W4.cell? ⟨W1.heap.size, 0, none⟩ = some (.int .i64 6) := (block_cells _ _ _ _ _).trans rfl
 have x1 : W4.cell? ⟨W1.heap.size, 1, none⟩ = some (.int .u64 (nD ws 1 4294967295)) := (block_cells _ _ _ _ _).trans rfl
 have x2 : W4.cell? ⟨W1.heap.size, 2, none⟩ = some (.int .u64 0) := (block_cells _ _ _ _ _).trans rfl
 have x3 : W4.cell? ⟨W1.heap.size, 3, none⟩ = some (.int .i64 0) := (block_cells _ _ _ _ _).trans rfl
 have x4 : W4.cell? ⟨W1.heap.size, 4, none⟩ = some (.int .i64 (nD ws 2 1048576)) := (block_cells _ _ _ _ _).trans rfl
 have x6 : W4.cell? ⟨W1.heap.size, 6, none⟩ = some (.slice none 0 0) := (block_cells _ _ _ _ _).trans rfl
 have y0 : W4.cell? ⟨W.heap.size, 0, none⟩ = some (.int .i64 0) := (block_cells _ _ _ _ _).trans rfl
 have z0 : W4.frozen? ⟨W.heap.size, 0, none⟩ = false := block_frozen _ _ _ _ _
 have y1 : W4.cell? ⟨W.heap.size, 1, none⟩ = some (.int .u64 0) := (block_cells _ _ _ _ _).trans rfl
 have z1 : W4.frozen? ⟨W.heap.size, 1, none⟩ = false := block_frozen _ _ _ _ _
 have y2 : W4.cell? ⟨W.heap.size, 2, none⟩ = some (.int .u64 0) := (block_cells _ _ _ _ _).trans rfl
 have z2 : W4.frozen? ⟨W.heap.size, 2, none⟩ = false := block_frozen _ _ _ _ _
 have y3 : W4.cell? ⟨W.heap.size, 3, none⟩ = some (.int .i64 0) := (block_cells _ _ _ _ _).trans rfl
 have z3 : W4.frozen? ⟨W.heap.size, 3, none⟩ = false := block_frozen _ _ _ _ _
 have y4 : W4.cell? ⟨W.heap.size, 4, none⟩ = some (.int .i64 0) := (block_cells _ _ _ _ _).trans rfl
 have z4 : W4.frozen? ⟨W.heap.size, 4, none⟩ = false := block_frozen _ _ _ _ _
 have y5 : W4.cell? ⟨W.heap.size, 5, none⟩ = some (.int .i64 0) := (block_cells _ _ _ _ _).trans rfl
 have z5 : W4.frozen? ⟨W.heap.size, 5, none⟩ = false := block_frozen _ _ _ _ _
 have y6 : W4.cell? ⟨W.heap.size, 6, none⟩ = some (.slice none 0 0) := (block_cells _ _ _ _ _).trans rfl
 have z6 : W4.frozen? ⟨W.heap.size, 6, none⟩ = false := block_frozen _ _ _ _ _
 have e3 : (W.heap.size = W1.heap.size) = False := by simp; omega
 have e4 : (W1.heap.size = W.heap.size) = False := by simp; omega
 haveI : Old W.heap.size W4 := (inferInstance : BlockAt W4 W.heap.size _ _).old
 haveI : Old W1.heap.size W4 := (inferInstance : BlockAt W4 W1.heap.size _ _).old
 go_wp2
 refine bodyPost_ret (v := .agg #[.int .i64 6, .int .u64 (nD ws 1 4294967295), .int .u64 0, .int .i64 0, .int .i64 (nD ws 2 1048576), .int .i64 (nD ws 3 1024), .slice none 0 0]) (by simp [results, Tryz.results37, go_sem, e3, e4, x0, x1, x2, x3, x4, x6, y0, z0, y1, z1, y2, z2, y3, z3, y4, z4, y5, z5, y6, z6]) rfl ⟨_, rfl, ?own, ?ws9, ?wrd9⟩
 case own => exact OwnR.nil _ _
 case ws9 => repeat (first | with_reducible exact H4.out | with_reducible refine WS.alloc ?_ _ | (with_reducible refine WS.setB ?_ _ (by omega) rfl))
 case wrd9 => (with_reducible repeat (first | exact R4.out | refine Wrd.alloc_ ?_ _ | refine Wrd.set_ ?_ _ _ (by omega)))
set_option maxRecDepth 100000 in
set_option maxHeartbeats 4000000 in
theorem wop_7 (p : Nat) (W : World) [hm : Ml W] [htb : Tb W] [hfp : Far p] (ws : List ByteArray) (bad : Bool) (h : WS p W ws bad) (hw : ∀ x ∈ ws, x.size ≤ 200000) (kk : Int) (hk : max (Lib.idxOfS opWl (hdW ws)) 0 = kk) (hkk : kk = 7) :
  Calls Tryz.prog 37 #[.pointer (some ⟨p, 0, none⟩)] W fun e W' => ∃ dv, e = .returned (.agg #[.int .i64 7, .int .u64 (nD ws 1 4294967295), .int .u64 0, .int .i64 0, .int .i64 (nD ws 2 1048576), .int .i64 (nD ws 3 1024), dv]) ∧ OwnR bv 5 W.heap.size W' dv [] ∧ WS p W' (ws.drop 4) ((((bad || ws.isEmpty) || bD ws 1 4294967295) || bD ws 2 1048576) || bD ws 3 1024) ∧ Wrd p W W' := by
 subst hkk
 have H := Lib.hid h; clear h
 have HW := Lib.hid hw; clear hw
 have en : opPartsB 7 = ⟨#[118, 97, 99]⟩ := rfl
 go_enter Tryz.func37, Tryz.ntmps37
 go_wp2_with ((go_at_call 80; ((with_reducible refine (opWords_any _).mono ?_))))
 rintro _ _ ⟨rfl, rfl⟩
 go_wp2_with ((go_at_call 49; ((with_reducible refine (word_any p _ ws bad ?ws).mono ?_))))
 case ws => exact (H.out.alloc _).alloc _
 rintro _ W1 ⟨rfl, h1, r1⟩
 haveI : Tb W1 := r1.tb
 haveI : Ml W1 := r1.ml
 have hp : p < W.heap.size := H.out.old.lt
 haveI bR1 : BlockAt W1 W.heap.size #[.int .i64 0, .int .u64 0, .int .u64 0, .int .i64 0, .int .i64 0, .int .i64 0, .slice none 0 0] 26 := r1.blockAt inferInstance (by omega)
 have bL : BlockAt W1 (W.heap.size + 1) (opWl.map Value.string).toArray 9 := r1.blockAt (show BlockAt _ (W.heap.size + 1) #[.string ⟨#[]⟩, .string ⟨#[99, 114, 101, 97, 116, 101]⟩, .string ⟨#[100, 101, 108, 101, 116, 101]⟩, .string ⟨#[114, 101, 115, 105, 122, 101]⟩, .string ⟨#[115, 110, 97, 112]⟩, .string ⟨#[119, 114, 105, 116, 101]⟩, .string ⟨#[122, 101, 114, 111]⟩, .string ⟨#[100, 105, 115, 99, 97, 114, 100]⟩, .string ⟨#[102, 108, 117, 115, 104]⟩, .string ⟨#[114, 101, 97, 100]⟩] 9 from inferInstance) (by omega)
 have hcl : ∀ j, j < opWl.length → W1.cell? ⟨W.heap.size + 1, 0 + j, none⟩ = some (.string (opWl.getD j ByteArray.empty)) := by
  intro j hj
  rw [Nat.zero_add, block_cells, List.getD_eq_getElem?_getD]
  simp [hj]
 have HCL := Lib.hid hcl; clear hcl bL
 have HIX := Lib.hid (Tryz.slices_Index_string (W.heap.size + 1) 0 10 10 opWl (hdW ws) W1 (by decide) (by decide) HCL.out)
 have HIX := Lib.hid (HIX.out.mono (R' := fun e w' => e = .returned (.int .i64 (Lib.idxOfS opWl (hdW ws))) ∧ W1 = w') fun _ _ ⟨a, b⟩ => ⟨a, b.symm⟩)
 generalize Lib.idxOfS opWl (hdW ws) = ix at *
 have hS1 : W.heap.size < W1.heap.size := bR1.lt
 have rW1 : Wrd p W W1 := ((Wrd.refl p W).alloc_ _).alloc_ _ |>.trans r1
 have h1' : WS p W1 (ws.drop 1) (bad || ws.isEmpty) := by rw [List.drop_one]; exact h1
 have H1 := Lib.hid h1'; clear h1 h1'
 have R1 := Lib.hid rW1; clear rW1 r1
 go_wp2_with ((go_at_call 50; ((with_reducible refine HIX.out.mono ?_))))
 rintro _ _ ⟨rfl, rfl⟩
 have hX : p < W1.heap.size := by omega
 haveI : BNe W.heap.size W1.heap.size := ⟨by have := bR1.old.lt; omega⟩
 clear HIX HCL
 go_wp2_with ((go_at_call 81; ((with_reducible refine (opPartsB_any 7 _).mono ?_))))
 rintro _ V ⟨rfl, hg⟩
 have hsV := hg.below.size
 have hsV : W1.heap.size + 1 ≤ V.heap.size := by simpa using hsV
 have bAV : BlockAt (W1.alloc (.cells #[.int .i64 7, .int .u64 0, .int .u64 0, .int .i64 0, .int .i64 0, .int .i64 0, .slice none 0 0] 26)) W1.heap.size #[.int .i64 7, .int .u64 0, .int .u64 0, .int .i64 0, .int .i64 0, .int .i64 0, .slice none 0 0] 26 := inferInstance
 have bAR : BlockAt (W1.alloc (.cells #[.int .i64 7, .int .u64 0, .int .u64 0, .int .i64 0, .int .i64 0, .int .i64 0, .slice none 0 0] 26)) W.heap.size #[.int .i64 0, .int .u64 0, .int .u64 0, .int .i64 0, .int .i64 0, .int .i64 0, .slice none 0 0] 26 := inferInstance
 haveI bXV : BlockAt V W1.heap.size #[.int .i64 7, .int .u64 0, .int .u64 0, .int .i64 0, .int .i64 0, .int .i64 0, .slice none 0 0] 26 := ⟨(hg.below.block _ bAV.lt).trans bAV.eq⟩
 haveI bRV : BlockAt V W.heap.size #[.int .i64 0, .int .u64 0, .int .u64 0, .int .i64 0, .int .i64 0, .int .i64 0, .slice none 0 0] 26 := ⟨(hg.below.block _ bAR.lt).trans bAR.eq⟩
 clear bAV bAR
 have rV := (R1.out.alloc_ _).trans (Wrd.gr hg)
 have H1 := Lib.hid ((H1.out.alloc _).gr2 hg)
 haveI : Tb V := (Wrd.gr (p := p) hg).tb
 haveI : Ml V := (Wrd.gr (p := p) hg).ml
 have R1 := Lib.hid rV; clear rV hg
 haveI : BNe W1.heap.size V.heap.size := ⟨by omega⟩
 haveI : BNe W.heap.size V.heap.size := ⟨by omega⟩
 go_wp2
 refine wp_loop_rounds 4 ?_
 rw [rounds_succ]
 go_wp2_with ((go_at_call 82; ((with_reducible refine (number_d ws 1 p _ (bad || ws.isEmpty) ?w0).mono ?_))))
 case w0 => repeat (first | with_reducible exact H1.out | with_reducible refine WS.alloc ?_ _ | with_reducible refine WS.grown_ ?_ _ | with_reducible refine WS.iter_ ?_ _ _ _ _ | (with_reducible refine WS.set_other ?_ (.int .i64 0) _ (by omega) ((block_cells _ _ _ _ _).trans rfl) (fun _ e => by cases e)))
 rintro _ W2 ⟨rfl, h2, r2⟩
 haveI : Tb W2 := r2.tb
 haveI : Ml W2 := r2.ml
 haveI bR2 : BlockAt W2 W.heap.size #[.int .i64 0, .int .u64 0, .int .u64 0, .int .i64 0, .int .i64 0, .int .i64 0, .slice none 0 0] 26 := r2.blockAt inferInstance (by omega)
 haveI bX2 : BlockAt W2 W1.heap.size #[.int .i64 7, .int .u64 0, .int .u64 0, .int .i64 0, .int .i64 0, .int .i64 0, .slice none 0 0] 26 := r2.blockAt inferInstance (by omega)
 have cX2 : W2.cell? ⟨W1.heap.size, 1, none⟩ = some (.int .u64 0) := (block_cells _ _ _ _ _).trans rfl
 have fX2 : W2.frozen? ⟨W1.heap.size, 1, none⟩ = false := block_frozen _ _ _ _ _
 haveI iX2 : IterAt W2 V.heap.size ⟨#[118, 97, 99]⟩ 1 := r2.iterAt inferInstance (by omega)
 have rW2 : Wrd p W W2 := Wrd.trans (by (with_reducible repeat (first | exact R1.out | refine Wrd.alloc_ ?_ _ | refine Wrd.grown_ ?_ _ | refine Wrd.iter_ ?_ (by omega) _ _ | refine Wrd.set_ ?_ _ _ (by omega)))) r2
 have H2 := Lib.hid h2; clear h2
 have R2 := Lib.hid rW2; clear rW2 r2
 go_wp2
 rw [rounds_succ]
 go_wp2_with ((go_at_call 53; ((with_reducible refine (small_a ws 2 p _ ((bad || ws.isEmpty) || bD ws 1 4294967295) ?w1).mono ?_))))
 case w1 => repeat (first | with_reducible exact H2.out | with_reducible refine WS.alloc ?_ _ | with_reducible refine WS.grown_ ?_ _ | with_reducible refine WS.iter_ ?_ _ _ _ _ | (with_reducible refine WS.set_other ?_ (.int .u64 0) _ (by omega) ((block_cells _ _ _ _ _).trans rfl) (fun _ e => by cases e)))
 rintro _ W3 ⟨rfl, h3, r3⟩
 haveI : Tb W3 := r3.tb
 haveI : Ml W3 := r3.ml
 haveI bR3 : BlockAt W3 W.heap.size #[.int .i64 0, .int .u64 0, .int .u64 0, .int .i64 0, .int .i64 0, .int .i64 0, .slice none 0 0] 26 := r3.blockAt inferInstance (by omega)
 haveI bX3 : BlockAt W3 W1.heap.size #[.int .i64 7, .int .u64 (nD ws 1 4294967295), .int .u64 0, .int .i64 0, .int .i64 0, .int .i64 0, .slice none 0 0] 26 := r3.blockAt inferInstance (by omega)
 have cX3 : W3.cell? ⟨W1.heap.size, 4, none⟩ = some (.int .i64 0) := (block_cells _ _ _ _ _).trans rfl
 have fX3 : W3.frozen? ⟨W1.heap.size, 4, none⟩ = false := block_frozen _ _ _ _ _
 haveI iX3 : IterAt W3 V.heap.size ⟨#[118, 97, 99]⟩ 2 := r3.iterAt inferInstance (by omega)
 have rW3 : Wrd p W W3 := Wrd.trans (by (with_reducible repeat (first | exact R2.out | refine Wrd.alloc_ ?_ _ | refine Wrd.grown_ ?_ _ | refine Wrd.iter_ ?_ (by omega) _ _ | refine Wrd.set_ ?_ _ _ (by omega)))) r3
 have H3 := Lib.hid h3; clear h3
 have R3 := Lib.hid rW3; clear rW3 r3
 go_wp2
 rw [rounds_succ]
 go_wp2_with ((go_at_call 53; ((with_reducible refine (small_c ws 3 p _ (((bad || ws.isEmpty) || bD ws 1 4294967295) || bD ws 2 1048576) ?w2).mono ?_))))
 case w2 => repeat (first | with_reducible exact H3.out | with_reducible refine WS.alloc ?_ _ | with_reducible refine WS.grown_ ?_ _ | with_reducible refine WS.iter_ ?_ _ _ _ _ | (with_reducible refine WS.set_other ?_ (.int .i64 0) _ (by omega) ((block_cells _ _ _ _ _).trans rfl) (fun _ e => by cases e)))
 rintro _ W4 ⟨rfl, h4, r4⟩
 haveI : Tb W4 := r4.tb
 haveI : Ml W4 := r4.ml
 haveI bR4 : BlockAt W4 W.heap.size #[.int .i64 0, .int .u64 0, .int .u64 0, .int .i64 0, .int .i64 0, .int .i64 0, .slice none 0 0] 26 := r4.blockAt inferInstance (by omega)
 haveI bX4 : BlockAt W4 W1.heap.size #[.int .i64 7, .int .u64 (nD ws 1 4294967295), .int .u64 0, .int .i64 0, .int .i64 (nD ws 2 1048576), .int .i64 0, .slice none 0 0] 26 := r4.blockAt inferInstance (by omega)
 have cX4 : W4.cell? ⟨W1.heap.size, 5, none⟩ = some (.int .i64 0) := (block_cells _ _ _ _ _).trans rfl
 have fX4 : W4.frozen? ⟨W1.heap.size, 5, none⟩ = false := block_frozen _ _ _ _ _
 haveI iX4 : IterAt W4 V.heap.size ⟨#[118, 97, 99]⟩ 3 := r4.iterAt inferInstance (by omega)
 have rW4 : Wrd p W W4 := Wrd.trans (by (with_reducible repeat (first | exact R3.out | refine Wrd.alloc_ ?_ _ | refine Wrd.grown_ ?_ _ | refine Wrd.iter_ ?_ (by omega) _ _ | refine Wrd.set_ ?_ _ _ (by omega)))) r4
 have H4 := Lib.hid h4; clear h4
 have R4 := Lib.hid rW4; clear rW4 r4
 go_wp2
 rw [rounds_succ]
 have x0 : W4.cell? ⟨W1.heap.size, 0, none⟩ = some (.int .i64 7) := (block_cells _ _ _ _ _).trans rfl
 have x1 : W4.cell? ⟨W1.heap.size, 1, none⟩ = some (.int .u64 (nD ws 1 4294967295)) := (block_cells _ _ _ _ _).trans rfl
 have x2 : W4.cell? ⟨W1.heap.size, 2, none⟩ = some (.int .u64 0) := (block_cells _ _ _ _ _).trans rfl
 have x3 : W4.cell? ⟨W1.heap.size, 3, none⟩ = some (.int .i64 0) := (block_cells _ _ _ _ _).trans rfl
 have x4 : W4.cell? ⟨W1.heap.size, 4, none⟩ = some (.int .i64 (nD ws 2 1048576)) := (block_cells _ _ _ _ _).trans rfl
 have x6 : W4.cell? ⟨W1.heap.size, 6, none⟩ = some (.slice none 0 0) := (block_cells _ _ _ _ _).trans rfl
 have y0 : W4.cell? ⟨W.heap.size, 0, none⟩ = some (.int .i64 0) := (block_cells _ _ _ _ _).trans rfl
 have z0 : W4.frozen? ⟨W.heap.size, 0, none⟩ = false := block_frozen _ _ _ _ _
 have y1 : W4.cell? ⟨W.heap.size, 1, none⟩ = some (.int .u64 0) := (block_cells _ _ _ _ _).trans rfl
 have z1 : W4.frozen? ⟨W.heap.size, 1, none⟩ = false := block_frozen _ _ _ _ _
 have y2 : W4.cell? ⟨W.heap.size, 2, none⟩ = some (.int .u64 0) := (block_cells _ _ _ _ _).trans rfl
 have z2 : W4.frozen? ⟨W.heap.size, 2, none⟩ = false := block_frozen _ _ _ _ _
 have y3 : W4.cell? ⟨W.heap.size, 3, none⟩ = some (.int .i64 0) := (block_cells _ _ _ _ _).trans rfl
 have z3 : W4.frozen? ⟨W.heap.size, 3, none⟩ = false := block_frozen _ _ _ _ _
 have y4 : W4.cell? ⟨W.heap.size, 4, none⟩ = some (.int .i64 0) := (block_cells _ _ _ _ _).trans rfl
 have z4 : W4.frozen? ⟨W.heap.size, 4, none⟩ = false := block_frozen _ _ _ _ _
 have y5 : W4.cell? ⟨W.heap.size, 5, none⟩ = some (.int .i64 0) := (block_cells _ _ _ _ _).trans rfl
 have z5 : W4.frozen? ⟨W.heap.size, 5, none⟩ = false := block_frozen _ _ _ _ _
 have y6 : W4.cell? ⟨W.heap.size, 6, none⟩ = some (.slice none 0 0) := (block_cells _ _ _ _ _).trans rfl
 have z6 : W4.frozen? ⟨W.heap.size, 6, none⟩ = false := block_frozen _ _ _ _ _
 have e3 : (W.heap.size = W1.heap.size) = False := by simp; omega
 have e4 : (W1.heap.size = W.heap.size) = False := by simp; omega
 haveI : Old W.heap.size W4 := (inferInstance : BlockAt W4 W.heap.size _ _).old
 haveI : Old W1.heap.size W4 := (inferInstance : BlockAt W4 W1.heap.size _ _).old
 go_wp2
 refine bodyPost_ret (v := .agg #[.int .i64 7, .int .u64 (nD ws 1 4294967295), .int .u64 0, .int .i64 0, .int .i64 (nD ws 2 1048576), .int .i64 (nD ws 3 1024), .slice none 0 0]) (by simp [results, Tryz.results37, go_sem, e3, e4, x0, x1, x2, x3, x4, x6, y0, z0, y1, z1, y2, z2, y3, z3, y4, z4, y5, z5, y6, z6]) rfl ⟨_, rfl, ?own, ?ws9, ?wrd9⟩
 case own => exact OwnR.nil _ _
 case ws9 => repeat (first | with_reducible exact H4.out | with_reducible refine WS.alloc ?_ _ | (with_reducible refine WS.setB ?_ _ (by omega) rfl))
 case wrd9 => (with_reducible repeat (first | exact R4.out | refine Wrd.alloc_ ?_ _ | refine Wrd.set_ ?_ _ _ (by omega)))
set_option maxRecDepth 100000 in
set_option maxHeartbeats 4000000 in
theorem wop_8 (p : Nat) (W : World) [hm : Ml W] [htb : Tb W] [hfp : Far p] (ws : List ByteArray) (bad : Bool) (h : WS p W ws bad) (hw : ∀ x ∈ ws, x.size ≤ 200000) (kk : Int) (hk : max (Lib.idxOfS opWl (hdW ws)) 0 = kk) (hkk : kk = 8) :
  Calls Tryz.prog 37 #[.pointer (some ⟨p, 0, none⟩)] W fun e W' => ∃ dv, e = .returned (.agg #[.int .i64 8, .int .u64 0, .int .u64 0, .int .i64 0, .int .i64 0, .int .i64 0, dv]) ∧ OwnR bv 5 W.heap.size W' dv [] ∧ WS p W' (ws.drop 1) (bad || ws.isEmpty) ∧ Wrd p W W' := by
 subst hkk
 have H := Lib.hid h; clear h
 have HW := Lib.hid hw; clear hw
 have en : opPartsB 8 = ⟨#[]⟩ := rfl
 go_enter Tryz.func37, Tryz.ntmps37
 go_wp2_with ((go_at_call 80; ((with_reducible refine (opWords_any _).mono ?_))))
 rintro _ _ ⟨rfl, rfl⟩
 go_wp2_with ((go_at_call 49; ((with_reducible refine (word_any p _ ws bad ?ws).mono ?_))))
 case ws => exact (H.out.alloc _).alloc _
 rintro _ W1 ⟨rfl, h1, r1⟩
 haveI : Tb W1 := r1.tb
 haveI : Ml W1 := r1.ml
 have hp : p < W.heap.size := H.out.old.lt
 haveI bR1 : BlockAt W1 W.heap.size #[.int .i64 0, .int .u64 0, .int .u64 0, .int .i64 0, .int .i64 0, .int .i64 0, .slice none 0 0] 26 := r1.blockAt inferInstance (by omega)
 have bL : BlockAt W1 (W.heap.size + 1) (opWl.map Value.string).toArray 9 := r1.blockAt (show BlockAt _ (W.heap.size + 1) #[.string ⟨#[]⟩, .string ⟨#[99, 114, 101, 97, 116, 101]⟩, .string ⟨#[100, 101, 108, 101, 116, 101]⟩, .string ⟨#[114, 101, 115, 105, 122, 101]⟩, .string ⟨#[115, 110, 97, 112]⟩, .string ⟨#[119, 114, 105, 116, 101]⟩, .string ⟨#[122, 101, 114, 111]⟩, .string ⟨#[100, 105, 115, 99, 97, 114, 100]⟩, .string ⟨#[102, 108, 117, 115, 104]⟩, .string ⟨#[114, 101, 97, 100]⟩] 9 from inferInstance) (by omega)
 have hcl : ∀ j, j < opWl.length → W1.cell? ⟨W.heap.size + 1, 0 + j, none⟩ = some (.string (opWl.getD j ByteArray.empty)) := by
  intro j hj
  rw [Nat.zero_add, block_cells, List.getD_eq_getElem?_getD]
  simp [hj]
 have HCL := Lib.hid hcl; clear hcl bL
 have HIX := Lib.hid (Tryz.slices_Index_string (W.heap.size + 1) 0 10 10 opWl (hdW ws) W1 (by decide) (by decide) HCL.out)
 have HIX := Lib.hid (HIX.out.mono (R' := fun e w' => e = .returned (.int .i64 (Lib.idxOfS opWl (hdW ws))) ∧ W1 = w') fun _ _ ⟨a, b⟩ => ⟨a, b.symm⟩)
 generalize Lib.idxOfS opWl (hdW ws) = ix at *
 have hS1 : W.heap.size < W1.heap.size := bR1.lt
 have rW1 : Wrd p W W1 := ((Wrd.refl p W).alloc_ _).alloc_ _ |>.trans r1
 have h1' : WS p W1 (ws.drop 1) (bad || ws.isEmpty) := by rw [List.drop_one]; exact h1
 have H1 := Lib.hid h1'; clear h1 h1'
 have R1 := Lib.hid rW1; clear rW1 r1
 go_wp2_with ((go_at_call 50; ((with_reducible refine HIX.out.mono ?_))))
 rintro _ _ ⟨rfl, rfl⟩
 have hX : p < W1.heap.size := by omega
 haveI : BNe W.heap.size W1.heap.size := ⟨by have := bR1.old.lt; omega⟩
 clear HIX HCL
 go_wp2_with ((go_at_call 81; ((with_reducible refine (opPartsB_any 8 _).mono ?_))))
 rintro _ V ⟨rfl, hg⟩
 have hsV := hg.below.size
 have hsV : W1.heap.size + 1 ≤ V.heap.size := by simpa using hsV
 have bAV : BlockAt (W1.alloc (.cells #[.int .i64 8, .int .u64 0, .int .u64 0, .int .i64 0, .int .i64 0, .int .i64 0, .slice none 0 0] 26)) W1.heap.size #[.int .i64 8, .int .u64 0, .int .u64 0, .int .i64 0, .int .i64 0, .int .i64 0, .slice none 0 0] 26 := inferInstance
 have bAR : BlockAt (W1.alloc (.cells #[.int .i64 8, .int .u64 0, .int .u64 0, .int .i64 0, .int .i64 0, .int .i64 0, .slice none 0 0] 26)) W.heap.size #[.int .i64 0, .int .u64 0, .int .u64 0, .int .i64 0, .int .i64 0, .int .i64 0, .slice none 0 0] 26 := inferInstance
 haveI bXV : BlockAt V W1.heap.size #[.int .i64 8, .int .u64 0, .int .u64 0, .int .i64 0, .int .i64 0, .int .i64 0, .slice none 0 0] 26 := ⟨(hg.below.block _ bAV.lt).trans bAV.eq⟩
 haveI bRV : BlockAt V W.heap.size #[.int .i64 0, .int .u64 0, .int .u64 0, .int .i64 0, .int .i64 0, .int .i64 0, .slice none 0 0] 26 := ⟨(hg.below.block _ bAR.lt).trans bAR.eq⟩
 clear bAV bAR
 have rV := (R1.out.alloc_ _).trans (Wrd.gr hg)
 have H1 := Lib.hid ((H1.out.alloc _).gr2 hg)
 haveI : Tb V := (Wrd.gr (p := p) hg).tb
 haveI : Ml V := (Wrd.gr (p := p) hg).ml
 have R1 := Lib.hid rV; clear rV hg
 haveI : BNe W1.heap.size V.heap.size := ⟨by omega⟩
 haveI : BNe W.heap.size V.heap.size := ⟨by omega⟩
 go_wp2
 refine wp_loop_rounds 1 ?_
 rw [rounds_succ]
 have x0 : V.cell? ⟨W1.heap.size, 0, none⟩ = some (.int .i64 8) := (block_cells _ _ _ _ _).trans rfl
 have x1 : V.cell? ⟨W1.heap.size, 1, none⟩ = some (.int .u64 0) := (block_cells _ _ _ _ _).trans rfl
 have x2 : V.cell? ⟨W1.heap.size, 2, none⟩ = some (.int .u64 0) := (block_cells _ _ _ _ _).trans rfl
 have x3 : V.cell? ⟨W1.heap.size, 3, none⟩ = some (.int .i64 0) := (block_cells _ _ _ _ _).trans rfl
 have x4 : V.cell? ⟨W1.heap.size, 4, none⟩ = some (.int .i64 0) := (block_cells _ _ _ _ _).trans rfl
 have x5 : V.cell? ⟨W1.heap.size, 5, none⟩ = some (.int .i64 0) := (block_cells _ _ _ _ _).trans rfl
 have x6 : V.cell? ⟨W1.heap.size, 6, none⟩ = some (.slice none 0 0) := (block_cells _ _ _ _ _).trans rfl
 have y0 : V.cell? ⟨W.heap.size, 0, none⟩ = some (.int .i64 0) := (block_cells _ _ _ _ _).trans rfl
 have z0 : V.frozen? ⟨W.heap.size, 0, none⟩ = false := block_frozen _ _ _ _ _
 have y1 : V.cell? ⟨W.heap.size, 1, none⟩ = some (.int .u64 0) := (block_cells _ _ _ _ _).trans rfl
 have z1 : V.frozen? ⟨W.heap.size, 1, none⟩ = false := block_frozen _ _ _ _ _
 have y2 : V.cell? ⟨W.heap.size, 2, none⟩ = some (.int .u64 0) := (block_cells _ _ _ _ _).trans rfl
 have z2 : V.frozen? ⟨W.heap.size, 2, none⟩ = false := block_frozen _ _ _ _ _
 have y3 : V.cell? ⟨W.heap.size, 3, none⟩ = some (.int .i64 0) := (block_cells _ _ _ _ _).trans rfl
 have z3 : V.frozen? ⟨W.heap.size, 3, none⟩ = false := block_frozen _ _ _ _ _
 have y4 : V.cell? ⟨W.heap.size, 4, none⟩ = some (.int .i64 0) := (block_cells _ _ _ _ _).trans rfl
 have z4 : V.frozen? ⟨W.heap.size, 4, none⟩ = false := block_frozen _ _ _ _ _
 have y5 : V.cell? ⟨W.heap.size, 5, none⟩ = some (.int .i64 0) := (block_cells _ _ _ _ _).trans rfl
 have z5 : V.frozen? ⟨W.heap.size, 5, none⟩ = false := block_frozen _ _ _ _ _
 have y6 : V.cell? ⟨W.heap.size, 6, none⟩ = some (.slice none 0 0) := (block_cells _ _ _ _ _).trans rfl
 have z6 : V.frozen? ⟨W.heap.size, 6, none⟩ = false := block_frozen _ _ _ _ _
 have e3 : (W.heap.size = W1.heap.size) = False := by simp; omega
 have e4 : (W1.heap.size = W.heap.size) = False := by simp; omega
 haveI : Old W.heap.size V := (inferInstance : BlockAt V W.heap.size _ _).old
 haveI : Old W1.heap.size V := (inferInstance : BlockAt V W1.heap.size _ _).old
 go_wp2
 refine bodyPost_ret (v := .agg #[.int .i64 8, .int .u64 0, .int .u64 0, .int .i64 0, .int .i64 0, .int .i64 0, .slice none 0 0]) (by simp [results, Tryz.results37, go_sem, e3, e4, x0, x1, x2, x3, x4, x5, x6, y0, z0, y1, z1, y2, z2, y3, z3, y4, z4, y5, z5, y6, z6]) rfl ⟨_, rfl, ?own, ?ws9, ?wrd9⟩
 case own => exact OwnR.nil _ _
 case ws9 => repeat (first | with_reducible exact H1.out | with_reducible refine WS.alloc ?_ _ | (with_reducible refine WS.setB ?_ _ (by omega) rfl))
 case wrd9 => (with_reducible repeat (first | exact R1.out | refine Wrd.alloc_ ?_ _ | refine Wrd.set_ ?_ _ _ (by omega)))
set_option maxRecDepth 100000 in
set_option maxHeartbeats 4000000 in
theorem wop_9 (p : Nat) (W : World) [hm : Ml W] [htb : Tb W] [hfp : Far p] (ws : List ByteArray) (bad : Bool) (h : WS p W ws bad) (hw : ∀ x ∈ ws, x.size ≤ 200000) (kk : Int) (hk : max (Lib.idxOfS opWl (hdW ws)) 0 = kk) (hkk : kk = 9) :
  Calls Tryz.prog 37 #[.pointer (some ⟨p, 0, none⟩)] W fun e W' => ∃ dv, e = .returned (.agg #[.int .i64 9, .int .u64 (nD ws 1 4294967295), .int .u64 0, .int .i64 0, .int .i64 (nD ws 2 1048576), .int .i64 (nD ws 3 1024), dv]) ∧ OwnR bv 5 W.heap.size W' dv [] ∧ WS p W' (ws.drop 4) ((((bad || ws.isEmpty) || bD ws 1 4294967295) || bD ws 2 1048576) || bD ws 3 1024) ∧ Wrd p W W' := by
 subst hkk
 have H := Lib.hid h; clear h
 have HW := Lib.hid hw; clear hw
 have en : opPartsB 9 = ⟨#[118, 97, 99]⟩ := rfl
 go_enter Tryz.func37, Tryz.ntmps37
 go_wp2_with ((go_at_call 80; ((with_reducible refine (opWords_any _).mono ?_))))
 rintro _ _ ⟨rfl, rfl⟩
 go_wp2_with ((go_at_call 49; ((with_reducible refine (word_any p _ ws bad ?ws).mono ?_))))
 case ws => exact (H.out.alloc _).alloc _
 rintro _ W1 ⟨rfl, h1, r1⟩
 haveI : Tb W1 := r1.tb
 haveI : Ml W1 := r1.ml
 have hp : p < W.heap.size := H.out.old.lt
 haveI bR1 : BlockAt W1 W.heap.size #[.int .i64 0, .int .u64 0, .int .u64 0, .int .i64 0, .int .i64 0, .int .i64 0, .slice none 0 0] 26 := r1.blockAt inferInstance (by omega)
 have bL : BlockAt W1 (W.heap.size + 1) (opWl.map Value.string).toArray 9 := r1.blockAt (show BlockAt _ (W.heap.size + 1) #[.string ⟨#[]⟩, .string ⟨#[99, 114, 101, 97, 116, 101]⟩, .string ⟨#[100, 101, 108, 101, 116, 101]⟩, .string ⟨#[114, 101, 115, 105, 122, 101]⟩, .string ⟨#[115, 110, 97, 112]⟩, .string ⟨#[119, 114, 105, 116, 101]⟩, .string ⟨#[122, 101, 114, 111]⟩, .string ⟨#[100, 105, 115, 99, 97, 114, 100]⟩, .string ⟨#[102, 108, 117, 115, 104]⟩, .string ⟨#[114, 101, 97, 100]⟩] 9 from inferInstance) (by omega)
 have hcl : ∀ j, j < opWl.length → W1.cell? ⟨W.heap.size + 1, 0 + j, none⟩ = some (.string (opWl.getD j ByteArray.empty)) := by
  intro j hj
  rw [Nat.zero_add, block_cells, List.getD_eq_getElem?_getD]
  simp [hj]
 have HCL := Lib.hid hcl; clear hcl bL
 have HIX := Lib.hid (Tryz.slices_Index_string (W.heap.size + 1) 0 10 10 opWl (hdW ws) W1 (by decide) (by decide) HCL.out)
 have HIX := Lib.hid (HIX.out.mono (R' := fun e w' => e = .returned (.int .i64 (Lib.idxOfS opWl (hdW ws))) ∧ W1 = w') fun _ _ ⟨a, b⟩ => ⟨a, b.symm⟩)
 generalize Lib.idxOfS opWl (hdW ws) = ix at *
 have hS1 : W.heap.size < W1.heap.size := bR1.lt
 have rW1 : Wrd p W W1 := ((Wrd.refl p W).alloc_ _).alloc_ _ |>.trans r1
 have h1' : WS p W1 (ws.drop 1) (bad || ws.isEmpty) := by rw [List.drop_one]; exact h1
 have H1 := Lib.hid h1'; clear h1 h1'
 have R1 := Lib.hid rW1; clear rW1 r1
 go_wp2_with ((go_at_call 50; ((with_reducible refine HIX.out.mono ?_))))
 rintro _ _ ⟨rfl, rfl⟩
 have hX : p < W1.heap.size := by omega
 haveI : BNe W.heap.size W1.heap.size := ⟨by have := bR1.old.lt; omega⟩
 clear HIX HCL
 go_wp2_with ((go_at_call 81; ((with_reducible refine (opPartsB_any 9 _).mono ?_))))
 rintro _ V ⟨rfl, hg⟩
 have hsV := hg.below.size
 have hsV : W1.heap.size + 1 ≤ V.heap.size := by simpa using hsV
 have bAV : BlockAt (W1.alloc (.cells #[.int .i64 9, .int .u64 0, .int .u64 0, .int .i64 0, .int .i64 0, .int .i64 0, .slice none 0 0] 26)) W1.heap.size #[.int .i64 9, .int .u64 0, .int .u64 0, .int .i64 0, .int .i64 0, .int .i64 0, .slice none 0 0] 26 := inferInstance
 have bAR : BlockAt (W1.alloc (.cells #[.int .i64 9, .int .u64 0, .int .u64 0, .int .i64 0, .int .i64 0, .int .i64 0, .slice none 0 0] 26)) W.heap.size #[.int .i64 0, .int .u64 0, .int .u64 0, .int .i64 0, .int .i64 0, .int .i64 0, .slice none 0 0] 26 := inferInstance
 haveI bXV : BlockAt V W1.heap.size #[.int .i64 9, .int .u64 0, .int .u64 0, .int .i64 0, .int .i64 0, .int .i64 0, .slice none 0 0] 26 := ⟨(hg.below.block _ bAV.lt).trans bAV.eq⟩
 haveI bRV : BlockAt V W.heap.size #[.int .i64 0, .int .u64 0, .int .u64 0, .int .i64 0, .int .i64 0, .int .i64 0, .slice none 0 0] 26 := ⟨(hg.below.block _ bAR.lt).trans bAR.eq⟩
 clear bAV bAR
 have rV := (R1.out.alloc_ _).trans (Wrd.gr hg)
 have H1 := Lib.hid ((H1.out.alloc _).gr2 hg)
 haveI : Tb V := (Wrd.gr (p := p) hg).tb
 haveI : Ml V := (Wrd.gr (p := p) hg).ml
 have R1 := Lib.hid rV; clear rV hg
 haveI : BNe W1.heap.size V.heap.size := ⟨by omega⟩
 haveI : BNe W.heap.size V.heap.size := ⟨by omega⟩
 go_wp2
 refine wp_loop_rounds 4 ?_
 rw [rounds_succ]
 go_wp2_with ((go_at_call 82; ((with_reducible refine (number_d ws 1 p _ (bad || ws.isEmpty) ?w0).mono ?_))))
 case w0 => repeat (first | with_reducible exact H1.out | with_reducible refine WS.alloc ?_ _ | with_reducible refine WS.grown_ ?_ _ | with_reducible refine WS.iter_ ?_ _ _ _ _ | (with_reducible refine WS.set_other ?_ (.int .i64 0) _ (by omega) ((block_cells _ _ _ _ _).trans rfl) (fun _ e => by cases e)))
 rintro _ W2 ⟨rfl, h2, r2⟩
 haveI : Tb W2 := r2.tb
 haveI : Ml W2 := r2.ml
 haveI bR2 : BlockAt W2 W.heap.size #[.int .i64 0, .int .u64 0, .int .u64 0, .int .i64 0, .int .i64 0, .int .i64 0, .slice none 0 0] 26 := r2.blockAt inferInstance (by omega)
 haveI bX2 : BlockAt W2 W1.heap.size #[.int .i64 9, .int .u64 0, .int .u64 0, .int .i64 0, .int .i64 0, .int .i64 0, .slice none 0 0] 26 := r2.blockAt inferInstance (by omega)
 have cX2 : W2.cell? ⟨W1.heap.size, 1, none⟩ = some (.int .u64 0) := (block_cells _ _ _ _ _).trans rfl
 have fX2 : W2.frozen? ⟨W1.heap.size, 1, none⟩ = false := block_frozen _ _ _ _ _
 haveI iX2 : IterAt W2 V.heap.size ⟨#[118, 97, 99]⟩ 1 := r2.iterAt inferInstance (by omega)
 have rW2 : Wrd p W W2 := Wrd.trans (by (with_reducible repeat (first | exact R1.out | refine Wrd.alloc_ ?_ _ | refine Wrd.grown_ ?_ _ | refine Wrd.iter_ ?_ (by omega) _ _ | refine Wrd.set_ ?_ _ _ (by omega)))) r2
 have H2 := Lib.hid h2; clear h2
 have R2 := Lib.hid rW2; clear rW2 r2
 go_wp2
 rw [rounds_succ]
 go_wp2_with ((go_at_call 53; ((with_reducible refine (small_a ws 2 p _ ((bad || ws.isEmpty) || bD ws 1 4294967295) ?w1).mono ?_))))
 case w1 => repeat (first | with_reducible exact H2.out | with_reducible refine WS.alloc ?_ _ | with_reducible refine WS.grown_ ?_ _ | with_reducible refine WS.iter_ ?_ _ _ _ _ | (with_reducible refine WS.set_other ?_ (.int .u64 0) _ (by omega) ((block_cells _ _ _ _ _).trans rfl) (fun _ e => by cases e)))
 rintro _ W3 ⟨rfl, h3, r3⟩
 haveI : Tb W3 := r3.tb
 haveI : Ml W3 := r3.ml
 haveI bR3 : BlockAt W3 W.heap.size #[.int .i64 0, .int .u64 0, .int .u64 0, .int .i64 0, .int .i64 0, .int .i64 0, .slice none 0 0] 26 := r3.blockAt inferInstance (by omega)
 haveI bX3 : BlockAt W3 W1.heap.size #[.int .i64 9, .int .u64 (nD ws 1 4294967295), .int .u64 0, .int .i64 0, .int .i64 0, .int .i64 0, .slice none 0 0] 26 := r3.blockAt inferInstance (by omega)
 have cX3 : W3.cell? ⟨W1.heap.size, 4, none⟩ = some (.int .i64 0) := (block_cells _ _ _ _ _).trans rfl
 have fX3 : W3.frozen? ⟨W1.heap.size, 4, none⟩ = false := block_frozen _ _ _ _ _
 haveI iX3 : IterAt W3 V.heap.size ⟨#[118, 97, 99]⟩ 2 := r3.iterAt inferInstance (by omega)
 have rW3 : Wrd p W W3 := Wrd.trans (by (with_reducible repeat (first | exact R2.out | refine Wrd.alloc_ ?_ _ | refine Wrd.grown_ ?_ _ | refine Wrd.iter_ ?_ (by omega) _ _ | refine Wrd.set_ ?_ _ _ (by omega)))) r3
 have H3 := Lib.hid h3; clear h3
 have R3 := Lib.hid rW3; clear rW3 r3
 go_wp2
 rw [rounds_succ]
 go_wp2_with ((go_at_call 53; ((with_reducible refine (small_c ws 3 p _ (((bad || ws.isEmpty) || bD ws 1 4294967295) || bD ws 2 1048576) ?w2).mono ?_))))
 case w2 => repeat (first | with_reducible exact H3.out | with_reducible refine WS.alloc ?_ _ | with_reducible refine WS.grown_ ?_ _ | with_reducible refine WS.iter_ ?_ _ _ _ _ | (with_reducible refine WS.set_other ?_ (.int .i64 0) _ (by omega) ((block_cells _ _ _ _ _).trans rfl) (fun _ e => by cases e)))
 rintro _ W4 ⟨rfl, h4, r4⟩
 haveI : Tb W4 := r4.tb
 haveI : Ml W4 := r4.ml
 haveI bR4 : BlockAt W4 W.heap.size #[.int .i64 0, .int .u64 0, .int .u64 0, .int .i64 0, .int .i64 0, .int .i64 0, .slice none 0 0] 26 := r4.blockAt inferInstance (by omega)
 haveI bX4 : BlockAt W4 W1.heap.size #[.int .i64 9, .int .u64 (nD ws 1 4294967295), .int .u64 0, .int .i64 0, .int .i64 (nD ws 2 1048576), .int .i64 0, .slice none 0 0] 26 := r4.blockAt inferInstance (by omega)
 have cX4 : W4.cell? ⟨W1.heap.size, 5, none⟩ = some (.int .i64 0) := (block_cells _ _ _ _ _).trans rfl
 have fX4 : W4.frozen? ⟨W1.heap.size, 5, none⟩ = false := block_frozen _ _ _ _ _
 haveI iX4 : IterAt W4 V.heap.size ⟨#[118, 97, 99]⟩ 3 := r4.iterAt inferInstance (by omega)
 have rW4 : Wrd p W W4 := Wrd.trans (by (with_reducible repeat (first | exact R3.out | refine Wrd.alloc_ ?_ _ | refine Wrd.grown_ ?_ _ | refine Wrd.iter_ ?_ (by omega) _ _ | refine Wrd.set_ ?_ _ _ (by omega)))) r4
 have H4 := Lib.hid h4; clear h4
 have R4 := Lib.hid rW4; clear rW4 r4
 go_wp2
 rw [rounds_succ]
 have x0 : W4.cell? ⟨W1.heap.size, 0, none⟩ = some (.int .i64 9) := (block_cells _ _ _ _ _).trans rfl
 have x1 : W4.cell? ⟨W1.heap.size, 1, none⟩ = some (.int .u64 (nD ws 1 4294967295)) := (block_cells _ _ _ _ _).trans rfl
 have x2 : W4.cell? ⟨W1.heap.size, 2, none⟩ = some (.int .u64 0) := (block_cells _ _ _ _ _).trans rfl
 have x3 : W4.cell? ⟨W1.heap.size, 3, none⟩ = some (.int .i64 0) := (block_cells _ _ _ _ _).trans rfl
 have x4 : W4.cell? ⟨W1.heap.size, 4, none⟩ = some (.int .i64 (nD ws 2 1048576)) := (block_cells _ _ _ _ _).trans rfl
 have x6 : W4.cell? ⟨W1.heap.size, 6, none⟩ = some (.slice none 0 0) := (block_cells _ _ _ _ _).trans rfl
 have y0 : W4.cell? ⟨W.heap.size, 0, none⟩ = some (.int .i64 0) := (block_cells _ _ _ _ _).trans rfl
 have z0 : W4.frozen? ⟨W.heap.size, 0, none⟩ = false := block_frozen _ _ _ _ _
 have y1 : W4.cell? ⟨W.heap.size, 1, none⟩ = some (.int .u64 0) := (block_cells _ _ _ _ _).trans rfl
 have z1 : W4.frozen? ⟨W.heap.size, 1, none⟩ = false := block_frozen _ _ _ _ _
 have y2 : W4.cell? ⟨W.heap.size, 2, none⟩ = some (.int .u64 0) := (block_cells _ _ _ _ _).trans rfl
 have z2 : W4.frozen? ⟨W.heap.size, 2, none⟩ = false := block_frozen _ _ _ _ _
 have y3 : W4.cell? ⟨W.heap.size, 3, none⟩ = some (.int .i64 0) := (block_cells _ _ _ _ _).trans rfl
 have z3 : W4.frozen? ⟨W.heap.size, 3, none⟩ = false := block_frozen _ _ _ _ _
 have y4 : W4.cell? ⟨W.heap.size, 4, none⟩ = some (.int .i64 0) := (block_cells _ _ _ _ _).trans rfl
 have z4 : W4.frozen? ⟨W.heap.size, 4, none⟩ = false := block_frozen _ _ _ _ _
 have y5 : W4.cell? ⟨W.heap.size, 5, none⟩ = some (.int .i64 0) := (block_cells _ _ _ _ _).trans rfl
 have z5 : W4.frozen? ⟨W.heap.size, 5, none⟩ = false := block_frozen _ _ _ _ _
 have y6 : W4.cell? ⟨W.heap.size, 6, none⟩ = some (.slice none 0 0) := (block_cells _ _ _ _ _).trans rfl
 have z6 : W4.frozen? ⟨W.heap.size, 6, none⟩ = false := block_frozen _ _ _ _ _
 have e3 : (W.heap.size = W1.heap.size) = False := by simp; omega
 have e4 : (W1.heap.size = W.heap.size) = False := by simp; omega
 haveI : Old W.heap.size W4 := (inferInstance : BlockAt W4 W.heap.size _ _).old
 haveI : Old W1.heap.size W4 := (inferInstance : BlockAt W4 W1.heap.size _ _).old
 go_wp2
 refine bodyPost_ret (v := .agg #[.int .i64 9, .int .u64 (nD ws 1 4294967295), .int .u64 0, .int .i64 0, .int .i64 (nD ws 2 1048576), .int .i64 (nD ws 3 1024), .slice none 0 0]) (by simp [results, Tryz.results37, go_sem, e3, e4, x0, x1, x2, x3, x4, x6, y0, z0, y1, z1, y2, z2, y3, z3, y4, z4, y5, z5, y6, z6]) rfl ⟨_, rfl, ?own, ?ws9, ?wrd9⟩
 case own => exact OwnR.nil _ _
 case ws9 => repeat (first | with_reducible exact H4.out | with_reducible refine WS.alloc ?_ _ | (with_reducible refine WS.setB ?_ _ (by omega) rfl))
 case wrd9 => (with_reducible repeat (first | exact R4.out | refine Wrd.alloc_ ?_ _ | refine Wrd.set_ ?_ _ _ (by omega)))
end Go.Proofs.YtgjdgafoidppaaaGreatDoor
