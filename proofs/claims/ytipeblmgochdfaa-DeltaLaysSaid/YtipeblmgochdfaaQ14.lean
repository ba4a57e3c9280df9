/- The reference of layer 29: Lay. Conditions: the device stands in memory. The reference of layer 29: Lay, its loop. Conditions: the device stands in memory; at most 1000 blocks. Plain: the reference's join, one block at a time, makes the runs that the program makes. Conditions: none. Plain: the program's choice of blocks is the reference's. Conditions: none. Plain: what delta.made makes, run by run. Conditions: none. delta.Rows. Conditions: the device stands in memory. delta.Lay, its early answers. Conditions: the device stands in memory. delta.Lay, its loop, over a contract of made. Conditions: the device stands in memory; what made answers is given. delta.made: the operations of a volume's blocks, run by run. Conditions: the device stands in memory; what is to be done is answered block by block; at most 1000 blocks. delta.Lay, whole. Conditions: the device stands in memory; its volumes are of at most 1000 blocks. -/
import Derived.Test.YtipeblmgochdfaaQ13
import Derived.Test.YtipeblmgochdfaaQ12
import Derived.Deep.WholeRow
import Derived.Test.YtipeblmgochdfaaQ05
import Derived.Test.YtipeblmgochdfaaQ07
import Derived.Deep.CutBlock
namespace Go.Proofs.Ytipeblmgochdfaa
open Go.RowKit
set_option linter.unusedVariables false
set_option linter.unusedSimpArgs false
set_option linter.unnecessarySimpa false
set_option maxRecDepth 100000
set_option maxHeartbeats 4000000
def stepR (x y z : VolM) (r : Int) (s : List OpM × List Int × Bool) (i : Nat) : List OpM × List Int × Bool :=
 if (aliR (getK x.2 i) (getK y.2 i) || aliR (getK y.2 i) (getK z.2 i)) = true then (s.1, s.2.1, false)
 else if aliR (getK x.2 i) (getK z.2 i) = false then (s.1, s.2.1 ++ [(i : Int)], false)
 else (joinK s.1 (oneK r i ((getK y.2 i).getD zB) (getK y.2 i).isSome) s.2.2, s.2.1, true)
def foldR (x y z : VolM) (r : Int) : Nat → List OpM × List Int × Bool
 | 0 => ([], [], false)
 | i + 1 => stepR x y z r (foldR x y z r i) i
theorem chk_zero {d : Dev} {l : List Int} (h : chkK d l = 0) {x : Int} (hx : x ∈ l) : (getK d x).isSome = true := by
 unfold chkK at h
 split at h
 ·split at h
  ·next h2 => exact List.all_eq_true.1 h2 x hx
  ·cases h
 ·cases h
theorem find_of_get {β : Type} {l : List (Int × β)} {n : Int} (h : (getK l n).isSome = true) : ∃ i x, findN l n = some i ∧ l[i]? = some (n, x) ∧ getK l n = some x := by
 cases hf : findN l n with
 | none =>
  exfalso
  rw [findN_none, ] at hf
  rw [hf] at h; cases h
 | some i =>
  obtain ⟨x, h1, h2⟩ := findN_some hf
  exact ⟨i, x, rfl, h1, h2⟩
theorem rlay_bad (base R : Nat) (d : Dev) (b l r : Int) (w : World) (h : RefAt base w R d) (hd9 : d.length ≤ 1000000) (hc : chkK d [b, l, r] ≠ 0) :
  Calls Try.prog 8 #[.pointer (some ⟨R, 0, none⟩), .int .u64 b, .int .u64 l, .int .u64 r] w fun e w' => e = .returned (.tuple #[.slice none 0 0, .slice none 0 0, .int .i64 (chkK d [b, l, r])]) ∧ Gr w w' := by
 have HC := Lib.hid (fun W (hW : Gr w W) (bb : Nat) (hB : BlockAt W bb #[.int .u64 b, .int .u64 l, .int .u64 r] 23) => rcheck_any base R d [b, l, r] bb 0 3 3 W (h.gr hW) hd9 rfl (by omega) hB.lt (by omega) (fun j x hx => by
  match j, hx with
  | 0, hx => cases hx; exact (@block_cells _ _ 0 _ _ hB).trans rfl
  | 1, hx => cases hx; exact (@block_cells _ _ 1 _ _ hB).trans rfl
  | 2, hx => cases hx; exact (@block_cells _ _ 2 _ _ hB).trans rfl
  | k + 3, hx => simp at hx))
 have hne : (chkK d [b, l, r] != 0) = true := by simpa using hc
 generalize chkK d [b, l, r] = k at *
 clear h hc
 go_enter Try.func8, Try.ntmps8
 go_wp2_with ((go_at_call 26; ((with_reducible refine (HC.out _ gri _ inferInstance).mono ?_); rintro _ _ ⟨rfl, g1, rfl⟩)))
 go_ret3
 exact ⟨by simp, gri⟩
theorem rlay_size (base R : Nat) (d : Dev) (b l r : Int) (xb xl xr : VolM) (w : World) (h : RefAt base w R d) (hd9 : d.length ≤ 1000000) (hc : chkK d [b, l, r] = 0) (hb : getK d b = some xb) (hl : getK d l = some xl) (hr : getK d r = some xr) (hs : ¬ (xl.1 = xb.1 ∧ xr.1 = xb.1)) :
  Calls Try.prog 8 #[.pointer (some ⟨R, 0, none⟩), .int .u64 b, .int .u64 l, .int .u64 r] w fun e w' => e = .returned (.tuple #[.slice none 0 0, .slice none 0 0, .int .i64 5]) ∧ Gr w w' := by
 have HC := Lib.hid (fun W (hW : Gr w W) (bb : Nat) (hB : BlockAt W bb #[.int .u64 b, .int .u64 l, .int .u64 r] 23) => rcheck_any base R d [b, l, r] bb 0 3 3 W (h.gr hW) hd9 rfl (by omega) hB.lt (by omega) (fun j x hx => by
  match j, hx with
  | 0, hx => cases hx; exact (@block_cells _ _ 0 _ _ hB).trans rfl
  | 1, hx => cases hx; exact (@block_cells _ _ 1 _ _ hB).trans rfl
  | 2, hx => cases hx; exact (@block_cells _ _ 2 _ _ hB).trans rfl
  | k + 3, hx => simp at hx))
 have HF := Lib.hid (fun W (hW : Gr w W) x => rfind_any base R d x W (h.gr hW) hd9)
 rw [hc] at HC
 obtain ⟨i1, x1, f1, e1, k1⟩ := find_of_get (chk_zero hc (x := b) (by simp))
 obtain ⟨i2, x2, f2, e2, k2⟩ := find_of_get (chk_zero hc (x := l) (by simp))
 obtain ⟨i3, x3, f3, e3, k3⟩ := find_of_get (chk_zero hc (x := r) (by simp))
 have q1 := idx_some f1
 have q2 := idx_some f2
 have q3 := idx_some f3
 have FB := Lib.hid (fun W (hW : Gr w W) => HF.out W hW b)
 have FL := Lib.hid (fun W (hW : Gr w W) => HF.out W hW l)
 have FR := Lib.hid (fun W (hW : Gr w W) => HF.out W hW r)
 rw [q1] at FB
 rw [q2] at FL
 rw [q3] at FR
 clear HF
 have Y1 : x1 = xb := by rw [k1] at hb; exact Option.some.inj hb
 have Y2 : x2 = xl := by rw [k2] at hl; exact Option.some.inj hl
 have Y3 : x3 = xr := by rw [k3] at hr; exact Option.some.inj hr
 subst Y1
 subst Y2
 subst Y3
 have HE1 := Lib.hid e1
 have HE2 := Lib.hid e2
 have HE3 := Lib.hid e3
 have HD := Lib.hid h
 obtain ⟨v, vf, h⟩ := h
 have hne : d ≠ [] := by rintro rfl; simp at e1
 obtain ⟨g, c, rfl, hbg, hgl, hgR, hc1, hc2, hty, hcl⟩ := h.form hne
 have hm9 : d.length ≤ maxLen := Nat.le_trans hc1 hc2
 unfold maxLen at hm9
 have L1 : i1 < d.length := (List.getElem?_eq_some_iff.1 e1).1
 have L2 : i2 < d.length := (List.getElem?_eq_some_iff.1 e2).1
 have L3 : i3 < d.length := (List.getElem?_eq_some_iff.1 e3).1
 have z0 : w.cell? ⟨R, 0, none⟩ = some (.slice (some ⟨g, 0, none⟩) d.length c) := (@block_cells _ _ 0 _ _ h.blk).trans rfl
 haveI : Old R w := h.blk.old
 haveI : Old g w := ⟨hgl⟩
 have z1 := (hcl i1 _ e1).2.1
 have z2 := (hcl i2 _ e2).2.1
 have z3 := (hcl i3 _ e3).2.1
 simp only at z1 z2 z3
 have z6 := (hcl i2 _ e2).2.2
 simp only at z6
 have HV := Lib.hid (h.vol _ (List.mem_of_getElem? e2))
 clear h hc hc2 hcl hty e1 e2 e3 f1 f2 f3 k1 k2 k3 q1 q2 q3 hb hl hr
 by_cases hs2 : (x2.1 != x1.1) = true
 ·clear hs
  go_enter Try.func8, Try.ntmps8
  go_wp2_with (first | (go_at_call 26; ((with_reducible refine (HC.out _ gri _ inferInstance).mono ?_); rintro _ _ ⟨rfl, g1, rfl⟩)) | (go_at_call 27; ((with_reducible refine (FB.out _ gri).mono ?_); rintro _ _ ⟨rfl, g2, rfl⟩)) | (go_at_call 27; ((with_reducible refine (FL.out _ gri).mono ?_); rintro _ _ ⟨rfl, g3, rfl⟩)) | (go_at_call 27; ((with_reducible refine (FR.out _ gri).mono ?_); rintro _ _ ⟨rfl, g4, rfl⟩)))
  go_ret3
  exact ⟨by simp, gri⟩
 ·have hs2 : (x2.1 != x1.1) = false := by simpa using hs2
  have hs3 : (x3.1 != x1.1) = true := by
   simp only [bne_iff_ne, ne_eq, bne_eq_false_iff_eq] at hs2 ⊢
   exact fun e => hs ⟨hs2, e⟩
  clear hs
  go_enter Try.func8, Try.ntmps8
  go_wp2_with (first | (go_at_call 26; ((with_reducible refine (HC.out _ gri _ inferInstance).mono ?_); rintro _ _ ⟨rfl, g1, rfl⟩)) | (go_at_call 27; ((with_reducible refine (FB.out _ gri).mono ?_); rintro _ _ ⟨rfl, g2, rfl⟩)) | (go_at_call 27; ((with_reducible refine (FL.out _ gri).mono ?_); rintro _ _ ⟨rfl, g3, rfl⟩)) | (go_at_call 27; ((with_reducible refine (FR.out _ gri).mono ?_); rintro _ _ ⟨rfl, g4, rfl⟩)))
  go_ret3
  exact ⟨by simp, gri⟩
set_option maxRecDepth 100000
set_option maxHeartbeats 4000000
theorem OwnN.keepX {α β : Type} {e : EK α} {e2 : EK β} {base b2 : Nat} {W W' : World} {v u u' : Value} {xs : List α} {ys zs : List β} (h : OwnN e base W v xs) (k : AppN e2 b2 W u ys zs u' W') (hne : e.E ≠ e2.E) : OwnN e base W' v xs := h.keep fun q hq => by
 rcases h.own.2 with ⟨e1, _⟩ | ⟨g, cap, cur, e1, _, hh, _⟩
 ·rw [e1] at hq
  cases hq
 ·rw [e1] at hq
  have : g = q := by simpa [Value.ownBlock] using hq
  subst this
  exact k.block g (Array.getElem?_eq_some_iff.1 hh).1 (fun cs f e3 => by rw [hh] at e3; simp only [Option.some.injEq, Obj.cells.injEq] at e3; exact hne e3.2.1)
theorem oneK_bound (v : Int) (b : Nat) (B : Byt) (hB : B.length = 256) (s : Bool) : (oneK v b B s).l.length ≤ 256 ∧ 0 ≤ (oneK v b B s).c ∧ (oneK v b B s).c ≤ 4 := by
 unfold oneK
 split
 ·simp
 ·split <;> simp [hB]
theorem joinK_bound (l : List OpM) (o : OpM) (f : Bool) (k : Nat) (hl : l.length ≤ k) (hb : ∀ x ∈ l, x.l.length ≤ 256 * k ∧ 0 ≤ x.c ∧ x.c ≤ 4 * k) (ho : o.l.length ≤ 256 ∧ 0 ≤ o.c ∧ o.c ≤ 4) : (joinK l o f).length ≤ k + 1 ∧ ∀ x ∈ joinK l o f, x.l.length ≤ 256 * (k + 1) ∧ 0 ≤ x.c ∧ x.c ≤ 4 * (k + 1 : Nat) := by
 have hw : ∀ x ∈ l, x.l.length ≤ 256 * (k + 1) ∧ 0 ≤ x.c ∧ x.c ≤ 4 * (k + 1 : Nat) := fun x hx => by have := hb x hx; omega
 have ho' : o.l.length ≤ 256 * (k + 1) ∧ 0 ≤ o.c ∧ o.c ≤ 4 * (k + 1 : Nat) := by omega
 have hA : (l ++ [o]).length ≤ k + 1 ∧ ∀ x ∈ l ++ [o], x.l.length ≤ 256 * (k + 1) ∧ 0 ≤ x.c ∧ x.c ≤ 4 * (k + 1 : Nat) := ⟨by simp; omega, fun x hx => by
  rcases List.mem_append.1 hx with h | h
  ·exact hw x h
  ·rw [List.mem_singleton] at h; subst h; exact ho'⟩
 rcases List.eq_nil_or_concat l with rfl | ⟨zs, x, rfl⟩
 ·simpa [joinK] using hA
 ·rw [List.concat_eq_append] at *
  rw [joinK_last]
  split
  ·exact hA
  ·have hx := hb x (by simp)
   refine ⟨by simp at hl ⊢; omega, fun y hy => ?_⟩
   rcases List.mem_append.1 hy with h | h
   ·exact hw y (List.mem_append_left _ h)
   ·rw [List.mem_singleton] at h; subst h
    refine ⟨?_, ?_, ?_⟩
    ·show (x.l ++ o.l).length ≤ _
     rw [List.length_append]; omega
    ·show 0 ≤ x.c + o.c
     omega
    ·show x.c + o.c ≤ _
     omega
theorem foldR_bound (x y z : VolM) (r : Int) (hy : ∀ i, ((getK y.2 i).getD zB).length = 256) (k : Nat) : (foldR x y z r k).1.length ≤ k ∧ (∀ o ∈ (foldR x y z r k).1, o.l.length ≤ 256 * k ∧ 0 ≤ o.c ∧ o.c ≤ 4 * k) ∧ (foldR x y z r k).2.1.length ≤ k := by
 induction k with
 | zero => simp [foldR]
 | succ k ih =>
  obtain ⟨h1, h2, h3⟩ := ih
  have hw : ∀ o ∈ (foldR x y z r k).1, o.l.length ≤ 256 * (k + 1) ∧ 0 ≤ o.c ∧ o.c ≤ 4 * (k + 1 : Nat) := fun x hx => by have := h2 x hx; omega
  simp only [foldR, stepR]
  split
  ·exact ⟨Nat.le_succ_of_le h1, hw, Nat.le_succ_of_le h3⟩
  ·split
   ·exact ⟨Nat.le_succ_of_le h1, hw, by simp; omega⟩
   ·have := joinK_bound _ _ (foldR x y z r k).2.2 k h1 h2 (oneK_bound r k _ (hy k) (getK y.2 k).isSome)
    exact ⟨this.1, this.2, Nat.le_succ_of_le h3⟩
def LPost (w : World) (L : List OpM × List Int × Bool) (e : Ending) (w' : World) : Prop :=
 ∃ v1 v2 zs, e = .returned (.tuple #[v1, v2, .int .i64 0]) ∧ OwnN opE w.heap.size w' v1 zs ∧ zs.map (·.o) = L.1 ∧ (∀ z ∈ zs, OpOwn w.heap.size w' z) ∧ OwnN i64E w.heap.size w' v2 L.2.1 ∧ Gr w w'
theorem rlay_any (base R : Nat) (d : Dev) (b l r : Int) (xb xl xr : VolM) (N : Nat) (hN9 : N ≤ 1000) (w : World) (h : RefAt base w R d) (hd9 : d.length ≤ 1000000) (hc : chkK d [b, l, r] = 0) (hb : getK d b = some xb) (hl : getK d l = some xl) (hr : getK d r = some xr) (hN : xb.1 = N) (hs2 : xl.1 = N) (hs3 : xr.1 = N) :
  Calls Try.prog 8 #[.pointer (some ⟨R, 0, none⟩), .int .u64 b, .int .u64 l, .int .u64 r] w (LPost w (foldR xb xl xr r N)) := by
 have hok : DevOk d := by obtain ⟨_, _, h⟩ := h; exact h.ok
 have hyl : ∀ i, ((getK xl.2 i).getD zB).length = 256 := fun i => by
  cases hg : getK xl.2 i with
  | none => exact zB_len
  | some B =>
   have := hok.vols (l, xl) (by obtain ⟨j, x, _, e, k⟩ := find_of_get (l := d) (n := l) (by rw [hl]; rfl); rw [hl] at k; cases k; exact List.mem_of_getElem? e)
   exact this.len _ ((getK_mem this.sort).1 hg)
 have HC := Lib.hid (fun W (hW : Gr w W) (bb : Nat) (hB : BlockAt W bb #[.int .u64 b, .int .u64 l, .int .u64 r] 23) => rcheck_any base R d [b, l, r] bb 0 3 3 W (h.gr hW) hd9 rfl (by omega) hB.lt (by omega) (fun j x hx => by
  match j, hx with
  | 0, hx => cases hx; exact (@block_cells _ _ 0 _ _ hB).trans rfl
  | 1, hx => cases hx; exact (@block_cells _ _ 1 _ _ hB).trans rfl
  | 2, hx => cases hx; exact (@block_cells _ _ 2 _ _ hB).trans rfl
  | k + 3, hx => simp at hx))
 have HF := Lib.hid (fun W (hW : Gr w W) x => rfind_any base R d x W (h.gr hW) hd9)
 rw [hc] at HC
 obtain ⟨i1, x1, f1, e1, k1⟩ := find_of_get (chk_zero hc (x := b) (by simp))
 obtain ⟨i2, x2, f2, e2, k2⟩ := find_of_get (chk_zero hc (x := l) (by simp))
 obtain ⟨i3, x3, f3, e3, k3⟩ := find_of_get (chk_zero hc (x := r) (by simp))
 have q1 := idx_some f1
 have q2 := idx_some f2
 have q3 := idx_some f3
 have FB := Lib.hid (fun W (hW : Gr w W) => HF.out W hW b)
 have FL := Lib.hid (fun W (hW : Gr w W) => HF.out W hW l)
 have FR := Lib.hid (fun W (hW : Gr w W) => HF.out W hW r)
 rw [q1] at FB
 rw [q2] at FL
 rw [q3] at FR
 clear HF
 have Y1 : x1 = xb := by rw [k1] at hb; exact Option.some.inj hb
 have Y2 : x2 = xl := by rw [k2] at hl; exact Option.some.inj hl
 have Y3 : x3 = xr := by rw [k3] at hr; exact Option.some.inj hr
 subst Y1
 subst Y2
 subst Y3
 have HE1 := Lib.hid e1
 have HE2 := Lib.hid e2
 have HE3 := Lib.hid e3
 have HD := Lib.hid h
 obtain ⟨v, vf, h⟩ := h
 have hne : d ≠ [] := by rintro rfl; simp at e1
 obtain ⟨g, c, rfl, hbg, hgl, hgR, hc1, hc2, hty, hcl⟩ := h.form hne
 have hm9 : d.length ≤ maxLen := Nat.le_trans hc1 hc2
 unfold maxLen at hm9
 have L1 : i1 < d.length := (List.getElem?_eq_some_iff.1 e1).1
 have L2 : i2 < d.length := (List.getElem?_eq_some_iff.1 e2).1
 have L3 : i3 < d.length := (List.getElem?_eq_some_iff.1 e3).1
 have z0 : w.cell? ⟨R, 0, none⟩ = some (.slice (some ⟨g, 0, none⟩) d.length c) := (@block_cells _ _ 0 _ _ h.blk).trans rfl
 haveI : Old R w := h.blk.old
 haveI : Old g w := ⟨hgl⟩
 have z1 := (hcl i1 _ e1).2.1
 have z2 := (hcl i2 _ e2).2.1
 have z3 := (hcl i3 _ e3).2.1
 simp only at z1 z2 z3
 have z6 := (hcl i2 _ e2).2.2
 simp only at z6
 have HV := Lib.hid (h.vol _ (List.mem_of_getElem? e2))
 have HBN := Lib.hid (foldR_bound x1 x2 x3 r hyl)
 have HYL := Lib.hid hyl
 clear h hc hc2 hcl hty e1 e2 e3 f1 f2 f3 k1 k2 k3 q1 q2 q3 hb hl hr
 clear hok hyl hd9
 rw [hN] at z1
 rw [hs2] at z2
 rw [hs3] at z3
 have hnn : ((N : Int) != (N : Int)) = false := by simp
 clear hN hs2 hs3
 have HLF := Lib.hid (show LPost w (foldR x1 x2 x3 r N) = LPost w (foldR x1 x2 x3 r N) from rfl)
 obtain ⟨PO, hPO⟩ : ∃ PO, PO = LPost w (foldR x1 x2 x3 r N) := ⟨_, rfl⟩
 rw [← hPO]
 have HPO := Lib.hid hPO
 clear hPO HLF
 go_enter Try.func8, Try.ntmps8
 go_wp2_with (first | (go_at_call 26; ((with_reducible refine (HC.out _ gri _ inferInstance).mono ?_); rintro _ _ ⟨rfl, g1, rfl⟩)) | (go_at_call 27; ((with_reducible refine (FB.out _ gri).mono ?_); rintro _ _ ⟨rfl, g2, rfl⟩)) | (go_at_call 27; ((with_reducible refine (FL.out _ gri).mono ?_); rintro _ _ ⟨rfl, g3, rfl⟩)) | (go_at_call 27; ((with_reducible refine (FR.out _ gri).mono ?_); rintro _ _ ⟨rfl, g4, rfl⟩)))
 go_loopw [16, 17, 18, 19] (fun vL vC vF vi wr => ∃ (k : Nat) (zs : List OpC), k ≤ N ∧ vi = .int .i64 (k : Int) ∧ vF = .bool (foldR x1 x2 x3 r k).2.2 ∧ OwnN opE w.heap.size wr vL zs ∧ zs.map (·.o) = (foldR x1 x2 x3 r k).1 ∧ (∀ z ∈ zs, OpOwn w.heap.size wr z) ∧ OwnN i64E w.heap.size wr vC (foldR x1 x2 x3 r k).2.1 ∧ Gr w wr) (fun _ _ _ i _ => N - (intOf i).toNat)
 case atStart => exact ⟨0, [], Nat.zero_le _, rfl, rfl, OwnN.nil _ _, rfl, by simp, OwnN.nil _ _, gri⟩
 case round =>
  obtain ⟨k, zs, hk, rfl, rfl, hoL, hmL, hzL, hoC, gg, rfl⟩ := hrel
  have hbk := (HBN.out k).2.2
  have hlk : zs.length ≤ k := by have := (HBN.out k).1; rw [← hmL, List.length_map] at this; exact this
  have HOL := Lib.hid hoL
  have HML := Lib.hid hmL
  have HZL := Lib.hid hzL
  have HOC := Lib.hid hoC
  clear hoL hmL hzL hoC
  by_cases hlt : k < N
  ·have HA12 := Lib.hid (fun W (hW : Gr w W) => ralike_any base R d i1 i2 _ _ HE1.out HE2.out (k : Int) W (HD.out.gr hW))
   have HA23 := Lib.hid (fun W (hW : Gr w W) => ralike_any base R d i2 i3 _ _ HE2.out HE3.out (k : Int) W (HD.out.gr hW))
   have HA13 := Lib.hid (fun W (hW : Gr w W) => ralike_any base R d i1 i3 _ _ HE1.out HE3.out (k : Int) W (HD.out.gr hW))
   dsimp only at HA12 HA23 HA13
   cases h12 : aliR (getK x1.2 k) (getK x2.2 k)
   ·rw [h12] at HA12
    cases h23 : aliR (getK x2.2 k) (getK x3.2 k)
    ·rw [h23] at HA23
     cases h13 : aliR (getK x1.2 k) (getK x3.2 k)
     ·rw [h13] at HA13
      have HS := Lib.hid (show foldR x1 x2 x3 r (k + 1) = ((foldR x1 x2 x3 r k).1, (foldR x1 x2 x3 r k).2.1 ++ [(k : Int)], false) from by simp [foldR, stepR, h12, h23, h13])
      clear h12 h23 h13
      go_wp2_with (first | (go_at_call 28; ((with_reducible refine (HA12.out _ gri).mono ?_); rintro _ _ ⟨rfl, ga, rfl⟩)) | (go_at_call 28; ((with_reducible refine (HA23.out _ gri).mono ?_); rintro _ _ ⟨rfl, gb, rfl⟩)) | (go_at_call 28; ((with_reducible refine (HA13.out _ gri).mono ?_); rintro _ _ ⟨rfl, gc, rfl⟩)) | (at_builtin; refine wp_append_n i64Is rfl _ _ rfl rfl (HOC.out.gr gri) _ 0 [(k : Int)] 1 1 rfl rfl (fun _ _ => trivial) (CellsN.block _ inferInstance rfl) (by simp; omega) past (by simp) ?_; intro v1 W1 h1; have H1 := Lib.hid h1; clear h1))
      go_roundw
      case rel => exact ⟨k + 1, zs, by omega, by go_num, by rw [HS.out], OwnN.keepX (HOL.out.gr gri) H1.out (by decide), by rw [HS.out]; exact HML.out, fun z hz => ⟨OwnN.keepX ((HZL.out z hz).own.gr gri) H1.out (by decide)⟩, by rw [HS.out]; exact H1.out.own, by haveI := H1.out.grc w (Nat.le_refl _); exact gri⟩
      case measure => simp [intOf]; omega
     ·rw [h13] at HA13
      have HS := Lib.hid (show foldR x1 x2 x3 r (k + 1) = (joinK (foldR x1 x2 x3 r k).1 (oneK r k ((getK x2.2 k).getD zB) (getK x2.2 k).isSome) (foldR x1 x2 x3 r k).2.2, (foldR x1 x2 x3 r k).2.1, true) from by simp [foldR, stepR, h12, h23, h13])
      have HG := Lib.hid (fun W (hW : Gr w W) => rget_any g (i2 * 3) (vf l) x2.2 (k : Int) W ((hW.below.cell (p := ⟨g, i2 * 3 + 2, none⟩) hgl).trans z6) (HV.out.gr hW))
      have HK9 := Lib.hid (show k ≤ 1000 from by omega)
      have HO1 := Lib.hid (fun W => rone_any r k HK9.out ((getK x2.2 k).getD zB) (HYL.out k) (getK x2.2 k).isSome W)
      have HY9 := Lib.hid (oneK_bound r k ((getK x2.2 k).getD zB) (HYL.out k) (getK x2.2 k).isSome)
      haveI := bkC_row (HYL.out k)
      have H9 := Lib.hid (show ∀ x ∈ zs, x.o.l.length ≤ 1000000 ∧ 0 ≤ x.o.c ∧ x.o.c ≤ 1000000 from fun x hx => by
       have h8 := (HBN.out k).2.1 x.o (by rw [← HML.out]; exact List.mem_map_of_mem hx)
       have := HK9.out
       omega)
      have HLK := Lib.hid (show zs.length ≤ 2000 from by omega)
      clear h12 h23 h13
      generalize (getK x2.2 k).getD zB = B2 at *
      generalize (getK x2.2 k).isSome = s2 at *
      generalize hF : (foldR x1 x2 x3 r k).2.2 = f2 at *
      go_wp2_with (first | (go_at_call 28; ((with_reducible refine (HA12.out _ gri).mono ?_); rintro _ _ ⟨rfl, ga, rfl⟩)) | (go_at_call 28; ((with_reducible refine (HA23.out _ gri).mono ?_); rintro _ _ ⟨rfl, gb, rfl⟩)) | (go_at_call 28; ((with_reducible refine (HA13.out _ gri).mono ?_); rintro _ _ ⟨rfl, gc, rfl⟩)) | (go_at_call 29; ((with_reducible refine (HG.out _ gri).mono ?_); rintro _ _ ⟨rfl, gd, rfl⟩)) | (go_at_call 31; ((with_reducible refine (HO1.out _).mono ?_); rintro _ _ ⟨x, rfl, hxo, hxw, ge, rfl⟩; have HXO := Lib.hid hxo; have HXW := Lib.hid hxw; clear hxo hxw)) | (refine wpStoreBH (w0 := grown w gg) gri rfl _ _ rfl _ _ _ rfl rfl inferInstance (Past.le (a := grown w gg)) inferInstance inferInstance ?_; intro g8 hB8; haveI := hB8; haveI := hB8.old) | (refine wpLoadB rfl _ rfl _ _ rfl inferInstance inferInstance ?_))
      refine (rjoin_any zs HLK.out u16 x f2 w.heap.size w.heap.size _ (gri : Gr w _).below.size (HOL.out.gr gri) (fun z hz => (HZL.out z hz).gr gri) ⟨HXW.out.own.more (gri : Gr w _).below.size⟩ H9.out (by rw [HXO.out]; have := HY9.out; omega)).mono ?_
      rintro _ _ ⟨v9, zs9, rfl, ho9, hm9, hz9, gf, rfl⟩
      have HO9 := Lib.hid (ho9.more (gri : Gr w _).below.size)
      have HM9 := Lib.hid hm9
      have HZ9 := Lib.hid hz9
      clear ho9 hm9 hz9
      go_wp2
      go_roundw
      case rel => exact ⟨k + 1, zs9, by omega, by go_num, by rw [HS.out], HO9.out, by rw [HS.out, ← HXO.out, ← HML.out]; exact HM9.out, HZ9.out, by rw [HS.out]; exact HOC.out.gr gri, gri⟩
      case measure => simp [intOf]; omega
    ·rw [h23] at HA23
     have HS := Lib.hid (show foldR x1 x2 x3 r (k + 1) = ((foldR x1 x2 x3 r k).1, (foldR x1 x2 x3 r k).2.1, false) from by simp [foldR, stepR, h12, h23])
     clear h12 h23
     go_wp2_with (first | (go_at_call 28; ((with_reducible refine (HA12.out _ gri).mono ?_); rintro _ _ ⟨rfl, ga, rfl⟩)) | (go_at_call 28; ((with_reducible refine (HA23.out _ gri).mono ?_); rintro _ _ ⟨rfl, gb, rfl⟩)) | (go_at_call 28; ((with_reducible refine (HA13.out _ gri).mono ?_); rintro _ _ ⟨rfl, gc, rfl⟩)))
     go_roundw
     case rel => exact ⟨k + 1, zs, by omega, by go_num, by rw [HS.out], HOL.out.gr gri, by rw [HS.out]; exact HML.out, fun z hz => (HZL.out z hz).gr gri, by rw [HS.out]; exact HOC.out.gr gri, gri⟩
     case measure => simp [intOf]; omega
   ·rw [h12] at HA12
    have HS := Lib.hid (show foldR x1 x2 x3 r (k + 1) = ((foldR x1 x2 x3 r k).1, (foldR x1 x2 x3 r k).2.1, false) from by simp [foldR, stepR, h12])
    clear h12
    go_wp2_with (first | (go_at_call 28; ((with_reducible refine (HA12.out _ gri).mono ?_); rintro _ _ ⟨rfl, ga, rfl⟩)) | (go_at_call 28; ((with_reducible refine (HA23.out _ gri).mono ?_); rintro _ _ ⟨rfl, gb, rfl⟩)) | (go_at_call 28; ((with_reducible refine (HA13.out _ gri).mono ?_); rintro _ _ ⟨rfl, gc, rfl⟩)))
    go_roundw
    case rel => exact ⟨k + 1, zs, by omega, by go_num, by rw [HS.out], HOL.out.gr gri, by rw [HS.out]; exact HML.out, fun z hz => (HZL.out z hz).gr gri, by rw [HS.out]; exact HOC.out.gr gri, gri⟩
    case measure => simp [intOf]; omega
  ·have : k = N := by omega
   subst this
   go_wp2
   go_ret3
   rw [HPO.out]
   exact ⟨_, _, zs, rfl, HOL.out.gr gri, HML.out, fun z hz => (HZL.out z hz).gr gri, HOC.out.gr gri, gri⟩
def stepG (g : Nat → Option OpM) (s : List OpM × Bool) (i : Nat) : List OpM × Bool := match g i with
 | none => (s.1, false)
 | some o => (joinK s.1 o s.2, true)
def foldG (g : Nat → Option OpM) : Nat → List OpM × Bool
 | 0 => ([], false)
 | i + 1 => stepG g (foldG g i) i
def mrg (g : Nat → OpM) (i : Nat) : Nat → OpM
 | 0 => g i
 | n + 1 => ⟨(mrg g i n).k, (mrg g i n).v, (mrg g i n).t, (mrg g i n).s, (mrg g i n).a, (mrg g i n).c + (g (i + (n + 1))).c, (mrg g i n).l ++ (g (i + (n + 1))).l⟩
theorem mrg_k (g : Nat → OpM) (i n : Nat) : (mrg g i n).k = (g i).k := by
 induction n with
 | zero => rfl
 | succ n ih => exact ih
def Ends (L : List OpM) (f : Bool) (k : Int) : Prop := f = false ∨ ∀ x, L.getLast? = some x → x.k ≠ k ∨ 2048 ≤ x.l.length
theorem joinK_ends {L : List OpM} {o : OpM} {f : Bool} (h : Ends L f o.k) : joinK L o f = L ++ [o] := by
 unfold joinK
 split
 ·rfl
 ·next x hx =>
  refine if_pos ?_
  rcases h with h | h
  ·exact .inl h
  ·rcases h x hx with h | h
   ·exact .inr (.inl h)
   ·exact .inr (.inr h)
theorem foldG_run (g : Nat → Option OpM) (p : Nat → OpM) (i n : Nat) (L : List OpM) (f : Bool) (h0 : foldG g i = (L, f)) (hg : ∀ j, j ≤ n → g (i + j) = some (p (i + j))) (hk : ∀ j, j ≤ n → (p (i + j)).k = (p i).k) (he : Ends L f (p i).k) (hl : ∀ j, j < n → (mrg p i j).l.length < 2048) : foldG g (i + n + 1) = (L ++ [mrg p i n], true) := by
 induction n with
 | zero =>
  have := hg 0 (Nat.le_refl _)
  rw [Nat.add_zero] at this
  show stepG g (foldG g i) i = _
  rw [h0, stepG, this]
  simp only
  rw [joinK_ends he]
  rfl
 | succ n ih =>
  have h1 := ih (fun j hj => hg j (by omega)) (fun j hj => hk j (by omega)) (fun j hj => hl j (by omega))
  have h2 := hg (n + 1) (Nat.le_refl _)
  have h3 := hk (n + 1) (Nat.le_refl _)
  show stepG g (foldG g (i + n + 1)) (i + n + 1) = _
  rw [h1, stepG, show i + n + 1 = i + (n + 1) from rfl, h2]
  simp only
  rw [joinK_last, if_neg]
  ·rfl
  ·rintro (h | h | h)
   ·cases h
   ·exact h (by rw [mrg_k, h3])
   ·have := hl n (by omega)
    omega
theorem foldG_skip (g : Nat → Option OpM) (i n : Nat) (hg : ∀ j, j < n + 1 → g (i + j) = none) : foldG g (i + n + 1) = ((foldG g i).1, false) := by
 induction n with
 | zero =>
  have := hg 0 (by omega)
  rw [Nat.add_zero] at this
  show stepG g (foldG g i) i = _
  rw [stepG, this]
 | succ n ih =>
  have h1 := ih (fun j hj => hg j (by omega))
  have h2 := hg (n + 1) (by omega)
  show stepG g (foldG g (i + n + 1)) (i + n + 1) = _
  rw [h1, stepG, show i + n + 1 = i + (n + 1) from rfl, h2]
def genR (x y z : VolM) (r : Int) (i : Nat) : Option OpM := if (aliR (getK x.2 i) (getK y.2 i) || aliR (getK y.2 i) (getK z.2 i)) = true ∨ aliR (getK x.2 i) (getK z.2 i) = false then none else some (oneK r i ((getK y.2 i).getD zB) (getK y.2 i).isSome)
theorem foldR_foldG (x y z : VolM) (r : Int) (n : Nat) : ((foldR x y z r n).1, (foldR x y z r n).2.2) = foldG (genR x y z r) n := by
 induction n with
 | zero => rfl
 | succ n ih =>
  simp only [foldG, ← ih, foldR, stepR, stepG, genR]
  split
  ·next h => rw [if_pos (.inl h)]
  ·next h =>
   split
   ·next h2 => rw [if_pos (.inr h2)]
   ·next h2 =>
    have hno : ¬ ((aliR (getK x.2 n) (getK y.2 n) || aliR (getK y.2 n) (getK z.2 n)) = true ∨ aliR (getK x.2 n) (getK z.2 n) = false) := by
     rintro (h3 | h3)
     ·exact h h3
     ·exact h2 h3
    rw [if_neg hno]
def clashR (x y z : VolM) (n : Nat) : List Int := ((List.range n).filter fun (i : Nat) => !(aliR (getK x.2 i) (getK y.2 i) || aliR (getK y.2 i) (getK z.2 i)) && !aliR (getK x.2 i) (getK z.2 i)).map fun (i : Nat) => (i : Int)
theorem foldR_clash (x y z : VolM) (r : Int) (n : Nat) : (foldR x y z r n).2.1 = clashR x y z n := by
 induction n with
 | zero => rfl
 | succ n ih =>
  simp only [foldR, stepR, clashR, List.range_succ, List.filter_append, List.map_append]
  rw [← clashR, ← ih]
  split
  ·next h =>
   simp only [List.filter_cons, List.filter_nil, h, Bool.not_true, Bool.false_and, Bool.false_eq_true, if_false, List.map_nil, List.append_nil]
  ·next h =>
   have h' : (aliR (getK x.2 n) (getK y.2 n) || aliR (getK y.2 n) (getK z.2 n)) = false := by simpa using h
   split
   ·next h2 =>
    simp only [List.filter_cons, List.filter_nil, h', h2, Bool.not_false, Bool.true_and, if_true, List.map_cons, List.map_nil]
   ·next h2 =>
    have h2' : aliR (getK x.2 n) (getK z.2 n) = true := by simpa using h2
    simp only [List.filter_cons, List.filter_nil, h', h2', Bool.not_false, Bool.not_true, Bool.true_and, Bool.false_eq_true, if_false, List.map_nil, List.append_nil]
theorem aliR_eq (x y : Option Byt) : aliR x y = decide (x = y) := by
 unfold aliR
 cases x with
 | none => cases y <;> simp [besK]
 | some a =>
  cases y with
  | none => simp [besK]
  | some b =>
   by_cases h : a = b
   ·simp [besK, h]
   ·simp [besK, h]
theorem alikeK_eq (d : Dev) (a b i : Int) : alikeK d a b i = decide (blkK d a i = blkK d b i) := by
 rw [← aliR_eq]
 rfl
theorem blkK_of {d : Dev} {v : Int} {x : VolM} (h : getK d v = some x) (i : Int) : blkK d v i = getK x.2 i := by
 rw [blkK, h]
 rfl
def genP (d : Dev) (b l r : Int) (i : Nat) : Option OpM := if (needK d b l r i).1 = true then some (oneK r i ((blkK d l i).getD zB) (blkK d l i).isSome) else none
theorem genP_genR {d : Dev} {b l r : Int} {x y z : VolM} (hb : getK d b = some x) (hl : getK d l = some y) (hr : getK d r = some z) (i : Nat) : genP d b l r i = genR x y z r i := by
 unfold genP genR needK
 rw [alikeK_eq, alikeK_eq, aliR_eq, aliR_eq, aliR_eq, blkK_of hb, blkK_of hl, blkK_of hr]
 generalize getK x.2 i = X
 generalize getK y.2 i = Y
 generalize getK z.2 i = Z
 by_cases h1 : X = Y
 ·subst h1
  simp
 ·by_cases h2 : X = Z
  ·subst h2
   have h3 : ¬ Y = X := fun h => h1 h.symm
   simp [h1, h3]
  ·simp [h2]
def clashP (d : Dev) (b l r : Int) (n : Nat) : List Int := ((List.range n).filter fun (i : Nat) => !alikeK d b l i && !alikeK d b r i && !alikeK d l r i).map fun (i : Nat) => (i : Int)
theorem clashP_clashR {d : Dev} {b l r : Int} {x y z : VolM} (hb : getK d b = some x) (hl : getK d l = some y) (hr : getK d r = some z) (n : Nat) : clashP d b l r n = clashR x y z n := by
 unfold clashP clashR
 congr 1
 refine List.filter_congr fun i _ => ?_
 rw [alikeK_eq, alikeK_eq, alikeK_eq, aliR_eq, aliR_eq, aliR_eq, blkK_of hb, blkK_of hl, blkK_of hr]
 generalize decide (getK x.2 (i : Int) = getK y.2 (i : Int)) = p
 generalize decide (getK x.2 (i : Int) = getK z.2 (i : Int)) = q
 generalize decide (getK y.2 (i : Int) = getK z.2 (i : Int)) = s
 revert p q s
 decide
theorem foldR_genP {d : Dev} {b l r : Int} {x y z : VolM} (hb : getK d b = some x) (hl : getK d l = some y) (hr : getK d r = some z) (n : Nat) : (foldR x y z r n).1 = (foldG (genP d b l r) n).1 := by
 rw [show genP d b l r = genR x y z r from funext fun i => genP_genR hb hl hr i, ← foldR_foldG]
section
variable (d : Dev) (as_ r : Int) (need : Int → Bool × Bool)
def oneN (i : Nat) : OpM := oneK r i ((blkK d as_ i).getD zB) (need i).2
def genN (i : Nat) : Option OpM := if (need i).1 = true then some (oneN d as_ r need i) else none
theorem genN_some {i : Nat} (h : nextK d as_ need i ≠ 0) : genN d as_ r need i = some (oneN d as_ r need i) ∧ (oneN d as_ r need i).k = nextK d as_ need i := by
 unfold nextK at h ⊢
 unfold genN oneN oneK
 by_cases h1 : (need i).1 = false
 ·rw [if_pos h1] at h
  exact absurd rfl h
 ·have h1' : (need i).1 = true := by simpa using h1
  rw [if_neg h1, if_pos h1']
  refine ⟨rfl, ?_⟩
  by_cases h2 : (need i).2 = false
  ·rw [if_pos h2, if_pos h2]
  ·rw [if_neg h2, if_neg h2]
   split <;> rfl
theorem genN_none {i : Nat} (h : nextK d as_ need i = 0) : genN d as_ r need i = none := by
 unfold nextK at h
 unfold genN
 by_cases h1 : (need i).1 = false
 ·rw [if_neg (by rw [h1]; decide)]
 ·rw [if_neg h1] at h
  split at h
  ·cases h
  ·split at h <;> cases h
def datN (b n : Nat) : Byt := (List.range n).flatMap fun j => (blkK d as_ ((b + j : Nat) : Int)).getD zB
theorem datN_succ (b n : Nat) : datN d as_ b (n + 1) = datN d as_ b n ++ (blkK d as_ ((b + n : Nat) : Int)).getD zB := by
 unfold datN
 rw [List.range_succ, List.flatMap_append, List.flatMap_cons, List.flatMap_nil, List.append_nil]
theorem datN_len (hl : ∀ i, ((blkK d as_ i).getD zB).length = 256) (b n : Nat) : (datN d as_ b n).length = 256 * n := by
 induction n with
 | zero => rfl
 | succ n ih => rw [datN_succ, List.length_append, ih, hl]; omega
def runK (k : Int) (b n : Nat) : OpM := if k = 5 then ⟨5, r, 0, 0, 4 * (b : Int), 0, datN d as_ b n⟩ else if k = 6 then ⟨6, r, 0, 0, 4 * (b : Int), 4 * (n : Int), []⟩ else ⟨7, r, 0, 0, b, n, []⟩
theorem oneN_run {i : Nat} (h : nextK d as_ need i ≠ 0) : oneN d as_ r need i = runK d as_ r (nextK d as_ need i) i 1 := by
 have hk := (genN_some d as_ r need h).2
 have hd : datN d as_ i 1 = (blkK d as_ (i : Int)).getD zB := by simp [datN]
 unfold oneN at hk ⊢
 rw [← hk]
 generalize (blkK d as_ (i : Int)).getD zB = B at *
 unfold oneK runK
 by_cases h2 : (need i).2 = false
 ·rw [if_pos h2]; simp
 ·rw [if_neg h2]
  by_cases h3 : (B == zB) = true
  ·rw [if_pos h3]; simp
  ·rw [if_neg h3]; simp [hd]
theorem run_len (hl : ∀ i, ((blkK d as_ i).getD zB).length = 256) (k : Int) (b n : Nat) : (runK d as_ r k b n).l.length = if k = 5 then 256 * n else 0 := by
 unfold runK
 split
 ·exact datN_len d as_ hl b n
 ·split <;> rfl
theorem mrg_run {b n : Nat} (h : nextK d as_ need b ≠ 0) (hs : ∀ j, j ≤ n → nextK d as_ need ((b + j : Nat) : Int) = nextK d as_ need b) : mrg (oneN d as_ r need) b n = runK d as_ r (nextK d as_ need b) b (n + 1) := by
 induction n with
 | zero => exact oneN_run d as_ r need h
 | succ n ih =>
  have h1 := hs (n + 1) (Nat.le_refl _)
  have h2 := oneN_run d as_ r need (i := b + (n + 1)) (by rw [h1]; exact h)
  rw [h1] at h2
  rw [mrg, ih (fun j hj => hs j (by omega)), h2]
  generalize nextK d as_ need b = k at *
  unfold runK
  by_cases h5 : k = 5
  ·simp only [h5, if_true]
   rw [datN_succ d as_ b (n + 1), datN_succ d as_ (b + (n + 1)) 0]
   simp [datN]
  ·by_cases h6 : k = 6
   ·simp only [h6, show ¬ ((6 : Int) = 5) by decide, if_true, if_false, List.append_nil, OpM.mk.injEq, and_true, true_and]
    omega
   ·simp only [h5, h6, if_false, List.append_nil, OpM.mk.injEq, and_true, true_and]
    omega
def AtRun (N b : Nat) (L : List OpM) : Prop := ∃ f, foldG (genN d as_ r need) b = (L, f) ∧ (b < N → nextK d as_ need b ≠ 0 → Ends L f (nextK d as_ need b))
theorem atRun_start (N : Nat) : AtRun d as_ r need N 0 [] := ⟨false, rfl, fun _ _ => .inl rfl⟩
theorem atRun_end {N : Nat} {L : List OpM} (h : AtRun d as_ r need N N L) : (foldG (genN d as_ r need) N).1 = L := by
 obtain ⟨f, h, _⟩ := h
 rw [h]
structure RunIs (N : Nat) (k : Int) (b n : Nat) : Prop where
 one : 1 ≤ n
 most : b + n ≤ N
 same : ∀ j, j < n → nextK d as_ need ((b + j : Nat) : Int) = k
 eight : k = 5 → n ≤ 8
theorem runIs_start {N b : Nat} (h : b < N) : RunIs d as_ need N (nextK d as_ need b) b 1 := ⟨Nat.le_refl _, h, fun j hj => by
 obtain rfl : j = 0 := by omega
 rfl, fun _ => by omega⟩
theorem RunIs.more {N b n : Nat} {k : Int} (h : RunIs d as_ need N k b n) (hb : b + n < N) (hk : nextK d as_ need ((b + n : Nat) : Int) = k) (h8 : k = 5 → n < 8) : RunIs d as_ need N k b (n + 1) := ⟨by omega, hb, fun j hj => by
 rcases Nat.lt_or_ge j n with h1 | h1
 ·exact h.same j h1
 ·obtain rfl : j = n := by omega
  exact hk, fun e => by have := h8 e; omega⟩
theorem run_ex {N b : Nat} (h : b < N) : ∃ n, RunIs d as_ need N (nextK d as_ need b) b n ∧ (b + n < N → nextK d as_ need ((b + n : Nat) : Int) ≠ nextK d as_ need b ∨ (nextK d as_ need b = 5 ∧ n = 8)) := by
 suffices H : ∀ (f n : Nat), N - (b + n) ≤ f → RunIs d as_ need N (nextK d as_ need b) b n → ∃ n, RunIs d as_ need N (nextK d as_ need b) b n ∧ (b + n < N → nextK d as_ need ((b + n : Nat) : Int) ≠ nextK d as_ need b ∨ (nextK d as_ need b = 5 ∧ n = 8)) from H _ 1 (Nat.le_refl _) (runIs_start d as_ need h)
 intro f
 induction f with
 | zero => exact fun n hf hr => ⟨n, hr, fun hb => by omega⟩
 | succ f ih =>
  intro n hf hr
  by_cases hb : b + n < N
  ·by_cases hk : nextK d as_ need ((b + n : Nat) : Int) = nextK d as_ need b
   ·by_cases h8 : nextK d as_ need b = 5 ∧ n = 8
    ·exact ⟨n, hr, fun _ => .inr h8⟩
    ·exact ih (n + 1) (by omega) (hr.more d as_ need hb hk (fun h5 => by have := hr.eight h5; rcases Nat.lt_or_ge n 8 with h | h; exact h; exact absurd ⟨h5, by omega⟩ h8))
   ·exact ⟨n, hr, fun _ => .inl hk⟩
  ·exact ⟨n, hr, fun h => absurd h hb⟩
def behindK (L : List OpM) (k : Int) (b n : Nat) : List OpM := if k = 0 then L else L ++ [runK d as_ r k b n]
theorem atRun_next (hl : ∀ i, ((blkK d as_ i).getD zB).length = 256) {N b n : Nat} {k : Int} {L : List OpM} (hk : nextK d as_ need b = k) (h : AtRun d as_ r need N b L) (hr : RunIs d as_ need N k b n) (hE : b + n < N → nextK d as_ need ((b + n : Nat) : Int) ≠ k ∨ (k = 5 ∧ n = 8)) : AtRun d as_ r need N (b + n) (behindK d as_ r L k b n) := by
 obtain ⟨f, h0, he⟩ := h
 obtain ⟨m, rfl⟩ : ∃ m, n = m + 1 := ⟨n - 1, by have := hr.one; omega⟩
 by_cases hz : k = 0
 ·refine ⟨false, ?_, fun _ _ => .inl rfl⟩
  have := foldG_skip (genN d as_ r need) b m (fun j hj => genN_none d as_ r need (by rw [hr.same j hj, hz]))
  rw [behindK, if_pos hz, ← Nat.add_assoc, this, h0]
 ·have hkz : nextK d as_ need b ≠ 0 := by rw [hk]; exact hz
  have hm : ∀ j, j ≤ m → mrg (oneN d as_ r need) b j = runK d as_ r k b (j + 1) := fun j hj => by
   rw [← hk]
   exact mrg_run d as_ r need hkz (fun i hi => by rw [hr.same i (by omega), hk])
  have hsame : ∀ j, j ≤ m → (oneN d as_ r need (b + j)).k = k := fun j hj => by
   have h1 := hr.same j (by omega)
   have := (genN_some d as_ r need (i := b + j) (by rw [h1]; exact hz)).2
   rw [this, h1]
  have hb0 : (oneN d as_ r need b).k = k := hsame 0 (by omega)
  have := foldG_run (genN d as_ r need) (oneN d as_ r need) b m L f h0 (fun j hj => (genN_some d as_ r need (by rw [hr.same j (by omega)]; exact hz)).1) (fun j hj => by rw [hsame j hj, hb0]) (by rw [hb0, ← hk]; exact he (by have := hr.one; have := hr.most; omega) hkz) (fun j hj => by
   rw [hm j (by omega), run_len d as_ r hl]
   split
   ·next h5 => have := hr.eight h5; omega
   ·omega)
  refine ⟨true, ?_, fun hbn _ => .inr fun x hx => ?_⟩
  ·rw [behindK, if_neg hz, ← Nat.add_assoc, this, hm m (Nat.le_refl _)]
  ·rw [behindK, if_neg hz, List.getLast?_append] at hx
   simp only [List.getLast?_singleton, Option.some_or, Option.some.injEq] at hx
   subst hx
   rcases hE hbn with hE | ⟨h5, h8⟩
   ·left
    have hkk : (runK d as_ r k b (m + 1)).k = k := by rw [← hm m (Nat.le_refl _), mrg_k, hb0]
    rw [hkk]
    exact fun e => hE e.symm
   ·right
    rw [run_len d as_ r hl, if_pos h5]
    omega
end
theorem i64_cells {base : Nat} {W : World} {v : Value} {xs : List Int} (h : OwnN i64E base W v xs) (hne : xs ≠ []) : ∃ g c, v = .slice (some ⟨g, 0, none⟩) xs.length c ∧ base ≤ g ∧ g < W.heap.size ∧ xs.length ≤ c ∧ (∀ (j : Nat) x, xs[j]? = some x → W.cell? ⟨g, j, none⟩ = some (.int .i64 x)) := by
 obtain ⟨g, c, hv, hb, hg, hc, _, hcl, _⟩ := h.cells i64Is hne
 refine ⟨g, c, hv, hb, hg, hc, fun j x hx => ?_⟩
 have := hcl j x hx 0 _ rfl
 rw [Nat.zero_add] at this
 have e : j * i64E.k + 0 = j := Nat.mul_one j
 rw [e] at this
 exact this
theorem sizeK_le {d : Dev} (h : DevOk d) (v : Int) : 0 ≤ sizeK d v ∧ sizeK d v ≤ 256 := by
 unfold sizeK
 cases hv : getK d v with
 | none => exact ⟨by simp, by simp⟩
 | some x => have h1 := h.vols _ ((getK_mem h.sort).1 hv); exact ⟨h1.s0, h1.s1⟩
theorem rows1_any (base D P1 P2 P3 : Nat) (d : Dev) (l r : Int) (b : Nat) (w : World) (h : DevAt base w D d) [h1 : BlockAt w P1 #[.pointer (some ⟨D, 0, none⟩)] 26] [h2 : BlockAt w P2 #[.int .u64 l] 23] [h3 : BlockAt w P3 #[.int .u64 r] 23] :
  Calls Try.prog 37 #[.int .i64 b, .pointer (some ⟨P1, 0, none⟩), .pointer (some ⟨P2, 0, none⟩), .pointer (some ⟨P3, 0, none⟩)] w fun e w' => e = .returned (.int .i64 (kindK d l r b)) ∧ Gr w w' := by
 have x1 : w.cell? ⟨P1, 0, none⟩ = some (.pointer (some ⟨D, 0, none⟩)) := (@block_cells _ _ 0 _ _ h1).trans rfl
 have x2 : w.cell? ⟨P2, 0, none⟩ = some (.int .u64 l) := (@block_cells _ _ 0 _ _ h2).trans rfl
 have x3 : w.cell? ⟨P3, 0, none⟩ = some (.int .u64 r) := (@block_cells _ _ 0 _ _ h3).trans rfl
 haveI := h1.old
 haveI := h2.old
 haveI := h3.old
 have HD := Lib.hid h
 clear h
 go_enter Try.func37, Try.ntmps37
 go_wp2_with ((go_at_call 23; ((with_reducible refine (kind_any base D d l r b _ (HD.out.gr gri)).mono ?_); rintro _ _ ⟨rfl, g1, rfl⟩)))
 go_ret
 exact ⟨rfl, gri⟩
theorem rowB {W : World} {B : Nat} {t : TypeId} {cs : Array Value} (xs : List Int) (h : BlockAt W B cs t) (hc : cs.toList = xs.map u64v) : ∀ (j : Nat) x, xs[j]? = some x → W.cell? ⟨B, 0 + j, none⟩ = some (.int .u64 x) := by
 intro j x hx
 rw [Nat.zero_add, @block_cells W B j cs t h, ← Array.getElem?_toList, hc, List.getElem?_map, hx]
 rfl
def RwPost (d : Dev) (l r : Int) (w : World) (e : Ending) (w' : World) : Prop :=
 ∃ v, e = .returned (.tuple #[v, .int .i64 (chkK d [l, r])]) ∧ OwnN strE w.heap.size w' v (rowsK d l r) ∧ Gr w w'
set_option maxRecDepth 100000 in
set_option maxHeartbeats 2000000 in
theorem rows_any (base D : Nat) (d : Dev) (l r : Int) (w : World) (h : DevAt base w D d) : Calls Try.prog 16 #[.pointer (some ⟨D, 0, none⟩), .int .u64 l, .int .u64 r] w (RwPost d l r w) := by
 have HD := Lib.hid h
 have hok : DevOk d := by obtain ⟨M, mb, h⟩ := h; exact h.ok
 clear h
 go_enter Try.func16, Try.ntmps16
 go_wp2_with (first | (go_at_call 21; ((with_reducible refine (sizes_any base D d [l, r] _ 0 2 2 _ (HD.out.gr gri) rfl (by omega) (BlockAt.lt inferInstance) (by omega) (rowB [l, r] (cs := #[.int .u64 l, .int .u64 r]) inferInstance rfl)).mono ?_))))
 rintro _ W1 ⟨v1, rfl, hv1, ⟨g1, rfl⟩⟩
 by_cases hc : chkK d [l, r] = 0
 ·rw [if_pos hc] at hv1
  rw [hc]
  obtain ⟨g, c, rfl, hbg, hgl, hcc, hcl⟩ := i64_cells hv1 (by simp)
  have c0 := hcl 0 _ rfl
  have c1 := hcl 1 _ rfl
  haveI : Old g _ := ⟨hgl⟩
  have s1 := sizeK_le hok l
  have s2 := sizeK_le hok r
  obtain ⟨a, ha⟩ : ∃ a : Nat, sizeK d l = a := ⟨(sizeK d l).toNat, by omega⟩
  obtain ⟨b, hb⟩ : ∃ b : Nat, sizeK d r = b := ⟨(sizeK d r).toNat, by omega⟩
  have hR : rowsK d l r = strK (fun b => kindK d l r b) (max a b) := by
   unfold rowsK maxK
   rw [if_pos hc, ha, hb]
   simp
  rw [ha] at c0 s1
  rw [hb] at c1 s2
  have HR := Lib.hid hR
  have HC := Lib.hid hc
  have HB : max a b ≤ 100000 := by omega
  have hmax : (if a < b then (b : Int) else (a : Int)) = ((max a b : Nat) : Int) := by split <;> omega
  have HM := Lib.hid hmax
  clear hv1 hcl hc hok ha hb hR hmax s1 s2
  generalize hW2 : grown _ g1 = W2 at *
  haveI i1 : BlockAt W2 w.heap.size #[.pointer (some ⟨D, 0, none⟩)] 26 := by rw [← hW2]; infer_instance
  haveI i2 : BlockAt W2 (w.heap.size + 1) #[.int .u64 l] 23 := by rw [← hW2]; infer_instance
  haveI i3 : BlockAt W2 (w.heap.size + 1 + 1) #[.int .u64 r] 23 := by rw [← hW2]; infer_instance
  haveI i4 : GrC w W2 := by rw [← hW2]; infer_instance
  haveI i5 : From w W2 := by rw [← hW2]; infer_instance
  clear hW2
  go_wp2
  refine wp_region_grow_tail 8 (by kernel_rfl) (by kernel_rfl) ?_
  simp only [List.take_succ_cons, List.take_zero, List.drop_succ_cons, List.drop_zero]
  repeat (go_big_quiet_step (fail))
  refine wpQuiet_nil ?_
  intro g2
  rw [HM.out]
  go_wp2_with ((go_at_call 36; ((with_reducible refine (stretches_any (fun b => kindK d l r b) (max a b) HB _ _ _ _ ?_).mono ?_))))
  ·intro W hW b hb
   haveI := i1.gr (Gr.trans gri hW)
   haveI := i2.gr (Gr.trans gri hW)
   haveI := i3.gr (Gr.trans gri hW)
   exact rows1_any base D _ _ _ d l r b W (HD.out.gr (Gr.trans gri hW))
  ·rintro _ W3 ⟨v3, rfl, hv3, g3⟩
   haveI i6 := grc_of g3
   have HV := Lib.hid hv3
   have HG := Lib.hid g3
   clear hv3 g3
   go_wp2
   go_ret2
   exact ⟨_, by rw [HC.out]; rfl, by rw [HR.out]; exact HV.out.more (by exact (inferInstance : From w (grown W2 g2)).le), Gr.trans gri HG.out⟩
 ·rw [if_neg hc] at hv1
  subst hv1
  have hne : (chkK d [l, r] != 0) = true := by simpa using hc
  have hR : rowsK d l r = [] := by rw [rowsK, if_neg hc]
  have HR := Lib.hid hR
  clear hc hR hok
  go_wp2
  go_ret2
  exact ⟨_, rfl, by rw [HR.out]; exact OwnN.nil _ _, gri⟩
set_option maxRecDepth 100000
set_option maxHeartbeats 4000000
theorem row3 (x y z : Int) {W : World} {B : Nat} (h : BlockAt W B #[.int .u64 x, .int .u64 y, .int .u64 z] 23) : ∀ (j : Nat) (v : Int), [x, y, z][j]? = some v → W.cell? ⟨B, 0 + j, none⟩ = some (.int .u64 v) := fun j v hj => by
 match j, hj with
 | 0, hj => cases hj; exact (@block_cells _ _ 0 _ _ h).trans rfl
 | 1, hj => cases hj; exact (@block_cells _ _ 1 _ _ h).trans rfl
 | 2, hj => cases hj; exact (@block_cells _ _ 2 _ _ h).trans rfl
 | k + 3, hj => simp at hj
theorem dlay_bad (base D : Nat) (d : Dev) (b l r : Int) (w : World) (h : DevAt base w D d) (hc : chkK d [b, l, r] ≠ 0) :
  Calls Try.prog 7 #[.pointer (some ⟨D, 0, none⟩), .int .u64 b, .int .u64 l, .int .u64 r] w fun e w' => e = .returned (.tuple #[.slice none 0 0, .slice none 0 0, .int .i64 (chkK d [b, l, r])]) ∧ Gr w w' := by
 have HD := Lib.hid h
 have hne : (chkK d [b, l, r] != 0) = true := by simpa using hc
 clear h
 go_enter Try.func7, Try.ntmps7
 go_wp2_with (first | (go_at_call 21; ((with_reducible refine (sizes_any base D d [b, l, r] _ 0 3 3 _ (HD.out.gr gri) rfl (by omega) (BlockAt.lt inferInstance) (by omega) (row3 b l r inferInstance)).mono ?_))))
 rintro _ W1 ⟨v1, rfl, hv1, ⟨g1, rfl⟩⟩
 rw [if_neg hc] at hv1
 subst hv1
 clear hc
 go_wp2
 go_ret3
 exact ⟨by simp, gri⟩
theorem dlay_size (base D : Nat) (d : Dev) (b l r : Int) (w : World) (h : DevAt base w D d) (hc : chkK d [b, l, r] = 0) (hs : ¬ (sizeK d l = sizeK d b ∧ sizeK d r = sizeK d b)) :
  Calls Try.prog 7 #[.pointer (some ⟨D, 0, none⟩), .int .u64 b, .int .u64 l, .int .u64 r] w fun e w' => e = .returned (.tuple #[.slice none 0 0, .slice none 0 0, .int .i64 5]) ∧ Gr w w' := by
 have HD := Lib.hid h
 clear h
 by_cases hs2 : (sizeK d b != sizeK d l) = true
 ·go_enter Try.func7, Try.ntmps7
  go_wp2_with (first | (go_at_call 21; ((with_reducible refine (sizes_any base D d [b, l, r] _ 0 3 3 _ (HD.out.gr gri) rfl (by omega) (BlockAt.lt inferInstance) (by omega) (row3 b l r inferInstance)).mono ?_))))
  rintro _ W1 ⟨v1, rfl, hv1, ⟨g1, rfl⟩⟩
  rw [if_pos hc] at hv1
  obtain ⟨g, c, rfl, hbg, hgl, hcc, hcl⟩ := i64_cells hv1 (by simp)
  have c0 := hcl 0 _ rfl
  have c1 := hcl 1 _ rfl
  have c2 := hcl 2 _ rfl
  haveI : Old g _ := ⟨hgl⟩
  rw [hc]
  clear hv1 hcl hc hs
  go_wp2
  refine wp_region_grow (by kernel_rfl) (by kernel_rfl) ?_
  repeat (go_big_quiet_step (fail))
  refine wpQuiet_nil ?_
  intro g2
  go_wp2
  go_ret3
  exact ⟨by simp, gri⟩
 ·have hs2 : (sizeK d b != sizeK d l) = false := by simpa using hs2
  have hs3 : (sizeK d b != sizeK d r) = true := by
   simp only [bne_iff_ne, ne_eq, bne_eq_false_iff_eq] at hs2 ⊢
   exact fun e => hs ⟨hs2.symm, e.symm⟩
  go_enter Try.func7, Try.ntmps7
  go_wp2_with (first | (go_at_call 21; ((with_reducible refine (sizes_any base D d [b, l, r] _ 0 3 3 _ (HD.out.gr gri) rfl (by omega) (BlockAt.lt inferInstance) (by omega) (row3 b l r inferInstance)).mono ?_))))
  rintro _ W1 ⟨v1, rfl, hv1, ⟨g1, rfl⟩⟩
  rw [if_pos hc] at hv1
  obtain ⟨g, c, rfl, hbg, hgl, hcc, hcl⟩ := i64_cells hv1 (by simp)
  have c0 := hcl 0 _ rfl
  have c1 := hcl 1 _ rfl
  have c2 := hcl 2 _ rfl
  haveI : Old g _ := ⟨hgl⟩
  rw [hc]
  clear hv1 hcl hc hs
  go_wp2
  refine wp_region_grow (by kernel_rfl) (by kernel_rfl) ?_
  repeat (go_big_quiet_step (fail))
  refine wpQuiet_nil ?_
  intro g2
  go_wp2
  go_ret3
  exact ⟨by simp, gri⟩
set_option maxRecDepth 100000
set_option maxHeartbeats 4000000
def MPost (base : Nat) (L : List OpM) (W : World) (e : Ending) (w' : World) : Prop :=
 ∃ v zs, e = .returned v ∧ OwnN opE base w' v zs ∧ zs.map (·.o) = L ∧ (∀ z ∈ zs, OpOwn base w' z) ∧ Gr W w'
def MadeAt (base D : Nat) (d : Dev) (b l r : Int) (N : Nat) (w : World) : Prop := ∀ (W : World) (P1 P2 P3 P4 P5 : Nat), Gr w W → BlockAt W P1 #[.pointer (some ⟨D, 0, none⟩)] 26 → BlockAt W P2 #[.int .u64 l] 23 → BlockAt W P4 #[.int .u64 b] 23 → BlockAt W P5 #[.int .u64 r] 23 → W.cell? ⟨P3, 0, none⟩ = some (.func (.func 22) #[] #[.pointer (some ⟨P1, 0, none⟩)]) →
 Calls Try.prog 25 #[.pointer (some ⟨D, 0, none⟩), .int .u64 r, .int .u64 l, .int .i64 (N : Int), .func (.func 24) #[] #[.pointer (some ⟨P1, 0, none⟩), .pointer (some ⟨P2, 0, none⟩), .pointer (some ⟨P3, 0, none⟩), .pointer (some ⟨P4, 0, none⟩), .pointer (some ⟨P5, 0, none⟩)]] W (MPost base (foldG (genP d b l r) N).1 W)
theorem dlay_any (base D : Nat) (d : Dev) (b l r : Int) (N : Nat) (w : World) (h : DevAt base w D d) (hc : chkK d [b, l, r] = 0) (hN : sizeK d b = N) (hs2 : sizeK d l = N) (hs3 : sizeK d r = N) (hN9 : N ≤ 1000) (hM : MadeAt w.heap.size D d b l r N w) :
  Calls Try.prog 7 #[.pointer (some ⟨D, 0, none⟩), .int .u64 b, .int .u64 l, .int .u64 r] w (LPost w ((foldG (genP d b l r) N).1, clashP d b l r N, true)) := by
 have HD := Lib.hid h
 have HM := Lib.hid hM
 have hq : ((N : Int) != (N : Int)) = false := by simp
 clear h hM
 obtain ⟨PO, hPO⟩ : ∃ PO, PO = LPost w ((foldG (genP d b l r) N).1, clashP d b l r N, true) := ⟨_, rfl⟩
 rw [← hPO]
 have HPO := Lib.hid hPO
 clear hPO
 go_enter Try.func7, Try.ntmps7
 go_wp2_with (first | (go_at_call 21; ((with_reducible refine (sizes_any base D d [b, l, r] _ 0 3 3 _ (HD.out.gr gri) rfl (by omega) (BlockAt.lt inferInstance) (by omega) (row3 b l r inferInstance)).mono ?_))))
 rintro _ W1 ⟨v1, rfl, hv1, ⟨g1, rfl⟩⟩
 rw [if_pos hc] at hv1
 obtain ⟨g, c, rfl, hbg, hgl, hcc, hcl⟩ := i64_cells hv1 (by simp)
 have c0 := hcl 0 _ rfl
 have c1 := hcl 1 _ rfl
 have c2 := hcl 2 _ rfl
 rw [hN] at c0
 rw [hs2] at c1
 rw [hs3] at c2
 haveI : Old g _ := ⟨hgl⟩
 rw [hc]
 clear hv1 hcl hc hN hs2 hs3
 go_wp2
 refine wp_region_grow (by kernel_rfl) (by kernel_rfl) ?_
 repeat (go_big_quiet_step (fail))
 refine wpQuiet_nil ?_
 intro g2
 obtain ⟨W4, hW4⟩ : ∃ W4, W4 = grown _ g2 := ⟨_, rfl⟩
 have i1 : BlockAt W4 w.heap.size #[.pointer (some ⟨D, 0, none⟩)] 26 := by rw [hW4]; infer_instance
 have i2 : BlockAt W4 (w.heap.size + 1) #[.int .u64 b] 23 := by rw [hW4]; infer_instance
 have i3 : BlockAt W4 (w.heap.size + 1 + 1) #[.int .u64 l] 23 := by rw [hW4]; infer_instance
 have i4 : BlockAt W4 (w.heap.size + 1 + 1 + 1) #[.int .u64 r] 23 := by rw [hW4]; infer_instance
 have g4 : Gr w W4 := by rw [hW4]; exact gri
 have z0 : W4.cell? ⟨g, 0, none⟩ = some (.int .i64 (N : Int)) := by rw [hW4]; go_simp
 haveI : Old g W4 := by rw [hW4]; infer_instance
 rw [← hW4]
 clear hW4 c0 c1 c2
 obtain ⟨W5, hW5⟩ : ∃ W5, W5 = W4.alloc (.cells #[(.func (.func 22) #[] #[.pointer (some ⟨w.heap.size, 0, none⟩)])] 68) := ⟨_, rfl⟩
 have HRUN : Hid ((storeVar 68 ⟨W4.heap.size, 0, none⟩ (.func (.func 22) #[] #[.pointer (some ⟨w.heap.size, 0, none⟩)])).run Try.prog (W4.alloc (.cells #[.nilFunc] 68)) = .ok () W5) := Lib.hid (by
  rw [hW5]
  exact run_storeVar_new W4 68 #[.nilFunc] #[(.func (.func 22) #[] #[.pointer (some ⟨w.heap.size, 0, none⟩)])] (by kernel_rfl) rfl (by simp [Value.oneCell']))
 have x5 : W5.cell? ⟨W4.heap.size, 0, none⟩ = some (.func (.func 22) #[] #[.pointer (some ⟨w.heap.size, 0, none⟩)]) := by rw [hW5]; exact (@block_cells _ _ 0 _ _ (inferInstance : BlockAt (W4.alloc (.cells #[(.func (.func 22) #[] #[.pointer (some ⟨w.heap.size, 0, none⟩)])] 68)) W4.heap.size #[(.func (.func 22) #[] #[.pointer (some ⟨w.heap.size, 0, none⟩)])] 68)).trans rfl
 have k1 : BlockAt W5 w.heap.size #[.pointer (some ⟨D, 0, none⟩)] 26 := by rw [hW5]; infer_instance
 have k2 : BlockAt W5 (w.heap.size + 1) #[.int .u64 b] 23 := by rw [hW5]; infer_instance
 have k3 : BlockAt W5 (w.heap.size + 1 + 1) #[.int .u64 l] 23 := by rw [hW5]; infer_instance
 have k4 : BlockAt W5 (w.heap.size + 1 + 1 + 1) #[.int .u64 r] 23 := by rw [hW5]; infer_instance
 have g5 : Gr w W5 := by rw [hW5]; exact g4.trans gri
 have z5 : W5.cell? ⟨g, 0, none⟩ = some (.int .i64 (N : Int)) := by rw [hW5]; go_simp
 haveI : Old g W5 := by rw [hW5]; infer_instance
 clear i1 i2 i3 i4 g4 z0 hW5
 go_wp2_with (first | (refine wpStoreG rfl _ _ rfl ⟨W4.heap.size, 0, none⟩ _ rfl rfl W5 HRUN.out ?_))
 obtain ⟨P3, hP3⟩ : ∃ P3, P3 = W4.heap.size := ⟨_, rfl⟩
 rw [← hP3] at x5 ⊢
 clear hP3 HRUN
 have hgw : g < W5.heap.size := Old.lt
 have HG5 := Lib.hid g5
 have y1 : W5.cell? ⟨w.heap.size, 0, none⟩ = some (.pointer (some ⟨D, 0, none⟩)) := (@block_cells _ _ 0 _ _ k1).trans rfl
 have y2 : W5.cell? ⟨w.heap.size + 1, 0, none⟩ = some (.int .u64 b) := (@block_cells _ _ 0 _ _ k2).trans rfl
 have y3 : W5.cell? ⟨w.heap.size + 1 + 1, 0, none⟩ = some (.int .u64 l) := (@block_cells _ _ 0 _ _ k3).trans rfl
 have y4 : W5.cell? ⟨w.heap.size + 1 + 1 + 1, 0, none⟩ = some (.int .u64 r) := (@block_cells _ _ 0 _ _ k4).trans rfl
 haveI := k1.old
 haveI := k2.old
 haveI := k3.old
 haveI := k4.old
 haveI : Old P3 W5 := old_of_cell x5
 have HK1 := Lib.hid k1
 have HK2 := Lib.hid k2
 have HK3 := Lib.hid k3
 have HK4 := Lib.hid k4
 have HX5 := Lib.hid x5
 have hw5 : w.heap.size ≤ W5.heap.size := g5.below.size
 go_loopw [14, 51] (fun v14 v51 wr => ∃ k : Nat, k ≤ N ∧ v51 = .int .i64 (k : Int) ∧ OwnN i64E W5.heap.size wr v14 (clashP d b l r k) ∧ Gr W5 wr) (fun _ i _ => N - (intOf i).toNat)
 case atStart => exact ⟨0, Nat.zero_le _, rfl, OwnN.nil _ _, gri⟩
 case round =>
  obtain ⟨k, hk, rfl, hoC, gg, rfl⟩ := hrel
  have HOC := Lib.hid hoC
  clear hoC
  have hcl : (clashP d b l r k).length ≤ k := by
   unfold clashP
   rw [List.length_map]
   exact Nat.le_trans (List.length_filter_le _ _) (by simp)
  by_cases hlt : k < N
  ·have HA1 := Lib.hid (fun W (hW : Gr W5 W) => @lay1_any base D w.heap.size d b l (k : Int) W (HD.out.gr (HG5.out.trans hW)) (HK1.out.gr hW))
   have HA2 := Lib.hid (fun W (hW : Gr W5 W) => @lay1_any base D w.heap.size d b r (k : Int) W (HD.out.gr (HG5.out.trans hW)) (HK1.out.gr hW))
   have HA3 := Lib.hid (fun W (hW : Gr W5 W) => @lay1_any base D w.heap.size d l r (k : Int) W (HD.out.gr (HG5.out.trans hW)) (HK1.out.gr hW))
   have HS := Lib.hid (show clashP d b l r (k + 1) = clashP d b l r k ++ (if (!alikeK d b l k && !alikeK d b r k && !alikeK d l r k) = true then [(k : Int)] else []) from by
    unfold clashP
    rw [List.range_succ, List.filter_append, List.map_append]
    congr 1
    simp only [List.filter_cons, List.filter_nil]
    split <;> rfl)
   generalize alikeK d b l k = a1 at *
   generalize alikeK d b r k = a2 at *
   generalize alikeK d l r k = a3 at *
   cases a1
   ·cases a2
    ·cases a3
     ·simp only [Bool.not_false, Bool.and_self, if_true] at HS
      go_wp2_with (first | (at_builtin; refine wp_append_n i64Is rfl _ _ rfl rfl (HOC.out.gr gri) _ 0 [(k : Int)] 1 1 rfl rfl (fun _ _ => trivial) (CellsN.block _ inferInstance rfl) (by simp; omega) past (by simp) ?_; intro v1 W1 h1; have H1 := Lib.hid h1; clear h1) | (go_at_call 22; ((with_reducible refine (HA1.out _ gri).mono ?_); rintro _ _ ⟨rfl, ga, rfl⟩)) | (go_at_call 22; ((with_reducible refine (HA2.out _ gri).mono ?_); rintro _ _ ⟨rfl, gb, rfl⟩)) | (go_at_call 22; ((with_reducible refine (HA3.out _ gri).mono ?_); rintro _ _ ⟨rfl, gc, rfl⟩)))
      go_roundw
      case rel => exact ⟨k + 1, by omega, by go_num, by rw [HS.out]; exact H1.out.own, by haveI := H1.out.grc W5 (Nat.le_refl _); exact gri⟩
      case measure => simp [intOf]; omega
     ·simp only [Bool.not_false, Bool.not_true, Bool.and_false, Bool.false_eq_true, if_false, List.append_nil] at HS
      go_wp2_with (first | (go_at_call 22; ((with_reducible refine (HA1.out _ gri).mono ?_); rintro _ _ ⟨rfl, ga, rfl⟩)) | (go_at_call 22; ((with_reducible refine (HA2.out _ gri).mono ?_); rintro _ _ ⟨rfl, gb, rfl⟩)) | (go_at_call 22; ((with_reducible refine (HA3.out _ gri).mono ?_); rintro _ _ ⟨rfl, gc, rfl⟩)))
      go_roundw
      case rel => exact ⟨k + 1, by omega, by go_num, by rw [HS.out]; exact HOC.out.gr gri, gri⟩
      case measure => simp [intOf]; omega
    ·simp only [Bool.not_false, Bool.not_true, Bool.and_false, Bool.false_and, Bool.false_eq_true, if_false, List.append_nil] at HS
     go_wp2_with (first | (go_at_call 22; ((with_reducible refine (HA1.out _ gri).mono ?_); rintro _ _ ⟨rfl, ga, rfl⟩)) | (go_at_call 22; ((with_reducible refine (HA2.out _ gri).mono ?_); rintro _ _ ⟨rfl, gb, rfl⟩)) | (go_at_call 22; ((with_reducible refine (HA3.out _ gri).mono ?_); rintro _ _ ⟨rfl, gc, rfl⟩)))
     go_roundw
     case rel => exact ⟨k + 1, by omega, by go_num, by rw [HS.out]; exact HOC.out.gr gri, gri⟩
     case measure => simp [intOf]; omega
   ·simp only [Bool.not_true, Bool.false_and, Bool.false_eq_true, if_false, List.append_nil] at HS
    go_wp2_with (first | (go_at_call 22; ((with_reducible refine (HA1.out _ gri).mono ?_); rintro _ _ ⟨rfl, ga, rfl⟩)) | (go_at_call 22; ((with_reducible refine (HA2.out _ gri).mono ?_); rintro _ _ ⟨rfl, gb, rfl⟩)) | (go_at_call 22; ((with_reducible refine (HA3.out _ gri).mono ?_); rintro _ _ ⟨rfl, gc, rfl⟩)))
    go_roundw
    case rel => exact ⟨k + 1, by omega, by go_num, by rw [HS.out]; exact HOC.out.gr gri, gri⟩
    case measure => simp [intOf]; omega
  ·have : k = N := by omega
   subst this
   have hz5 : (grown W5 gg).cell? ⟨g, 0, none⟩ = some (.int .i64 (k : Int)) := (gg.below.cell (p := ⟨g, 0, none⟩) hgw).trans z5
   go_wp2
   refine wp_region_treeT (inCls_ghost _) (Cls.none _) ⟨Gr.of ((Below.refl _ _).drew), trivial⟩ [0, 1, 2, 3, 4, 5, 6, 8] 2 10 (by kernel_rfl) (by kernel_rfl) ?_
   simp only [pick, List.drop_succ_cons, List.drop_zero, List.take_succ_cons, List.take_zero, List.nil_append, List.cons_append]
   repeat (refine wpCalm_step (fun K hK => ?_); go_simp; first | (refine hK _ ?_; clear hK K) | (apply Exists.intro; refine ⟨fun _ => ?_, hK _ ?_⟩; (skip); clear hK K))
   refine wpCalm_nil ?_
   refine ft_one 7 (by kernel_rfl) (by omega) ?_
   refine fe_effD rfl rfl rfl fun w4 hw4 => effAt_call' 25 _ (by go_simp) ((HM.out w4 w.heap.size (w.heap.size + 1 + 1) P3 (w.heap.size + 1) (w.heap.size + 1 + 1 + 1) (HG5.out.trans (Gr.trans gri hw4.1)) (HK1.out.gr (Gr.trans gri hw4.1)) (HK3.out.gr (Gr.trans gri hw4.1)) (HK2.out.gr (Gr.trans gri hw4.1)) (HK4.out.gr (Gr.trans gri hw4.1)) (((Gr.trans gri hw4.1 : Gr W5 w4).below.cell (p := ⟨P3, 0, none⟩) Old.lt).trans HX5.out)).mono fun e w2 hc => ?_)
   obtain ⟨v9, zs9, rfl, ho9, hm9, hz9, hg9⟩ := hc
   refine ⟨v9, rfl, ⟨fun w' => OwnN opE w.heap.size w' v9 zs9 ∧ ∀ z ∈ zs9, OpOwn w.heap.size w' z, fun a b h g => ⟨h.1.gr g, fun z hz => (h.2 z hz).gr g⟩⟩, ⟨hw4.1.trans hg9, ho9, hz9⟩, ?_⟩
   have HM9 := Lib.hid hm9
   clear hw4 hg9 ho9 hz9 hm9 w2 w4
   simp only [Act.put, List.setIfInBounds_toArray, List.set_cons_zero, List.set_cons_succ]
   refine ft_one 9 (by kernel_rfl) (by omega) ?_
   refine fe_effD rfl rfl rfl fun w4 hw4 => effAt_ok v9 (w' := w4) (by go_simp) ?_
   refine ⟨⟨fun w' => OwnN opE w.heap.size w' v9 zs9 ∧ ∀ z ∈ zs9, OpOwn w.heap.size w' z, fun a b h g => ⟨h.1.gr g, fun z hz => (h.2 z hz).gr g⟩⟩, hw4, ?_⟩
   clear hw4 w4
   simp only [Act.put, List.setIfInBounds_toArray, List.set_cons_zero, List.set_cons_succ]
   refine ft_end ⟨by kernel_rfl, fun w9 hw9 => ?_⟩
   try simp only [List.drop_succ_cons, List.drop_zero]
   obtain ⟨hg9, ho9, hz9⟩ := hw9
   have HF := Lib.hid (show PO (.returned (.tuple #[v9, u14, .int .i64 0])) w9 from by
    rw [HPO.out]
    exact ⟨v9, u14, zs9, rfl, ho9, HM9.out, hz9, ((HOC.out.gr gri).gr hg9).more hw5, HG5.out.trans (Gr.trans gri hg9)⟩)
   clear hg9 ho9 hz9
   go_wp2
   go_ret3
   exact HF.out
set_option maxRecDepth 100000
set_option maxHeartbeats 4000000
theorem cut_all (Y : Byt) (hY : Y.length = 256) (w : World) : Calls Try.prog 42 #[.agg (bkC Y), .agg #[.int .i64 0, .int .i64 0, .int .i64 4]] w fun e w' => ∃ v, e = .returned v ∧ OwnN bE w.heap.size w' v Y ∧ Gr w w' := by
 have h := cut_any Y 0 0 4 hY (by omega) (by omega) w
 have e : cutK Y ⟨0, 0, 4⟩ = Y := by
  unfold cutK
  exact List.take_of_length_le (by simp [hY])
 rw [e] at h
 exact h
theorem dmade_any (base D : Nat) (d : Dev) (need : Int → Bool × Bool) (l r : Int) (N : Nat) (C1 C2 C3 C4 C5 : Addr) (w : World) (h : DevAt base w D d) (hN9 : N ≤ 1000)
  (hn : ∀ (W : World) (i : Int), Gr w W → Calls Try.prog 24 #[.int .i64 i, .pointer (some C1), .pointer (some C2), .pointer (some C3), .pointer (some C4), .pointer (some C5)] W fun e w' => e = .returned (.tuple #[.bool (need i).1, .bool (need i).2]) ∧ Gr W w') :
  Calls Try.prog 25 #[.pointer (some ⟨D, 0, none⟩), .int .u64 r, .int .u64 l, .int .i64 (N : Int), .func (.func 24) #[] #[.pointer (some C1), .pointer (some C2), .pointer (some C3), .pointer (some C4), .pointer (some C5)]] w fun e w' => ∃ v zs, e = .returned v ∧ OwnN opE w.heap.size w' v zs ∧ zs.map (·.o) = (foldG (genN d l r need) N).1 ∧ (∀ z ∈ zs, OpOwn w.heap.size w' z) ∧ Gr w w' := by
 have hok : DevOk d := by obtain ⟨M, mb, h⟩ := h; exact h.ok
 have HBL := Lib.hid (fun i => blkK_len hok l i)
 have HD := Lib.hid h
 have HN := Lib.hid hn
 clear h hn hok
 go_enter Try.func25, Try.ntmps25
 go_wp2
 obtain ⟨W5, hW5⟩ : ∃ W5, W5 = ((w.alloc (.cells #[.pointer (some ⟨D, 0, none⟩)] 26)).alloc (.cells #[.int .u64 l] 23)).alloc (.cells #[.func (.func 24) #[] #[.pointer (some C1), .pointer (some C2), .pointer (some C3), .pointer (some C4), .pointer (some C5)]] 69) := ⟨_, rfl⟩
 have k2 : BlockAt W5 w.heap.size #[.pointer (some ⟨D, 0, none⟩)] 26 := by rw [hW5]; infer_instance
 have k3 : BlockAt W5 (w.heap.size + 1) #[.int .u64 l] 23 := by rw [hW5]; infer_instance
 have k4 : BlockAt W5 (w.heap.size + 1 + 1) #[.func (.func 24) #[] #[.pointer (some C1), .pointer (some C2), .pointer (some C3), .pointer (some C4), .pointer (some C5)]] 69 := by rw [hW5]; infer_instance
 have g5 : Gr w W5 := by rw [hW5]; exact gri
 rw [← hW5]
 clear hW5
 have x1 : W5.cell? ⟨w.heap.size + 1 + 1, 0, none⟩ = some (.func (.func 24) #[] #[.pointer (some C1), .pointer (some C2), .pointer (some C3), .pointer (some C4), .pointer (some C5)]) := (@block_cells _ _ 0 _ _ k4).trans rfl
 obtain ⟨P1, hP1⟩ : ∃ P, P = w.heap.size + 1 + 1 := ⟨_, rfl⟩
 obtain ⟨P3, hP3⟩ : ∃ P, P = w.heap.size + 1 := ⟨_, rfl⟩
 obtain ⟨P2, hP2⟩ : ∃ P, P = w.heap.size := ⟨_, rfl⟩
 rw [← hP1] at k4 x1 ⊢
 rw [← hP3] at k3 ⊢
 rw [← hP2] at k2
 have HNX := Lib.hid (fun W (hW : Gr W5 W) (i : Int) => @next_any base D P1 P2 P3 C1 C2 C3 C4 C5 d l i (need i) W (HD.out.gr (g5.trans hW)) (k2.gr hW) (k3.gr hW) ((hW.below.cell (p := ⟨P1, 0, none⟩) k4.lt).trans x1) (fun W' hW' => HN.out W' i (g5.trans (hW.trans hW'))))
 have HB := Lib.hid (fun W (hW : Gr W5 W) (i : Int) => block_any base D d l i W (HD.out.gr (g5.trans hW)))
 have y2 : W5.cell? ⟨P2, 0, none⟩ = some (.pointer (some ⟨D, 0, none⟩)) := (@block_cells _ _ 0 _ _ k2).trans rfl
 have y3 : W5.cell? ⟨P3, 0, none⟩ = some (.int .u64 l) := (@block_cells _ _ 0 _ _ k3).trans rfl
 haveI := k2.old
 haveI := k3.old
 haveI := k4.old
 have HG5 := Lib.hid g5
 have HP2 := Lib.hid hP2
 have HW5 := Lib.hid g5.below.size
 simp only [hP2.symm] at y2 ⊢
 clear g5 k2 k3 k4 x1 hP1 hP3 hP2
 go_loopw [10, 12] (fun v10 v12 wr => ∃ (b : Nat) (zs : List OpC), b ≤ N ∧ v12 = .int .i64 (b : Int) ∧ OwnN opE W5.heap.size wr v10 zs ∧ AtRun d l r need N b (zs.map (·.o)) ∧ (∀ z ∈ zs, OpOwn W5.heap.size wr z) ∧ zs.length ≤ b ∧ Gr W5 wr) (fun _ i _ => N - (intOf i).toNat)
 case atStart => exact ⟨0, [], Nat.zero_le _, rfl, OwnN.nil _ _, atRun_start d l r need N, by simp, Nat.zero_le _, gri⟩
 case round =>
  obtain ⟨b, zs, hbN, rfl, ho, hat, hz, hzl, hg⟩ := hrel
  haveI := grc_of hg
  haveI := from_of hg
  have HG := Lib.hid hg
  have HO := Lib.hid ho
  have HAT := Lib.hid hat
  have HZ := Lib.hid hz
  obtain ⟨wo, rfl⟩ : ∃ wo : World, wo = wr := ⟨_, rfl⟩
  have z2 : wo.cell? ⟨P2, 0, none⟩ = some (.pointer (some ⟨D, 0, none⟩)) := (hg.below.cell (p := ⟨P2, 0, none⟩) Old.lt).trans y2
  have z3 : wo.cell? ⟨P3, 0, none⟩ = some (.int .u64 l) := (hg.below.cell (p := ⟨P3, 0, none⟩) Old.lt).trans y3
  clear hg ho hat hz
  by_cases hlt : b < N
  ·have hR0 := runIs_start d l need hlt
   obtain ⟨k, hk⟩ : ∃ k, k = nextK d l need (b : Int) := ⟨_, rfl⟩
   have HNB := Lib.hid (fun W (hW : Gr wo W) => HNX.out W (HG.out.trans hW) (b : Int))
   change Hid (∀ W, Gr wo W → Calls _ _ _ W fun e w' => e = .returned (.int .i64 (nextK d l need (b : Int))) ∧ Gr W w') at HNB
   rw [← hk] at HNB hR0
   have HR0 := Lib.hid hR0
   have HK := Lib.hid hk
   clear hR0 hk
   go_upto_block 2 with ((go_at_call 41; ((with_reducible refine (HNB.out _ gri).mono ?_); rintro _ _ ⟨rfl, g1, rfl⟩)))
   go_cut [14] from 20 to 104 (fun v14 wx => ∃ n : Nat, v14 = .int .i64 (n : Int) ∧ RunIs d l need N k b n ∧ (b + n < N → nextK d l need ((b + n : Nat) : Int) ≠ k ∨ (k = 5 ∧ n = 8)) ∧ Gr wo wx)
   case first =>
    clear HO HAT HZ hzl
    go_wp2_with fail
    go_loopw [14] (fun v14 wr => ∃ n : Nat, v14 = .int .i64 (n : Int) ∧ RunIs d l need N k b n ∧ Gr wo wr) (fun v _ => N - (intOf v).toNat)
    case atStart => exact ⟨1, rfl, HR0.out, gri⟩
    case round =>
     obtain ⟨n, rfl, hr, hg2⟩ := hrel
     haveI := grc_of hg2
     haveI := from_of hg2
     have HG2 := Lib.hid hg2
     have HR := Lib.hid hr
     have hn1 := hr.one
     have hn2 := hr.most
     clear hr hg2
     by_cases hbn : b + n < N
     ·have HNB2 := Lib.hid (fun W (hW : Gr wr W) => HNX.out W (HG.out.trans (HG2.out.trans hW)) ((b : Int) + (n : Int)))
      change Hid (∀ W, Gr wr W → Calls _ _ _ W fun e w' => e = .returned (.int .i64 (nextK d l need ((b : Int) + (n : Int)))) ∧ Gr W w') at HNB2
      have hbn2 : (b : Int) + (n : Int) < (N : Int) := by omega
      have e9 : ((b + n : Nat) : Int) = (b : Int) + (n : Int) := by omega
      have HE9 := Lib.hid e9
      obtain ⟨k9, hk9⟩ : ∃ k9, k9 = nextK d l need ((b : Int) + (n : Int)) := ⟨_, rfl⟩
      rw [← hk9] at HNB2
      have HK9 := Lib.hid hk9
      clear e9 hk9
      by_cases hkk : k9 = k
      ·subst hkk
       have hq1 : (k9 == k9) = true := by simp
       by_cases h5 : k9 = 5
       ·have hq2 : (k9 != 5) = false := by simp [h5]
        have HK5 := Lib.hid h5
        by_cases h8 : n < 8
        ·have h8i : (n : Int) < 8 := by omega
         have HR2 := Lib.hid (HR.out.more d l need hbn (by rw [HE9.out]; exact HK9.out.symm) (fun _ => h8))
         clear h5
         go_wp2_with ((go_at_call 41; ((with_reducible refine (HNB2.out _ gri).mono ?_); rintro _ _ ⟨rfl, g2, rfl⟩)))
         go_roundw
         case rel => exact ⟨n + 1, by go_num, HR2.out, gri⟩
         case measure => simp [intOf]; omega
        ·have h8i : ¬ (n : Int) < 8 := by omega
         have HX := Lib.hid (show n = 8 from by have := HR.out.eight h5; omega)
         clear h5
         go_wp2_with ((go_at_call 41; ((with_reducible refine (HNB2.out _ gri).mono ?_); rintro _ _ ⟨rfl, g2, rfl⟩)))
         go_meet
         case rel => exact ⟨n, rfl, HR.out, fun _ => .inr ⟨HK5.out, HX.out⟩, gri⟩
       ·have hq2 : (k9 != 5) = true := by simp [h5]
        have HR2 := Lib.hid (HR.out.more d l need hbn (by rw [HE9.out]; exact HK9.out.symm) (fun e => absurd e h5))
        clear h5
        go_wp2_with ((go_at_call 41; ((with_reducible refine (HNB2.out _ gri).mono ?_); rintro _ _ ⟨rfl, g2, rfl⟩)))
        go_roundw
        case rel => exact ⟨n + 1, by go_num, HR2.out, gri⟩
        case measure => simp [intOf]; omega
      ·have hq1 : (k9 == k) = false := by simp [hkk]
       have HX := Lib.hid hkk
       clear hkk
       go_wp2_with ((go_at_call 41; ((with_reducible refine (HNB2.out _ gri).mono ?_); rintro _ _ ⟨rfl, g2, rfl⟩)))
       go_meet
       case rel => exact ⟨n, rfl, HR.out, fun _ => .inl (by rw [HE9.out, ← HK9.out]; exact HX.out), gri⟩
     ·have hbn2 : ¬ (b : Int) + (n : Int) < (N : Int) := by omega
      go_wp2_with fail
      go_meet
      case rel => exact ⟨n, rfl, HR.out, fun h => absurd h hbn, gri⟩
   case rest =>
    obtain ⟨n, rfl, hr, hx, hg2⟩ := hcut
    have HAT2 := Lib.hid (atRun_next d l r need HBL.out HK.out.symm HAT.out hr hx)
    have HR2 := Lib.hid hr
    have hn1 := hr.one
    have hn2 := hr.most
    have hk4 : k = 0 ∨ k = 5 ∨ k = 6 ∨ k = 7 := by
     have h9 := HK.out
     unfold nextK at h9
     split at h9
     ·exact .inl h9
     ·split at h9
      ·exact .inr (.inr (.inr h9))
      ·split at h9
       ·exact .inr (.inr (.inl h9))
       ·exact .inr (.inl h9)
    haveI := grc_of hg2
    haveI := from_of hg2
    haveI := grc_of (HG.out.trans hg2)
    haveI := from_of (HG.out.trans hg2)
    have HG2 := Lib.hid hg2
    clear hg2 hr hx HNB HR0
    rcases hk4 with rfl | rfl | rfl | rfl
    ·have HAT2 := Lib.hid (show AtRun d l r need N (b + n) (zs.map (·.o)) from HAT2.out)
     go_wp2
     go_roundw
     case rel => exact ⟨b + n, zs, HR2.out.most, by go_num, HO.out.gr gri, HAT2.out, fun z hz => (HZ.out z hz).gr gri, by omega, HG.out.trans gri⟩
     case measure => simp [intOf]; omega
    ·have HAT2 := Lib.hid (show AtRun d l r need N (b + n) (zs.map (·.o) ++ [⟨5, r, 0, 0, (b : Int) * 4, 0, datN d l b n⟩]) from by rw [Int.mul_comm (b : Int) 4]; exact HAT2.out)
     have HN8 := Lib.hid (HR2.out.eight rfl)
     go_wp2
     go_loopw [64] (fun v64 wr => ∃ (j : Nat) (vA : Option Addr) (vn vc : Nat), j ≤ n ∧ v64 = .int .i64 (j : Int) ∧ OwnN bE wc.heap.size wr (.slice vA vn vc) (datN d l b j) ∧ BlockAt wr wc.heap.size #[.int .i64 5, .int .u64 r, .int .u64 0, .int .i64 0, .int .i64 (b : Int), .int .i64 0, .slice vA vn vc] 51 ∧ Gr wc wr) (fun v _ => n - (intOf v).toNat)
     case atStart => exact ⟨0, none, 0, 0, Nat.zero_le _, rfl, OwnN.nil _ _, inferInstance, gri⟩
     case round =>
      obtain ⟨j, vA, vn, vc, hj, rfl, ho5, hb5, hg5⟩ := hrel
      haveI := grc_of hg5
      haveI := from_of hg5
      haveI := grc_of (HG2.out.trans hg5)
      haveI := from_of (HG2.out.trans hg5)
      haveI := grc_of (HG.out.trans (HG2.out.trans hg5))
      haveI := from_of (HG.out.trans (HG2.out.trans hg5))
      have z5 : wr.cell? ⟨P2, 0, none⟩ = some (.pointer (some ⟨D, 0, none⟩)) := ((HG.out.trans (HG2.out.trans hg5)).below.cell (p := ⟨P2, 0, none⟩) Old.lt).trans y2
      have z6 : wr.cell? ⟨P3, 0, none⟩ = some (.int .u64 l) := ((HG.out.trans (HG2.out.trans hg5)).below.cell (p := ⟨P3, 0, none⟩) Old.lt).trans y3
      haveI : Old P2 wr := old_of_cell z5
      haveI : Old P3 wr := old_of_cell z6
      haveI := hb5
      haveI := hb5.old
      have p0 : wr.cell? ⟨wc.heap.size, 0, none⟩ = some (.int .i64 5) := (@block_cells _ _ 0 _ _ hb5).trans rfl
      have p1 : wr.cell? ⟨wc.heap.size, 1, none⟩ = some (.int .u64 r) := (@block_cells _ _ 1 _ _ hb5).trans rfl
      have p2 : wr.cell? ⟨wc.heap.size, 2, none⟩ = some (.int .u64 0) := (@block_cells _ _ 2 _ _ hb5).trans rfl
      have p3 : wr.cell? ⟨wc.heap.size, 3, none⟩ = some (.int .i64 0) := (@block_cells _ _ 3 _ _ hb5).trans rfl
      have p4 : wr.cell? ⟨wc.heap.size, 4, none⟩ = some (.int .i64 (b : Int)) := (@block_cells _ _ 4 _ _ hb5).trans rfl
      have p5 : wr.cell? ⟨wc.heap.size, 5, none⟩ = some (.int .i64 0) := (@block_cells _ _ 5 _ _ hb5).trans rfl
      have p6 : wr.cell? ⟨wc.heap.size, 6, none⟩ = some (.slice vA vn vc) := (@block_cells _ _ 6 _ _ hb5).trans rfl
      have t4 : wr.frozen? ⟨wc.heap.size, 4, none⟩ = false := @block_frozen _ _ 4 _ _ hb5
      have HO5 := Lib.hid ho5
      have HB5 := Lib.hid hb5
      have HG5w := Lib.hid hg5
      have HDL := Lib.hid (datN_len d l HBL.out b j)
      clear ho5 hg5
      by_cases hjn : j < n
      ·have e9 : ((b + j : Nat) : Int) = (b : Int) + (j : Int) := by omega
       have HS5 := Lib.hid (datN_succ d l b j)
       rw [e9] at HS5
       have HBJ := Lib.hid (fun W (hW : Gr wr W) => HB.out W (HG.out.trans (HG2.out.trans (HG5w.out.trans hW))) ((b : Int) + (j : Int)))
       have hYl := HBL.out ((b : Int) + (j : Int))
       haveI := bkC_row hYl
       obtain ⟨Y, hY⟩ : ∃ Y, Y = (blkK d l ((b : Int) + (j : Int))).getD zB := ⟨_, rfl⟩
       obtain ⟨yi, hyi⟩ : ∃ yi, yi = (blkK d l ((b : Int) + (j : Int))).isSome := ⟨_, rfl⟩
       simp only [← hY, ← hyi] at HBJ HS5 hYl
       haveI := bkC_row hYl
       have HYL := Lib.hid hYl
       clear hY hyi hYl e9
       go_wp2_with (first | (go_at_call 13; ((with_reducible refine (HBJ.out _ gri).mono ?_); rintro _ _ ⟨rfl, g3, rfl⟩)) | (refine wpStoreB rfl _ _ rfl _ _ _ rfl rfl inferInstance inferInstance inferInstance ?_))
       obtain ⟨W7, hW7⟩ : ∃ W7, W7 = ((grown wr g3).alloc (.cells Try.zeroCells43 43)).setRow (grown wr g3).heap.size (bkC Y) := ⟨_, rfl⟩
       have bB : BlockAt W7 (grown wr g3).heap.size (bkC Y) 43 := by rw [hW7]; infer_instance
       have b7 : BlockAt W7 wc.heap.size #[.int .i64 5, .int .u64 r, .int .u64 0, .int .i64 0, .int .i64 (b : Int), .int .i64 0, .slice vA vn vc] 51 := by rw [hW7]; infer_instance
       have g7 : Gr wr W7 := by rw [hW7]; exact gri
       try simp only [← hW7]
       clear hW7
       haveI := grc_of g7
       haveI := from_of g7
       haveI := bB
       haveI := b7
       haveI := bB.old
       haveI := b7.old
       have q6 : W7.cell? ⟨wc.heap.size, 6, none⟩ = some (.slice vA vn vc) := (@block_cells _ _ 6 _ _ b7).trans rfl
       have hbw : wc.heap.size ≤ W7.heap.size := Nat.le_trans HG5w.out.below.size g7.below.size
       have HG7 := Lib.hid g7
       have HB7 := Lib.hid b7
       have HBW := Lib.hid hbw
       clear g7 hbw p0 p1 p2 p3 p4 p5 p6 t4
       refine wp_region_treeH ⟨fun w' => Gr W7 w', true, fun _ _ h => h, fun _ _ _ h g => h.trans g⟩ rfl (Gr.of ((Below.refl _ _).drew)) [0, 1, 2, 3] 4 5 (by kernel_rfl) (by kernel_rfl) ?_
       simp only [pick, List.drop_succ_cons, List.drop_zero, List.take_succ_cons, List.take_zero, List.nil_append, List.cons_append]
       refine wpCalm_step (fun K hK => ?_); go_simp; refine hK _ ?_; clear hK K
       refine wpCalm_step (fun K hK => ?_); go_simp; refine hK _ ?_; clear hK K
       refine wpCalm_load rfl rfl rfl bB Try.underlying43 rfl (by rw [bkC_size, HYL.out]; exact infoBlk) ?_
       simp only [Act.put, List.setIfInBounds_toArray, List.set_cons_zero, List.set_cons_succ]
       repeat (refine wpCalm_step (fun K hK => ?_); go_simp; first | (refine hK _ ?_; clear hK K) | (apply Exists.intro; refine ⟨fun _ => ?_, hK _ ?_⟩; (skip); clear hK K))
       refine wpCalm_nil ?_
       refine fg_one 4 (by kernel_rfl) ?_
       refine fg_effD rfl rfl rfl (fun w1 hw1 => effAt_call' 42 #[.agg (bkC Y), .agg #[.int .i64 0, .int .i64 0, .int .i64 4]] (by go_simp) ((cut_all Y HYL.out w1).mono fun e w2 hc => ?_))
       obtain ⟨v1, rfl, ho1, hg1⟩ := hc
       obtain ⟨A1, c1', rfl, hl1, hm1, hr1⟩ := ho1.form bIs
       have hnn : A1 = none → c1' = 0 := fun e => by
        subst e
        rcases ho1.own.2 with ⟨e, _⟩ | ⟨b, cap, cur, e, _⟩
        ·simp only [Value.slice.injEq] at e; exact e.2.2
        ·simp only [Value.slice.injEq] at e; cases e.1
       refine ⟨_, rfl, ⟨fun w2 => Gr W7 w2 ∧ RowN bE w2 A1 Y, true, fun _ _ h => h.1, fun _ _ _ h g => ⟨h.1.trans g, h.2.gr g⟩⟩, ⟨Gr.trans hw1 hg1, hr1⟩, fun _ _ => rfl, ?_⟩
       have HNN := Lib.hid hnn
       clear ho1 hg1 hw1 hr1 hl1 hm1 w2 w1 hnn
       simp only [Act.put, List.setIfInBounds_toArray, List.set_cons_zero, List.set_cons_succ]
       refine fg_one 5 (by kernel_rfl) ?_
       refine fg_effD rfl rfl rfl (fun w1 hw1 => effAt_append_x bIs _ _ rfl rfl (HO5.out.gr (Gr.trans HG7.out hw1.1)) A1 Y Y.length c1' rfl rfl HNN.out hw1.2 (by have := HDL.out; have := HYL.out; have := HN8.out; omega) (Nat.le_trans HBW.out (Gr.below hw1.1).size) ?_)
       intro v2 W2 h2
       have ho2 := h2.own
       obtain ⟨A2, c2', rfl, -, -, -⟩ := ho2.form bIs
       obtain ⟨n2, hn2⟩ : ∃ n2, n2 = (datN d l b j ++ Y).length := ⟨_, rfl⟩
       rw [← hn2] at ho2 ⊢
       rw [← HS5.out] at ho2
       have gw1 : Gr wr w1 := Gr.trans HG7.out hw1.1
       refine ⟨⟨fun w2 => OwnN bE wc.heap.size w2 (.slice A2 n2 c2') (datN d l b (j + 1)) ∧ BlockAt w2 wc.heap.size #[.int .i64 5, .int .u64 r, .int .u64 0, .int .i64 0, .int .i64 (b : Int), .int .i64 0, .slice vA vn vc] 51 ∧ Gr wc w2, false, fun e => Bool.noConfusion e, fun e => Bool.noConfusion e⟩, ⟨ho2, h2.keep _ _ _ (HB5.out.gr gw1) (by decide), Gr.trans_below (HG5w.out.trans gw1) h2.below⟩, fun e => absurd rfl e, ?_⟩
       clear ho2 h2 gw1 hw1 hn2 W2 w1
       simp only [Act.put, List.setIfInBounds_toArray, List.set_cons_zero, List.set_cons_succ]
       refine fg_one 6 (by kernel_rfl) ?_
       refine fg_pure (.pointer (some ⟨wc.heap.size, 6, none⟩)) rfl rfl rfl (fun w => by go_simp) ?_
       simp only [Act.put, List.setIfInBounds_toArray, List.set_cons_zero, List.set_cons_succ]
       refine fg_one 7 (by kernel_rfl) ?_
       refine fg_effN rfl rfl rfl (fun w1 hw1 => ?_)
       obtain ⟨ho9, m8, mg⟩ := hw1
       have t0 : w1.cell? ⟨wc.heap.size, 6, none⟩ = some (.slice vA vn vc) := (@block_cells _ _ 6 _ _ m8).trans rfl
       have t1 : w1.frozen? ⟨wc.heap.size, 6, none⟩ = false := @block_frozen _ _ 6 _ _ m8
       haveI oA0 : Old wc.heap.size w1 := m8.old
       have hrun : (storeVar 49 ⟨wc.heap.size, 6, none⟩ (.slice A2 n2 c2')).run Try.prog w1 = .ok () (w1.setCell ⟨wc.heap.size, 6, none⟩ (.slice A2 n2 c2')) := by go_simp
       refine effAt_storeG rfl rfl rfl hrun ⟨⟨fun w2 => OwnN bE wc.heap.size w2 (.slice A2 n2 c2') (datN d l b (j + 1)) ∧ BlockAt w2 wc.heap.size #[.int .i64 5, .int .u64 r, .int .u64 0, .int .i64 0, .int .i64 (b : Int), .int .i64 0, .slice A2 n2 c2'] 51 ∧ Gr wc w2, false, fun e => Bool.noConfusion e, fun e => Bool.noConfusion e⟩, ⟨ho9.set_ wc.heap.size 6 _ (by decide), ?h8, Gr.of (mg.below.setCell (p := ⟨wc.heap.size, 6, none⟩) (by show wc.heap.size ≤ wc.heap.size; omega) _)⟩, fun _ e => Bool.noConfusion e, ?_⟩
       case h8 =>
        show BlockAt _ wc.heap.size (#[.int .i64 5, .int .u64 r, .int .u64 0, .int .i64 0, .int .i64 (b : Int), .int .i64 0, .slice vA vn vc].setIfInBounds 6 (.slice A2 n2 c2')) _
        infer_instance
       clear ho9 m8 mg t0 t1 hrun oA0 w1
       refine fg_end (by kernel_rfl) (fun w5 hw5 => ?_)
       have HFIN := Lib.hid hw5
       clear hw5
       try simp only [Act.put]
       go_wp2
       go_roundw
       case rel => exact ⟨j + 1, A2, n2, c2', by omega, by go_num, HFIN.out.1, HFIN.out.2.1, HFIN.out.2.2⟩
       case measure => simp [intOf]; omega
      ·obtain rfl : j = n := by omega
       go_wp2_with (first | (at_builtin; refine wp_append_n opIs rfl _ _ rfl rfl (HO.out.gr gri) _ 0 [(⟨⟨5, r, 0, 0, (b : Int) * 4, 0, datN d l b j⟩, vA, vn, vc⟩ : OpC)] 1 1 rfl rfl (fun _ _ => trivial) (CellsN.block _ inferInstance rfl) (by simp; omega) past (by simp) ?_; intro v1 W1 h1; have H1 := Lib.hid h1; clear h1))
       go_roundw
       case rel => exact ⟨b + j, zs ++ [⟨⟨5, r, 0, 0, (b : Int) * 4, 0, datN d l b j⟩, vA, vn, vc⟩], HR2.out.most, by go_num, H1.out.own, by rw [List.map_append]; exact HAT2.out, fun z hz => (by
        rcases List.mem_append.1 hz with hz | hz
        ·exact ((HZ.out z hz).gr gri).keepA H1.out
        ·rw [List.mem_singleton] at hz; subst hz; exact ⟨(OwnN.keepX ((HO5.out.set_ wc.heap.size 4 (.int .i64 ((b : Int) * 4)) (by decide)).gr gri) H1.out (by decide)).more past⟩), by rw [List.length_append, List.length_singleton]; have := HR2.out.one; omega, by haveI := H1.out.grc W5 (Nat.le_refl _); exact gri⟩
       case measure => simp [intOf]; omega
    ·have HAT2 := Lib.hid (show AtRun d l r need N (b + n) (zs.map (·.o) ++ [⟨6, r, 0, 0, (b : Int) * 4, (n : Int) * 4, []⟩]) from by rw [Int.mul_comm (b : Int) 4, Int.mul_comm (n : Int) 4]; exact HAT2.out)
     go_wp2_with (first | (at_builtin; refine wp_append_n opIs rfl _ _ rfl rfl (HO.out.gr gri) _ 0 [(⟨⟨6, r, 0, 0, (b : Int) * 4, (n : Int) * 4, []⟩, none, 0, 0⟩ : OpC)] 1 1 rfl rfl (fun _ _ => trivial) (CellsN.block _ inferInstance rfl) (by simp; omega) past (by simp) ?_; intro v1 W1 h1; have H1 := Lib.hid h1; clear h1))
     go_roundw
     case rel => exact ⟨b + n, zs ++ [⟨⟨6, r, 0, 0, (b : Int) * 4, (n : Int) * 4, []⟩, none, 0, 0⟩], HR2.out.most, by go_num, H1.out.own, by rw [List.map_append]; exact HAT2.out, fun z hz => (by
      rcases List.mem_append.1 hz with hz | hz
      ·exact ((HZ.out z hz).gr gri).keepA H1.out
      ·rw [List.mem_singleton] at hz; subst hz; exact ⟨OwnN.nil _ _⟩), by rw [List.length_append, List.length_singleton]; have := HR2.out.one; omega, by haveI := H1.out.grc W5 (Nat.le_refl _); exact gri⟩
     case measure => simp [intOf]; omega
    ·have HAT2 := Lib.hid (show AtRun d l r need N (b + n) (zs.map (·.o) ++ [⟨7, r, 0, 0, (b : Int), (n : Int), []⟩]) from HAT2.out)
     go_wp2_with (first | (at_builtin; refine wp_append_n opIs rfl _ _ rfl rfl (HO.out.gr gri) _ 0 [(⟨⟨7, r, 0, 0, (b : Int), (n : Int), []⟩, none, 0, 0⟩ : OpC)] 1 1 rfl rfl (fun _ _ => trivial) (CellsN.block _ inferInstance rfl) (by simp; omega) past (by simp) ?_; intro v1 W1 h1; have H1 := Lib.hid h1; clear h1))
     go_roundw
     case rel => exact ⟨b + n, zs ++ [⟨⟨7, r, 0, 0, (b : Int), (n : Int), []⟩, none, 0, 0⟩], HR2.out.most, by go_num, H1.out.own, by rw [List.map_append]; exact HAT2.out, fun z hz => (by
      rcases List.mem_append.1 hz with hz | hz
      ·exact ((HZ.out z hz).gr gri).keepA H1.out
      ·rw [List.mem_singleton] at hz; subst hz; exact ⟨OwnN.nil _ _⟩), by rw [List.length_append, List.length_singleton]; have := HR2.out.one; omega, by haveI := H1.out.grc W5 (Nat.le_refl _); exact gri⟩
     case measure => simp [intOf]; omega
  ·have : b = N := by omega
   subst this
   have HFN := Lib.hid (atRun_end d l r need HAT.out)
   go_wp2
   go_ret
   exact ⟨_, zs, rfl, (HO.out.gr gri).more HW5.out, HFN.out.symm, fun z hz => ⟨((HZ.out z hz).own.gr gri).more HW5.out⟩, HG5.out.trans (HG.out.trans gri)⟩
theorem made_at (base D : Nat) (d : Dev) (b l r : Int) (N : Nat) (w : World) (h : DevAt base w D d) (hN9 : N ≤ 1000) : MadeAt w.heap.size D d b l r N w := by
 intro W P1 P2 P3 P4 P5 hW h1 h2 h4 h5 x3
 refine (dmade_any base D d (needK d b l r) l r N ⟨P1, 0, none⟩ ⟨P2, 0, none⟩ ⟨P3, 0, none⟩ ⟨P4, 0, none⟩ ⟨P5, 0, none⟩ W (h.gr hW) hN9 fun W' i hW' => ?_).mono ?_
 ·exact @lay2_any base D P1 P2 P3 P4 P5 d b l r i W' (h.gr (hW.trans hW')) (h1.gr hW') (h2.gr hW') (h4.gr hW') (h5.gr hW') ((hW'.below.cell (p := ⟨P3, 0, none⟩) (old_of_cell x3).lt).trans x3)
 ·rintro e w' ⟨v, zs, rfl, ho, hm, hz, hg⟩
  exact ⟨v, zs, rfl, ho.more hW.below.size, hm, fun z h => ⟨(hz z h).own.more hW.below.size⟩, hg⟩
theorem dlay_all (base D : Nat) (d : Dev) (b l r : Int) (N : Nat) (w : World) (h : DevAt base w D d) (hc : chkK d [b, l, r] = 0) (hN : sizeK d b = N) (hs2 : sizeK d l = N) (hs3 : sizeK d r = N) (hN9 : N ≤ 1000) :
  Calls Try.prog 7 #[.pointer (some ⟨D, 0, none⟩), .int .u64 b, .int .u64 l, .int .u64 r] w (LPost w ((foldG (genP d b l r) N).1, clashP d b l r N, true)) :=
 dlay_any base D d b l r N w h hc hN hs2 hs3 hN9 (made_at base D d b l r N w h hN9)
end Go.Proofs.Ytipeblmgochdfaa
