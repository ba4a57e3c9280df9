/- The reference of layer 29: Kind, Check. Conditions: the device stands in memory. The reference's Rows. Conditions: the device stands in memory. wire.low, wire.width: a number's four low bytes behind a slice of bytes. Conditions: the slice is the call's own. A loop over a map whose keys are integers, inside a fence: its start, its step. Conditions: none. maps.Keys at a map whose keys are integers: the iterator's contract. Conditions: the map stands in memory. maps.Keys at a map of blocks: the iterator's contract. Conditions: the map stands in memory. Plain: rows that are turned about in a range, and are sorted. Conditions: none. A region that draws its order, in which operations that read nothing float anywhere. Conditions: each step is known. A row of numbers that is sorted in place; cmp.Less. Conditions: the row stands in memory, at most 10^6 elements. slices.AppendSeq of nil over maps.Keys of a map of volumes. Conditions: the map stands in memory; at most a million keys. A row of numbers that is sorted in place; cmp.Less. Conditions: the row stands in memory, at most 10^6 elements. slices.AppendSeq of nil over maps.Keys of a map of blocks. Conditions: the map stands in memory; at most a million keys. -/
import Derived.Test.YtipeblmgochdfaaGreatR05
import Derived.Test.YtipeblmgochdfaaGreatR12
import Derived.Test.YtipeblmgochdfaaGreatR07
import Derived.Sort.MapsRangeIn
import Derived.Test.YtipeblmgochdfaaGreatR01
import Derived.RangeFuncNested
import Derived.RangeFuncBound
import Derived.RangeFuncCalls
import Derived.RangeFuncLeaves
import Derived.Shelf.Abstract
import Derived.Shelf.RegionOpen
import Derived.OwnWalkIn
import Derived.TacticsInMore
import Derived.LoopNIn
import Derived.LoopIn
import Derived.RangeFuncFrom
import Derived.Lib.Hide
import Derived.Test.YtipeblmgochdfaaGreatR02
namespace Go.Proofs.YtipeblmgochdfaaGreat
open Go.RowKit
set_option linter.unusedVariables false
set_option linter.unusedSimpArgs false
set_option linter.unnecessarySimpa false
set_option maxRecDepth 100000
set_option maxHeartbeats 4000000
theorem besK_cases (x y : Option Byt) : besK x y = if x.isSome = false ∧ y.isSome = false then 1 else if y.isSome = false then 5 else if x.isSome = false then 6 else if x.getD zB = y.getD zB then 3 else 4 := by
 cases x <;> cases y <;> simp [besK]
theorem wpStoreBH {w0 W : World} {ops : Array Oper} {rest : List Oper} {o : Oper} {a : Act} {Q : Exit → Act → World → Prop} (hg : Gr w0 W) (hgd : o.guard = none) (x y : Operand) (ho : o.op = .store 88 x y) (B : Nat) (zs cs : Array Value) (hx : a.eval x = .pointer (some ⟨B, 0, none⟩)) (hy : a.eval y = .agg cs) (hB : BlockAt W B zs 88) (hb : w0.heap.size ≤ B) (hz : CellRow 256 zs) (hc : CellRow 256 cs)
  (h : ∀ g : Growth w0, BlockAt (grown w0 g) B cs 88 → wpList Tryz.prog ops Q rest (a.put o.dst undef) (grown w0 g)) : wpList Tryz.prog ops Q (o :: rest) a W := by
 refine wpStoreB hgd x y ho B zs cs hx hy hB hz hc ?_
 have hG : Gr w0 (W.setRow B cs) := Gr.of (hg.below.trans ⟨rfl, rfl, rfl, by simp [World.setRow], fun k hk => by
  simp only [World.setRow, Array.getElem?_modify]
  rw [if_neg (by omega)]⟩)
 have hB2 : BlockAt (W.setRow B cs) B cs 88 := ⟨setRow_heap W B zs _ _ _ hB.eq⟩
 obtain ⟨g, e⟩ := hG
 rw [e] at hB2 ⊢
 exact h g hB2
theorem rkind_any (base R : Nat) (d : Dev) (i j : Nat) (pi pj : Int × VolM) (hi : d[i]? = some pi) (hj : d[j]? = some pj) (b : Int) (w : World) (h : RefAt base w R d) :
  Calls Tryz.prog 49 #[.pointer (some ⟨R, 0, none⟩), .int .i64 (i : Int), .int .i64 (j : Int), .int .i64 b] w fun e w' => e = .returned (.int .i64 (besK (getK pi.2.2 b) (getK pj.2.2 b))) ∧ Gr w w' := by
 obtain ⟨v, vf, h⟩ := h
 have hne : d ≠ [] := by rintro rfl; simp at hi
 obtain ⟨g, c, rfl, hbg, hgl, hgR, hc1, hc2, hty, hcl⟩ := h.form hne
 have hil : i < d.length := (List.getElem?_eq_some_iff.1 hi).1
 have hjl : j < d.length := (List.getElem?_eq_some_iff.1 hj).1
 have hm9 : d.length ≤ maxLen := Nat.le_trans hc1 hc2
 unfold maxLen at hm9
 have x0 : w.cell? ⟨R, 0, none⟩ = some (.slice (some ⟨g, 0, none⟩) d.length c) := (@block_cells _ _ 0 _ _ h.blk).trans rfl
 haveI : Old R w := h.blk.old
 haveI : Old g w := ⟨hgl⟩
 have ci := (hcl i _ hi).2.2
 have cj := (hcl j _ hj).2.2
 have hbi := h.vol _ (List.mem_of_getElem? hi)
 have hbj := h.vol _ (List.mem_of_getElem? hj)
 have H1 := Lib.hid (fun W (hW : Gr w W) => rget_any g (i * 3) (vf pi.1) pi.2.2 b W ((hW.below.cell (p := ⟨g, i * 3 + 2, none⟩) hgl).trans ci) (hbi.gr hW))
 have H2 := Lib.hid (fun W (hW : Gr w W) => rget_any g (j * 3) (vf pj.1) pj.2.2 b W ((hW.below.cell (p := ⟨g, j * 3 + 2, none⟩) hgl).trans cj) (hbj.gr hW))
 have hok1 := h.ok.vols _ (List.mem_of_getElem? hi)
 have hok2 := h.ok.vols _ (List.mem_of_getElem? hj)
 have l1 : ((getK pi.2.2 b).getD zB).length = 256 := by
  cases hg : getK pi.2.2 b with
  | none => exact zB_len
  | some B => exact hok1.len _ ((getK_mem hok1.sort).1 hg)
 have l2 : ((getK pj.2.2 b).getD zB).length = 256 := by
  cases hg : getK pj.2.2 b with
  | none => exact zB_len
  | some B => exact hok2.len _ ((getK_mem hok2.sort).1 hg)
 have HE := fun W => eqBlk _ _ l1 l2 W
 have HK := Lib.hid (besK_cases (getK pi.2.2 b) (getK pj.2.2 b))
 haveI := bkC_row l1
 haveI := bkC_row l2
 obtain ⟨r, hr⟩ : ∃ r, r = besK (getK pi.2.2 b) (getK pj.2.2 b) := ⟨_, rfl⟩
 rw [← hr] at HK ⊢
 generalize (getK pi.2.2 b).isSome = s1 at *
 generalize (getK pj.2.2 b).isSome = s2 at *
 generalize (getK pi.2.2 b).getD zB = B1 at *
 generalize (getK pj.2.2 b).getD zB = B2 at *
 generalize d.length = N at *
 clear hr hcl ci cj hbi hbj hok1 hok2 l1 l2 h hi hj hne
 cases s1 <;> cases s2
 all_goals
  rcases Bool.eq_false_or_eq_true (B1 == B2) with hq | hq
 all_goals
  have HQ := Lib.hid hq
  go_enter Tryz.func49, Tryz.ntmps49
  go_wp2_with (first | (go_at_call 55; ((with_reducible refine (H1.out _ gri).mono ?_); rintro _ _ ⟨rfl, g1, rfl⟩)) | (go_at_call 55; ((with_reducible refine (H2.out _ gri).mono ?_); rintro _ _ ⟨rfl, g2, rfl⟩)) | (refine wpStoreBH (w0 := grown w g8) gri rfl _ _ rfl _ _ _ rfl rfl inferInstance (Past.le (a := grown w g8)) inferInstance inferInstance ?_; intro g9 hB9; haveI := hB9; haveI := hB9.old) | (refine wpStoreBH (w0 := w) gri rfl _ _ rfl _ _ _ rfl rfl inferInstance (Past.le (a := w)) inferInstance inferInstance ?_; intro g8 hB8; haveI := hB8; haveI := hB8.old) | (refine wpLoadB rfl _ rfl _ _ rfl inferInstance inferInstance ?_))
  go_ret
  exact ⟨by have h9 := HK.out; have h8 := HQ.out; simp only [beq_iff_eq, beq_eq_false_iff_ne, ne_eq] at h8; simp [h8] at h9; rw [h9]; rfl, gri⟩
theorem idx_neg (d : Dev) (v : Int) : decide (idxK d v < 0) = !(getK d v).isSome := by
 cases h : getK d v with
 | none => rw [idx_none (findN_none.2 h)]; rfl
 | some x =>
  cases hf : findN d v with
  | none => rw [findN_none, h] at hf; cases hf
  | some i => rw [idx_some hf]; simp
theorem rcheck_any (base R : Nat) (d : Dev) (l : List Int) (b p n c : Nat) (w : World) (h : RefAt base w R d) (hd9 : d.length ≤ 1000000) (hl : l.length = n) (hn : n ≤ 1000) (hb : b < w.heap.size) (hnc : n ≤ c) (hc : ∀ (j : Nat) x, l[j]? = some x → w.cell? ⟨b, p + j, none⟩ = some (.int .u64 x)) :
  Calls Tryz.prog 47 #[.pointer (some ⟨R, 0, none⟩), .slice (some ⟨b, p, none⟩) n c] w fun e w' => e = .returned (.int .i64 (chkK d l)) ∧ Gr w w' := by
 have HL := Lib.hid hl
 have HC := Lib.hid hc
 have HF := Lib.hid (fun W (hW : Gr w W) x => rfind_any base R d x W (h.gr hW) hd9)
 haveI : Old b w := ⟨hb⟩
 obtain ⟨r, hr⟩ : ∃ r, r = chkK d l := ⟨_, rfl⟩
 rw [← hr]
 have HR := Lib.hid hr
 clear hl hc h hr
 go_enter Tryz.func47, Tryz.ntmps47
 go_wp2
 go_loopw [5] (fun i wr => ∃ k : Nat, k ≤ n ∧ i = .int .i64 (k : Int) ∧ (l.take k).Nodup ∧ Gr w wr) (fun i _ => n - (intOf i).toNat)
 case atStart => exact ⟨0, Nat.zero_le _, rfl, List.nodup_nil, gri⟩
 case round =>
  obtain ⟨k, hk, rfl, hnd, hg⟩ := hrel
  obtain ⟨g, rfl⟩ := hg
  have HN := Lib.hid hnd; clear hnd
  by_cases hlt : k < n
  ·obtain ⟨x, hx⟩ : ∃ x, l[k]? = some x := ⟨_, List.getElem?_eq_getElem (by rw [HL.out]; exact hlt)⟩
   have c1 := HC.out k x hx
   have HX := Lib.hid hx; clear hx
   go_wp2
   go_loopw [6] (fun i wr => ∃ j : Nat, j ≤ k ∧ i = .int .i64 (j : Int) ∧ (x ∉ l.take j) ∧ Gr w wr) (fun i _ => k - (intOf i).toNat)
   case atStart => exact ⟨0, Nat.zero_le _, rfl, by simp, gri⟩
   case round =>
    obtain ⟨j, hj, rfl, hnx, hg2⟩ := hrel
    obtain ⟨g2, rfl⟩ := hg2
    have HNX := Lib.hid hnx; clear hnx
    by_cases hlt2 : j < k
    ·obtain ⟨y, hy⟩ : ∃ y, l[j]? = some y := ⟨_, List.getElem?_eq_getElem (by rw [HL.out]; omega)⟩
     have c2 := HC.out j y hy
     have HY := Lib.hid hy; clear hy
     by_cases hq : x = y
     ·have hd := not_nodup hlt2 HY.out (by rw [← hq]; exact HX.out)
      have HDU := Lib.hid (chkK_dup (d := d) hd)
      have hb : (x == y) = true := by simpa using hq
      clear hd hq
      go_wp2
      refine wp_region_grow (by kernel_rfl) (by kernel_rfl) ?_
      repeat (go_big_quiet_step (fail))
      refine wpQuiet_nil ?_
      intro g3
      go_wp2
      go_ret
      exact ⟨by rw [HR.out, HDU.out]; rfl, gri⟩
     ·have hb : (x == y) = false := by simpa using hq
      have HQ := Lib.hid hq; clear hq
      go_wp2
      refine wp_region_grow (by kernel_rfl) (by kernel_rfl) ?_
      repeat (go_big_quiet_step (fail))
      refine wpQuiet_nil ?_
      intro g3
      go_wp2
      go_roundw
      case rel => exact ⟨j + 1, by omega, by go_num, notin_snoc HNX.out HY.out (fun e => HQ.out e.symm), gri⟩
      case measure => simp [intOf]; omega
    ·have : j = k := by omega
     subst this
     go_wp2
     go_roundw
     case rel => exact ⟨j + 1, by omega, by go_num, nodup_snoc HN.out HNX.out HX.out, gri⟩
     case measure => simp [intOf]; omega
  ·have : k = n := by omega
   subst this
   have hnd : l.Nodup := by have := HN.out; rwa [List.take_of_length_le (by rw [HL.out]; omega)] at this
   have HND := Lib.hid hnd; clear hnd
   go_wp2
   go_loopw [7] (fun i wr => ∃ j : Nat, j ≤ k ∧ i = .int .i64 (j : Int) ∧ (∀ x ∈ l.take j, (getK d x).isSome = true) ∧ Gr w wr) (fun i _ => k - (intOf i).toNat)
   case atStart => exact ⟨0, Nat.zero_le _, rfl, by simp, gri⟩
   case round =>
    obtain ⟨j, hj, rfl, hal, hg2⟩ := hrel
    obtain ⟨g2, rfl⟩ := hg2
    have HA := Lib.hid hal; clear hal
    by_cases hlt : j < k
    ·obtain ⟨x, hx⟩ : ∃ x, l[j]? = some x := ⟨_, List.getElem?_eq_getElem (by rw [HL.out]; exact hlt)⟩
     have c1 := HC.out j x hx
     have HX := Lib.hid hx; clear hx
     have hneg := idx_neg d x
     have HF2 := Lib.hid (fun W hW => HF.out W hW x)
     generalize idxK d x = ix at *
     cases hs : (getK d x).isSome
     ·have HM := Lib.hid (chkK_miss HND.out HX.out hs)
      rw [hs] at hneg
      simp only [Bool.not_false] at hneg
      clear hs
      go_wp2_with ((go_at_call 24; ((with_reducible refine (HF2.out _ gri).mono ?_); rintro _ _ ⟨rfl, g1, rfl⟩)))
      go_ret
      exact ⟨by rw [HR.out, HM.out]; rfl, gri⟩
     ·have HS := Lib.hid hs
      rw [hs] at hneg
      simp only [Bool.not_true] at hneg
      clear hs
      go_wp2_with ((go_at_call 24; ((with_reducible refine (HF2.out _ gri).mono ?_); rintro _ _ ⟨rfl, g1, rfl⟩)))
      go_roundw
      case rel => exact ⟨j + 1, by omega, by go_num, by
       intro z hz
       rw [take_one HX.out] at hz
       rcases List.mem_append.1 hz with hz | hz
       ·exact HA.out z hz
       ·rw [List.mem_singleton] at hz; subst hz; exact HS.out, gri⟩
      case measure => simp [intOf]; omega
    ·have : j = k := by omega
     subst this
     have e : l.take j = l := List.take_of_length_le (by rw [HL.out]; omega)
     have HZ := Lib.hid (chkK_ok HND.out (fun x hx => HA.out x (by rw [e]; exact hx)))
     clear e
     go_wp2
     go_ret
     exact ⟨by rw [HR.out, HZ.out]; rfl, gri⟩
set_option maxRecDepth 100000
set_option maxHeartbeats 4000000
theorem chk0 {d : Dev} {l : List Int} (h : chkK d l = 0) {x : Int} (hx : x ∈ l) : (getK d x).isSome = true := by
 unfold chkK at h
 split at h
 ·split at h
  ·next h2 => exact List.all_eq_true.1 h2 x hx
  ·cases h
 ·cases h
theorem find_get {β : Type} {l : List (Int × β)} {n : Int} (h : (getK l n).isSome = true) : ∃ i x, findN l n = some i ∧ l[i]? = some (n, x) ∧ getK l n = some x := by
 cases hf : findN l n with
 | none =>
  exfalso
  rw [findN_none] at hf
  rw [hf] at h; cases h
 | some i =>
  obtain ⟨x, h1, h2⟩ := findN_some hf
  exact ⟨i, x, rfl, h1, h2⟩
theorem OwnN.rowG {α : Type} {e : EK α} (he : e.Is) {base : Nat} {W : World} {v : Value} {xs : List α} (h : OwnN e base W v xs) : ∃ A c, v = .slice A xs.length c ∧ (A = none → c = 0) ∧ xs.length ≤ c ∧ RowN e W A xs := by
 obtain ⟨A, c, rfl, h1, _, h2⟩ := h.form he
 refine ⟨A, c, rfl, fun e => ?_, h1, h2⟩
 subst e
 rcases h.own.2 with ⟨e, _⟩ | ⟨b, cap, cur, e, _⟩
 ·simp only [Value.slice.injEq] at e; exact e.2.2
 ·simp only [Value.slice.injEq] at e; cases e.1
theorem check2 (base R : Nat) (d : Dev) (l r : Int) (w : World) (h : RefAt base w R d) (hd9 : d.length ≤ 1000000) (bb : Nat) (hB : BlockAt w bb #[.int .u64 l, .int .u64 r] 28) :
  Calls Tryz.prog 47 #[.pointer (some ⟨R, 0, none⟩), .slice (some ⟨bb, 0, none⟩) 2 2] w fun e w' => e = .returned (.int .i64 (chkK d [l, r])) ∧ Gr w w' :=
 rcheck_any base R d [l, r] bb 0 2 2 w h hd9 rfl (by omega) hB.lt (by omega) (fun j x hx => by
  match j, hx with
  | 0, hx => cases hx; exact (@block_cells _ _ 0 _ _ hB).trans rfl
  | 1, hx => cases hx; exact (@block_cells _ _ 1 _ _ hB).trans rfl
  | k + 2, hx => simp at hx)
theorem rrows_bad (base R : Nat) (d : Dev) (l r : Int) (w : World) (h : RefAt base w R d) (hd9 : d.length ≤ 1000000) (hc : chkK d [l, r] ≠ 0) :
  Calls Tryz.prog 16 #[.pointer (some ⟨R, 0, none⟩), .int .u64 l, .int .u64 r] w (RwPost d l r w) := by
 have HC := Lib.hid (fun W (hW : Gr w W) (bb : Nat) hB => check2 base R d l r W (h.gr hW) hd9 bb hB)
 have hne : (chkK d [l, r] != 0) = true := by simpa using hc
 have HRW := Lib.hid (show rowsK d l r = [] from if_neg hc)
 unfold RwPost
 generalize chkK d [l, r] = k at *
 clear h hc
 go_enter Tryz.func16, Tryz.ntmps16
 go_wp2_with ((go_at_call 47; ((with_reducible refine (HC.out _ gri _ inferInstance).mono ?_); rintro _ _ ⟨rfl, g1, rfl⟩)))
 go_ret2
 exact ⟨_, rfl, by rw [HRW.out]; exact OwnN.nil _ _, gri⟩
theorem rrows_good (base R : Nat) (d : Dev) (l r : Int) (w : World) (h : RefAt base w R d) (hd9 : d.length ≤ 1000000) (hc : chkK d [l, r] = 0) :
  Calls Tryz.prog 16 #[.pointer (some ⟨R, 0, none⟩), .int .u64 l, .int .u64 r] w (RwPost d l r w) := by
 have hok : DevOk d := by obtain ⟨v, vf, h⟩ := h; exact h.ok
 have HC := Lib.hid (fun W (hW : Gr w W) (bb : Nat) hB => check2 base R d l r W (h.gr hW) hd9 bb hB)
 have HF := Lib.hid (fun W (hW : Gr w W) x => rfind_any base R d x W (h.gr hW) hd9)
 rw [hc] at HC
 obtain ⟨i1, x1, f1, e1, k1⟩ := find_get (chk0 hc (x := l) (by simp))
 obtain ⟨i2, x2, f2, e2, k2⟩ := find_get (chk0 hc (x := r) (by simp))
 have q1 := idx_some f1
 have q2 := idx_some f2
 have FL := Lib.hid (fun W (hW : Gr w W) => HF.out W hW l)
 have FR := Lib.hid (fun W (hW : Gr w W) => HF.out W hW r)
 rw [q1] at FL
 rw [q2] at FR
 clear HF
 have HK := Lib.hid (fun W (hW : Gr w W) (b : Int) => rkind_any base R d i1 i2 _ _ e1 e2 b W (h.gr hW))
 have hkk : ∀ b : Int, besK (getK x1.2 b) (getK x2.2 b) = kindK d l r b := fun b => by unfold kindK blkK; rw [k1, k2]; rfl
 have HKK := Lib.hid hkk
 obtain ⟨v, vf, h⟩ := h
 have hne : d ≠ [] := by rintro rfl; simp at e1
 obtain ⟨g, c, rfl, hbg, hgl, hgR, hc1, hc2, hty, hcl⟩ := h.form hne
 have hm9 : d.length ≤ maxLen := Nat.le_trans hc1 hc2
 unfold maxLen at hm9
 have L1 : i1 < d.length := (List.getElem?_eq_some_iff.1 e1).1
 have L2 : i2 < d.length := (List.getElem?_eq_some_iff.1 e2).1
 have z0 : w.cell? ⟨R, 0, none⟩ = some (.slice (some ⟨g, 0, none⟩) d.length c) := (@block_cells _ _ 0 _ _ h.blk).trans rfl
 haveI : Old R w := h.blk.old
 haveI : Old g w := ⟨hgl⟩
 have z1 := (hcl i1 _ e1).2.1
 have z2 := (hcl i2 _ e2).2.1
 have V1 := hok.vols _ (List.mem_of_getElem? e1)
 have V2 := hok.vols _ (List.mem_of_getElem? e2)
 obtain ⟨s1, m1⟩ := x1
 obtain ⟨s2, m2⟩ := x2
 have hs10 : 0 ≤ s1 := V1.s0
 have hs11 : s1 ≤ 256 := V1.s1
 have hs20 : 0 ≤ s2 := V2.s0
 have hs21 : s2 ≤ 256 := V2.s1
 simp only at z1 z2
 have hmx : maxK d l r = max s1.toNat s2.toNat := by unfold maxK sizeK; rw [k1, k2]; rfl
 have HRW := Lib.hid (show rowsK d l r = strK (fun b => kindK d l r b) (maxK d l r) from if_pos hc)
 rw [hmx] at HRW
 have HC0 := Lib.hid hc
 clear h hc hc2 hcl hty e1 e2 f1 f2 k1 k2 q1 q2 hkk hmx V1 V2 hne
 unfold RwPost
 rw [HC0.out, HRW.out]
 clear HRW HC0
 obtain ⟨F, hF⟩ : ∃ F : Nat → Int, F = fun b : Nat => kindK d l r (b : Int) := ⟨_, rfl⟩
 have HK2 := Lib.hid (fun W (hW : Gr w W) (b : Nat) => HK.out W hW b)
 have hK3 : ∀ b : Nat, besK (getK m1 (b : Int)) (getK m2 (b : Int)) = F b := fun b => by rw [hF]; exact HKK.out b
 simp only [hK3] at HK2
 rw [← hF]
 clear HK HKK hK3 hF
 have g0 : w.heap.size ≤ w.heap.size := Nat.le_refl _
 go_enter Tryz.func16, Tryz.ntmps16
 go_wp2_with (first | (go_at_call 47; ((with_reducible refine (HC.out _ gri _ inferInstance).mono ?_); rintro _ _ ⟨rfl, g1, rfl⟩)) | (go_at_call 24; ((with_reducible refine (FL.out _ gri).mono ?_); rintro _ _ ⟨rfl, g2, rfl⟩)) | (go_at_call 24; ((with_reducible refine (FR.out _ gri).mono ?_); rintro _ _ ⟨rfl, g3, rfl⟩)))
 go_loopw [11, 12] (fun v11 v12 wr => ∃ b : Nat, b ≤ max s1.toNat s2.toNat ∧ v12 = .int .i64 (b : Int) ∧ OwnN strE w.heap.size wr v11 (strK F b) ∧ Gr w wr) (fun _ v _ => max s1.toNat s2.toNat - (intOf v).toNat)
 case atStart => exact ⟨0, Nat.zero_le _, rfl, OwnN.nil _ _, gri⟩
 case round =>
  obtain ⟨b, hb, rfl, ho, hg⟩ := hrel
  haveI := grc_of hg
  haveI := from_of hg
  have HG := Lib.hid hg
  have HO := Lib.hid ho
  have y0 : wr.cell? ⟨R, 0, none⟩ = _ := (hg.below.cell (p := ⟨R, 0, none⟩) Old.lt).trans z0
  have y1 : wr.cell? ⟨g, i1 * 3 + 1, none⟩ = _ := (hg.below.cell (p := ⟨g, i1 * 3 + 1, none⟩) hgl).trans z1
  have y2 : wr.cell? ⟨g, i2 * 3 + 1, none⟩ = _ := (hg.below.cell (p := ⟨g, i2 * 3 + 1, none⟩) hgl).trans z2
  haveI : Old R wr := old_of_cell y0
  haveI : Old g wr := old_of_cell y1
  clear hg ho
  by_cases hlt : (b : Int) < s1
  ·have hd1 : decide ((b : Int) < s1) = true := decide_eq_true hlt
   have HK3 := Lib.hid (fun W (hW : Gr wr W) => HK2.out W (HG.out.trans hW) b)
   obtain ⟨A, c3, hv, hnn, hnc, hrw⟩ := HO.out.rowG strIs
   subst hv
   have HNN := Lib.hid hnn
   have HNC := Lib.hid hnc
   have HRW := Lib.hid hrw
   have HLN := Lib.hid (show (strK F b).length ≤ 1000 from by have := strK_len F b; omega)
   have HEA := Lib.hid (show ∀ x ∈ strK F b, 0 ≤ x.2.1 ∧ x.2.1 ≤ 1000 from fun x hx => by have := strK_each F b x hx; omega)
   clear hnn hnc hrw
   go_wp2_with (first | (go_at_call 49; ((with_reducible refine (HK3.out _ gri).mono ?_); rintro _ _ ⟨rfl, g4, rfl⟩)) | (go_at_call 48; ((with_reducible refine (put_any (strK F b) _ rfl HLN.out A c3 HNN.out HNC.out b (F b) HEA.out _ (HRW.out.gr gri)).mono ?_); rintro _ W5 ⟨v5, rfl, hv5, hg5⟩; haveI := grc_of (HG.out.trans (Gr.trans gri hg5)); haveI := from_of (HG.out.trans (Gr.trans gri hg5)); have HV5 := Lib.hid hv5; have HG5 := Lib.hid hg5; clear hv5 hg5)))
   go_roundw
   case rel => exact ⟨b + 1, by omega, by go_num, HV5.out.more past, gri⟩
   case measure => simp [intOf]; omega
  ·have hd1 : decide ((b : Int) < s1) = false := decide_eq_false hlt
   by_cases hlt2 : (b : Int) < s2
   ·have hd2 : decide ((b : Int) < s2) = true := decide_eq_true hlt2
    have HK3 := Lib.hid (fun W (hW : Gr wr W) => HK2.out W (HG.out.trans hW) b)
    obtain ⟨A, c3, hv, hnn, hnc, hrw⟩ := HO.out.rowG strIs
    subst hv
    have HNN := Lib.hid hnn
    have HNC := Lib.hid hnc
    have HRW := Lib.hid hrw
    have HLN := Lib.hid (show (strK F b).length ≤ 1000 from by have := strK_len F b; omega)
    have HEA := Lib.hid (show ∀ x ∈ strK F b, 0 ≤ x.2.1 ∧ x.2.1 ≤ 1000 from fun x hx => by have := strK_each F b x hx; omega)
    clear hnn hnc hrw
    go_wp2_with (first | (go_at_call 49; ((with_reducible refine (HK3.out _ gri).mono ?_); rintro _ _ ⟨rfl, g4, rfl⟩)) | (go_at_call 48; ((with_reducible refine (put_any (strK F b) _ rfl HLN.out A c3 HNN.out HNC.out b (F b) HEA.out _ (HRW.out.gr gri)).mono ?_); rintro _ W5 ⟨v5, rfl, hv5, hg5⟩; haveI := grc_of (HG.out.trans (Gr.trans gri hg5)); haveI := from_of (HG.out.trans (Gr.trans gri hg5)); have HV5 := Lib.hid hv5; have HG5 := Lib.hid hg5; clear hv5 hg5)))
    go_roundw
    case rel => exact ⟨b + 1, by omega, by go_num, HV5.out.more past, gri⟩
    case measure => simp [intOf]; omega
   ·have hd2 : decide ((b : Int) < s2) = false := decide_eq_false hlt2
    obtain rfl : b = max s1.toNat s2.toNat := by omega
    go_wp2
    go_ret2
    exact ⟨_, rfl, HO.out, HG.out⟩
theorem rrows_any (base R : Nat) (d : Dev) (l r : Int) (w : World) (h : RefAt base w R d) (hd9 : d.length ≤ 1000000) :
  Calls Tryz.prog 16 #[.pointer (some ⟨R, 0, none⟩), .int .u64 l, .int .u64 r] w (RwPost d l r w) := by
 by_cases hc : chkK d [l, r] = 0
 ·exact rrows_good base R d l r w h hd9 hc
 ·exact rrows_bad base R d l r w h hd9 hc
set_option maxRecDepth 100000
set_option maxHeartbeats 4000000
theorem width_4 (w : World) : Calls Tryz.prog 107 #[.int .i32 52] w fun e w' => e = .returned (.int .i64 4) ∧ Gr w w' := by
 go_enter Tryz.func107, Tryz.ntmps107
 go_wp2
 go_ret
 exact ⟨rfl, gri⟩
structure LowP (base : Nat) (W : World) (v' : Value) (ys : List UInt8) (W' : World) : Prop where
 own : OwnN bE base W' v' ys
 below : Below base W W'
 size : W.heap.size ≤ W'.heap.size
 block : ∀ k, k < W.heap.size → (∀ cs f, W.heap[k]? ≠ some (.cells cs bE.E f)) → W'.heap[k]? = W.heap[k]?
theorem LowP.start {base : Nat} {W : World} {v : Value} {xs : List UInt8} (h : OwnN bE base W v xs) : LowP base W v xs W := ⟨h, Below.refl _ _, Nat.le_refl _, fun _ _ _ => rfl⟩
theorem LowP.app {base : Nat} {W W1 W2 W3 : World} {v v' : Value} {ys zs : List UInt8} (h : LowP base W v ys W1) (g : Gr W1 W2) (hb : base ≤ W.heap.size) (a : AppN bE base W2 v ys zs v' W3) : LowP base W v' (ys ++ zs) W3 := by
 have g1 := g.below.size
 have s1 := h.size
 refine ⟨a.own, (h.below.trans (g.below.mono (by omega))).trans a.below, by have := a.size; omega, fun k hk hc => ?_⟩
 have e1 := h.block k hk hc
 have e2 : W2.heap[k]? = W.heap[k]? := (g.below.block k (by omega)).trans e1
 exact (a.block k (by omega) (fun cs f => by rw [e2]; exact hc cs f)).trans e2
theorem LowP.gr {base : Nat} {W W1 W2 : World} {v : Value} {ys : List UInt8} (h : LowP base W v ys W1) (g : Gr W1 W2) (hb : base ≤ W.heap.size) : LowP base W v ys W2 := by
 have g1 := g.below.size
 have s1 := h.size
 exact ⟨h.own.gr g, h.below.trans (g.below.mono (by omega)), by omega, fun k hk hc => (g.below.block k (by omega)).trans (h.block k hk hc)⟩
def leB (n : Int) (k : Nat) : List UInt8 := (List.range k).map fun j => UInt8.ofNat (n / 256 ^ j % 256).toNat
theorem leB_succ (n : Int) (k : Nat) : leB n (k + 1) = leB n k ++ [UInt8.ofNat (n / 256 ^ k % 256).toNat] := by simp [leB, List.range_succ]
theorem low_4 (base : Nat) (v : Value) (xs : List UInt8) (n : Int) (h0 : 0 ≤ n) (hn : n < 4294967296) (w : World) (h : OwnN bE base w v xs) (hb : base ≤ w.heap.size) (hl : xs.length ≤ 10000000) :
  Calls Tryz.prog 106 #[v, .int .u64 n, .int .i64 4] w fun e w' => ∃ v', e = .returned (.tuple #[v', .bool true]) ∧ LowP base w v' (xs ++ leB n 4) w' := by
 have H := Lib.hid h
 have HB := Lib.hid hb
 clear h hb
 go_enter Tryz.func106, Tryz.ntmps106
 go_wp2
 go_loopw [0, 1, 9] (fun v0 v1 v9 wr => ∃ k : Nat, k ≤ 4 ∧ v1 = .int .u64 (n / 256 ^ k) ∧ v9 = .int .i64 (k : Int) ∧ LowP base w v0 (xs ++ leB n k) wr) (fun _ _ v9 _ => 4 - (intOf v9).toNat)
 case atStart => exact ⟨0, by omega, by simp, rfl, by simpa [leB] using LowP.start H.out⟩
 case round =>
  obtain ⟨k, hk, rfl, rfl, hp⟩ := hrel
  have HP := Lib.hid hp
  clear hp
  have hm0 : 0 ≤ n / 256 ^ k := Int.ediv_nonneg h0 (Int.le_of_lt (Int.pow_pos (by omega)))
  obtain ⟨m, hm⟩ : ∃ m, n / 256 ^ k = m := ⟨_, rfl⟩
  rw [hm] at hm0 ⊢
  have hmn : m < 4294967296 := by rw [← hm]; exact Int.lt_of_le_of_lt (Int.ediv_le_self _ h0) hn
  by_cases hlt : k < 4
  ·obtain ⟨y, hy⟩ : ∃ y : UInt8, UInt8.ofNat (m % 256).toNat = y := ⟨_, rfl⟩
   have hcv : IntKind.u8.wrap m = (y.toNat : Int) := by
    rw [← hy]
    simp [IntKind.wrap, IntKind.bits, IntKind.signed]
    omega
   have HE := Lib.hid (show leB n (k + 1) = leB n k ++ [y] by rw [leB_succ, hm, hy])
   have HL : Hid ((xs ++ leB n k).length + 1 ≤ 100000000) := Lib.hid (by simp [leB]; omega)
   have HM := Lib.hid hm
   have HH := Lib.hid hy
   clear hy hm
   have hsz := HP.out.size
   haveI : From w wr := ⟨hsz⟩
   go_wp2_with (first | (at_builtin; refine wp_append_n bIs rfl _ _ rfl rfl (HP.out.own.gr gri) _ 0 [y] 1 1 rfl rfl (fun _ _ => trivial) (CellsN.block _ inferInstance rfl) (by have := HL.out; simp at this ⊢; omega) (by have := HB.out; simp; omega) (by simp) ?_; intro v1 W1 h1; have H1 := Lib.hid (HP.out.app gri HB.out h1); clear h1))
   refine ⟨⟨k + 1, hlt, ?_, by go_num, ?_⟩, by simp [intOf]; omega⟩
   ·rw [← HM.out, Int.pow_succ, Int.ediv_ediv_of_nonneg (Int.le_of_lt (Int.pow_pos (by omega)))]
   ·rw [HE.out, ← List.append_assoc]; exact H1.out
  ·obtain rfl : k = 4 := by omega
   have hm4 : m = 0 := by rw [← hm]; omega
   subst hm4
   go_wp2
   refine bodyPost_ret (v := .tuple #[_, .bool true]) (by simp [results, go_sem]) rfl ⟨_, rfl, HP.out⟩
end Go.Proofs.YtipeblmgochdfaaGreat
namespace Go.Proofs.YtipeblmgochdfaaGreat
open Go.RowKit Go.MapKept
set_option linter.unusedVariables false
set_option linter.unusedSimpArgs false
section
variable {F : Fence} {n : Nat} {P : Program} {W : World} {ops : Array Oper} {rest : List Oper} {o : Oper} {a : Act} {Q : Exit → Act → World → Prop} {q : IntKind} {b r : Nat} {L : List (Int × Value)} {left : Int → Bool} {cnt : Nat} {t kt et : TypeId}
theorem wpListIn_rangeK (hgd : o.guard = none) (m : Operand) (ho : o.op = .range t m) (ht : P.underlying t = some (.map kt et)) (hm : MapAt q W b L) (hm2 : a.eval m = .map (some b))
  (h : ∀ W' cnt, RangeAt q W' b W.heap.size L (fun _ => true) cnt → Gr W W' → wpListIn F n P ops Q rest (a.put o.dst (.pointer (some ⟨W.heap.size, 0, none⟩))) W') : wpListIn F n P ops Q (o :: rest) a W := by
 refine wpListIn_plain hgd fun K hK => ?_
 obtain ⟨W', cnt, hrun, h1, h2⟩ := range_start (P := P) ht hm
 unfold Oper.wpIn
 refine ⟨?_, ?_⟩
 ·simp [Oper.about, ho]
 ·rw [Oper.semAt_plain F _ _ (by rw [ho]; intro c hc; cases hc)]
  simp [execOp, ho, hm2, hrun, Result.andThen]
  exact hK _ _ (h W' cnt h1 h2)
theorem wpListIn_nextK (hgd : o.guard = none) (it : Operand) (ho : o.op = .next it false) (hit : a.eval it = .pointer (some ⟨r, 0, none⟩)) (h : RangeAt q W b r L left cnt)
  (hDone : cnt = 0 → (∀ p ∈ L, left p.1 = false) → wpListIn F n P ops Q rest (a.put o.dst (.tuple #[.bool false])) W)
  (hMore : ∀ (k : Int) (v : Value) (W' : World) (cnt' : Nat), (k, v) ∈ L → left k = true → RangeAt q W' b r L (fun z => left z && z != k) cnt' → cnt' < cnt → OnlyB W W' r → (Instr.entry (.pointer (some ⟨r, 0, none⟩))).run P W' = .ok (.tuple #[.int q k, v]) W' → wpListIn F n P ops Q rest (a.put o.dst (.tuple #[.bool true, .int q k, v])) W') : wpListIn F n P ops Q (o :: rest) a W := by
 refine wpListIn_plain hgd fun K hK => ?_
 unfold Oper.wpIn
 refine ⟨?_, ?_⟩
 ·simp [Oper.about, ho]
 ·rw [Oper.semAt_plain F _ _ (by rw [ho]; intro c hc; cases hc)]
  rcases h.next (P := P) o.type with ⟨h0, hl, hrun⟩ | ⟨k, v, W', cnt', h1, h2, hrun, h3, h4, h5, h6⟩
  ·simp [execOp, ho, hit, hrun, Result.andThen]
   exact hK _ _ (hDone h0 hl)
  ·simp [execOp, ho, hit, hrun, Result.andThen]
   exact hK _ _ (hMore k v W' cnt' h1 h2 h3 h4 h5 h6)
end
end Go.Proofs.YtipeblmgochdfaaGreat
namespace Go.Proofs.YtipeblmgochdfaaGreat
open Go.RowKit Go.Shelf Go.MapKept
set_option linter.unusedVariables false
set_option linter.unusedSimpArgs false
set_option linter.unnecessarySimpa false
set_option maxRecDepth 100000
attribute [local go_sem] Oper.semAt_some
theorem RangeAt.walks {q : IntKind} {W W' : World} {b r : Nat} {L : List (Int × Value)} {left : Int → Bool} {cnt : Nat} (h : RangeAt q W b r L left cnt) (k : KeepsWalks W W') : RangeAt q W' b r L left cnt := by
 obtain ⟨es, clock, since, seen, c0, hb, a1, a2, a3, a4, hr, rest⟩ := h
 exact ⟨es, clock, since, seen, c0, k.same b _ hb rfl, a1, a2, a3, a4, k.same r _ hr rfl, rest⟩
theorem RangeAt.walk {q : IntKind} {W : World} {b r : Nat} {L : List (Int × Value)} {left : Int → Bool} {cnt : Nat} (h : RangeAt q W b r L left cnt) : ∃ o : Obj, W.heap[r]? = some o ∧ o.isWalk = true := by
 obtain ⟨es, clock, since, seen, c0, hb, a1, a2, a3, a4, hr, rest⟩ := h
 exact ⟨_, hr, rfl⟩
theorem gr_grown {W W' : World} (g : Gr W W') : W.grownBy W' none := ⟨g.below.os, g.below.tape, g.below.output, g.below.size, fun k hk _ => g.below.block k hk⟩
structure Col (L : List (Int × Value)) (left : Int → Bool) (ss : List Int) : Prop where
 nd : ss.Nodup
 mem : ∀ k, k ∈ ss ↔ (∃ v, (k, v) ∈ L) ∧ left k = false
theorem Col.start (L : List (Int × Value)) : Col L (fun _ => true) [] := ⟨List.nodup_nil, fun k => by simp⟩
theorem Col.step {L : List (Int × Value)} {left : Int → Bool} {ss : List Int} (h : Col L left ss) {k : Int} {v : Value} (hk : (k, v) ∈ L) (hl : left k = true) : Col L (fun z => left z && z != k) (ss ++ [k]) where
 nd := by
  rw [List.nodup_append]
  refine ⟨h.nd, by simp, fun a ha b hb => ?_⟩
  rw [List.mem_singleton] at hb
  subst hb
  rintro rfl
  have := ((h.mem a).1 ha).2
  rw [hl] at this
  cases this
 mem := fun z => by
  rw [List.mem_append, List.mem_singleton, h.mem z]
  by_cases e : z = k
  ·subst e
   simp
   exact ⟨v, hk⟩
  ·simp [e]
theorem nodup_le : ∀ (a b : List Int), a.Nodup → (∀ x ∈ a, x ∈ b) → a.length ≤ b.length
 | [], b, _, _ => Nat.zero_le _
 | x :: a, b, hn, hs => by
  have h1 := List.nodup_cons.1 hn
  have hx := hs x List.mem_cons_self
  have := nodup_le a (b.erase x) h1.2 (fun y hy => (List.mem_erase_of_ne (fun e => h1.1 (by rw [← e]; exact hy))).2 (hs y (List.mem_cons_of_mem _ hy)))
  rw [List.length_erase_of_mem hx] at this
  have := List.length_pos_of_mem hx
  simp only [List.length_cons]
  omega
theorem keys_nodup {L : List (Int × Value)} (h : SortK L) : (L.map (·.1)).Nodup := by
 rw [List.nodup_iff_pairwise_ne, List.pairwise_map]
 exact h.imp fun h e => by omega
theorem Col.len {L : List (Int × Value)} {left : Int → Bool} {ss : List Int} (h : Col L left ss) : ss.length ≤ L.length := by
 have := nodup_le ss (L.map (·.1)) h.nd fun x hx => by
  obtain ⟨v, hv⟩ := ((h.mem x).1 hx).1
  exact List.mem_map.2 ⟨(x, v), hv, rfl⟩
 rwa [List.length_map] at this
theorem Col.perm {L : List (Int × Value)} {left : Int → Bool} {ss : List Int} (h : Col L left ss) (hs : SortK L) (h0 : ∀ p ∈ L, left p.1 = false) : ss.Perm (L.map (·.1)) := by
 rw [List.perm_ext_iff_of_nodup h.nd (keys_nodup hs)]
 intro k
 rw [h.mem k]
 constructor
 ·rintro ⟨⟨v, hv⟩, _⟩
  exact List.mem_map.2 ⟨(k, v), hv, rfl⟩
 ·intro hk
  obtain ⟨⟨k', v⟩, hp, rfl⟩ := List.mem_map.1 hk
  exact ⟨⟨v, hp⟩, h0 _ hp⟩
set_option maxHeartbeats 2000000 in
theorem keysu_stops (n : Nat) (hn : 1 ≤ n) (Bm b : Nat) (L : List (Int × Value)) (w0 : World) (h1 : BlockAt w0 Bm #[.map (some b)] 99) (hm : MapAt .u64 w0 b L) :
  SeqStopsK Fence.wide n Tryz.prog 101 #[.pointer (some ⟨Bm, 0, none⟩)] (fun k : Int => #[.int .u64 k]) KeepsWalks (fun xs => xs.Perm (L.map (·.1))) (fun _ => True) L.length w0 := fun l J Jx W hW hJ hJx hY h0 => by
 have hb1 : BlockAt W Bm #[.map (some b)] 99 := ⟨(hW.block Bm h1.lt).trans h1.eq⟩
 have hmW : MapAt .u64 W b L := hm.below hW hm.lt
 have y1 : W.cell? ⟨Bm, 0, none⟩ = some (.map (some b)) := (@block_cells _ _ 0 _ _ hb1).trans rfl
 have hsort := hm.sort
 clear h1 hm
 refine callsIn_of_wp Tryz.func101 rfl trivial ?_ rfl
 simp only [Tryz.ntmps101, List.size_toArray, List.length_cons, List.length_nil, Nat.reduceAdd, Nat.reduceSub, Array.replicate_succ, Array.replicate_zero, List.push_toArray, List.append_toArray, List.nil_append, List.cons_append]
 gi_wp2_with (first
  | (gi_at_range; refine wpListIn_rangeK rfl _ rfl Tryz.underlying99 hmW rfl ?_; intro w1 cnt0 hrg0 hg0)
  | gi_in)
 gi_loopw [3] (fun _ wr => ∃ (left : Int → Bool) (cnt : Nat) (ss : List Int), RangeAt .u64 wr b W.heap.size L left cnt ∧ Col L left ss ∧ J ss wr)
  (fun _ wr => wr.rangeLeft b W.heap.size)
 case atStart =>
  exact ⟨_, _, [], hrg0, Col.start L, hJ [] W w1 none h0 (gr_grown hg0) (fun r e => by cases e)⟩
 case round =>
  obtain ⟨left, cnt, ss, hrg, hC, hJs⟩ := hrel
  gi_wp2_with (first
   | (gi_at_next; refine wpListIn_nextK rfl _ rfl rfl hrg ?_ ?_)
   | gi_in)
  ·intro hc0 hl0
   gi_wp2
   go_end0
   exact ⟨⟨_, rfl⟩, .inl ⟨ss, hC.perm hsort (fun p hp => hl0 p.1 p.2 hp), hJs⟩⟩
  ·intro k v w2 cnt2 hmem hleft hrg2 hlt hob hen
   have hJ2 : J ss w2 := hJ ss wr w2 (some W.heap.size) hJs hob.1 (fun r e => by cases e; exact ⟨Nat.le_refl _, hrg.walk⟩)
   have hC2 := hC.step hmem hleft
   have hlen : ss.length < L.length := by
    have := hC2.len
    simp only [List.length_append, List.length_cons, List.length_nil] at this
    omega
   obtain ⟨fn, tmps, assign, body, hy, hR⟩ := hY ss k w2 hJ2 hlen
   gi_wp2
   refine hR.mono ?_
   rintro e W3 (⟨rfl, hJ3, hk3⟩ | ⟨rfl, hJx3⟩)
   ·gi_wp2
    have hrg3 := hrg2.walks hk3
    go_roundw
    case rel => exact ⟨_, cnt2, ss ++ [k], hrg3, hC2, hJ3⟩
    case measure => rw [hrg3.left_eq, hrg.left_eq]; exact hlt
   ·gi_wp2
    refine bodyPost_ret (results_none rfl _ _ _) rfl ⟨⟨_, rfl⟩, .inr ⟨_, trivial, hJx3⟩⟩
end Go.Proofs.YtipeblmgochdfaaGreat
namespace Go.Proofs.YtipeblmgochdfaaGreat.I
open Go.RowKit Go.Shelf Go.MapKept
set_option linter.unusedVariables false
set_option linter.unusedSimpArgs false
set_option linter.unnecessarySimpa false
set_option maxRecDepth 100000
attribute [local go_sem] Oper.semAt_some
set_option maxHeartbeats 2000000 in
theorem keysi_stops (n : Nat) (hn : 1 ≤ n) (Bm b : Nat) (L : List (Int × Value)) (w0 : World) (h1 : BlockAt w0 Bm #[.map (some b)] 113) (hm : MapAt .i64 w0 b L) :
  SeqStopsK Fence.wide n Tryz.prog 104 #[.pointer (some ⟨Bm, 0, none⟩)] (fun k : Int => #[.int .i64 k]) KeepsWalks (fun xs => xs.Perm (L.map (·.1))) (fun _ => True) L.length w0 := fun l J Jx W hW hJ hJx hY h0 => by
 have hb1 : BlockAt W Bm #[.map (some b)] 113 := ⟨(hW.block Bm h1.lt).trans h1.eq⟩
 have hmW : MapAt .i64 W b L := hm.below hW hm.lt
 have y1 : W.cell? ⟨Bm, 0, none⟩ = some (.map (some b)) := (@block_cells _ _ 0 _ _ hb1).trans rfl
 have hsort := hm.sort
 clear h1 hm
 refine callsIn_of_wp Tryz.func104 rfl trivial ?_ rfl
 simp only [Tryz.ntmps104, List.size_toArray, List.length_cons, List.length_nil, Nat.reduceAdd, Nat.reduceSub, Array.replicate_succ, Array.replicate_zero, List.push_toArray, List.append_toArray, List.nil_append, List.cons_append]
 gi_wp2_with (first
  | (gi_at_range; refine wpListIn_rangeK rfl _ rfl Tryz.underlying113 hmW rfl ?_; intro w1 cnt0 hrg0 hg0)
  | gi_in)
 gi_loopw [3] (fun _ wr => ∃ (left : Int → Bool) (cnt : Nat) (ss : List Int), RangeAt .i64 wr b W.heap.size L left cnt ∧ Col L left ss ∧ J ss wr)
  (fun _ wr => wr.rangeLeft b W.heap.size)
 case atStart =>
  exact ⟨_, _, [], hrg0, Col.start L, hJ [] W w1 none h0 (gr_grown hg0) (fun r e => by cases e)⟩
 case round =>
  obtain ⟨left, cnt, ss, hrg, hC, hJs⟩ := hrel
  gi_wp2_with (first
   | (gi_at_next; refine wpListIn_nextK rfl _ rfl rfl hrg ?_ ?_)
   | gi_in)
  ·intro hc0 hl0
   gi_wp2
   go_end0
   exact ⟨⟨_, rfl⟩, .inl ⟨ss, hC.perm hsort (fun p hp => hl0 p.1 p.2 hp), hJs⟩⟩
  ·intro k v w2 cnt2 hmem hleft hrg2 hlt hob hen
   have hJ2 : J ss w2 := hJ ss wr w2 (some W.heap.size) hJs hob.1 (fun r e => by cases e; exact ⟨Nat.le_refl _, hrg.walk⟩)
   have hC2 := hC.step hmem hleft
   have hlen : ss.length < L.length := by
    have := hC2.len
    simp only [List.length_append, List.length_cons, List.length_nil] at this
    omega
   obtain ⟨fn, tmps, assign, body, hy, hR⟩ := hY ss k w2 hJ2 hlen
   gi_wp2
   refine hR.mono ?_
   rintro e W3 (⟨rfl, hJ3, hk3⟩ | ⟨rfl, hJx3⟩)
   ·gi_wp2
    have hrg3 := hrg2.walks hk3
    go_roundw
    case rel => exact ⟨_, cnt2, ss ++ [k], hrg3, hC2, hJ3⟩
    case measure => rw [hrg3.left_eq, hrg.left_eq]; exact hlt
   ·gi_wp2
    refine bodyPost_ret (results_none rfl _ _ _) rfl ⟨⟨_, rfl⟩, .inr ⟨_, trivial, hJx3⟩⟩
end Go.Proofs.YtipeblmgochdfaaGreat.I
namespace Go.Proofs.YtipeblmgochdfaaGreat
open Go.RowKit
set_option linter.unusedVariables false
set_option linter.unusedSimpArgs false
set_option linter.unnecessarySimpa false
def at0 (xs : List Int) (i : Nat) : Int := xs.getD i 0
def swp (xs : List Int) (i j : Nat) : List Int := (xs.set i (at0 xs j)).set j (at0 xs i)
theorem at0_get {xs : List Int} {i : Nat} (h : i < xs.length) : xs[i]? = some (at0 xs i) := by
 unfold at0
 rw [List.getD_eq_getElem?_getD, List.getElem?_eq_getElem h]
 rfl
theorem swp_len (xs : List Int) (i j : Nat) : (swp xs i j).length = xs.length := by simp [swp]
theorem at0_swp {xs : List Int} {i j : Nat} (hi : i < xs.length) (hj : j < xs.length) (k : Nat) : at0 (swp xs i j) k = if k = j then at0 xs i else if k = i then at0 xs j else at0 xs k := by
 unfold swp at0
 simp only [List.getD_eq_getElem?_getD]
 by_cases h1 : k = j
 ·subst h1
  rw [if_pos rfl, List.getElem?_set_self (by simpa using hj)]
  rfl
 ·rw [if_neg h1, List.getElem?_set_ne (fun e => h1 e.symm)]
  by_cases h2 : k = i
  ·subst h2
   rw [if_pos rfl, List.getElem?_set_self hi]
   rfl
  ·rw [if_neg h2, List.getElem?_set_ne (fun e => h2 e.symm)]
inductive RP (a b : Nat) (xs : List Int) : List Int → Prop
 | refl : RP a b xs xs
 | swap {ys : List Int} (h : RP a b xs ys) (i j : Nat) (hi : a ≤ i) (hi2 : i < b) (hj : a ≤ j) (hj2 : j < b) (hb : b ≤ ys.length) : RP a b xs (swp ys i j)
theorem RP.trans {a b : Nat} {xs ys zs : List Int} (h1 : RP a b xs ys) (h2 : RP a b ys zs) : RP a b xs zs := by
 induction h2 with
 | refl => exact h1
 | swap h i j hi hi2 hj hj2 hb ih => exact .swap ih i j hi hi2 hj hj2 hb
theorem RP.mono {a b a' b' : Nat} {xs ys : List Int} (h : RP a b xs ys) (ha : a' ≤ a) (hb : b ≤ b') (hl : b' ≤ xs.length) : RP a' b' xs ys := by
 induction h with
 | refl => exact .refl
 | swap h i j hi hi2 hj hj2 hb2 ih =>
  refine .swap ih i j (by omega) (by omega) (by omega) (by omega) ?_
  have : ∀ ys, RP a b xs ys → ys.length = xs.length := fun ys h => by
   induction h with
   | refl => rfl
   | swap _ _ _ _ _ _ _ _ ih => rw [swp_len, ih]
  rw [this _ h]
  exact hl
theorem RP.len {a b : Nat} {xs ys : List Int} (h : RP a b xs ys) : ys.length = xs.length := by
 induction h with
 | refl => rfl
 | swap _ _ _ _ _ _ _ _ ih => rw [swp_len, ih]
theorem RP.out {a b : Nat} {xs ys : List Int} (h : RP a b xs ys) (k : Nat) (hk : k < a ∨ b ≤ k) : at0 ys k = at0 xs k := by
 induction h with
 | refl => rfl
 | swap h i j hi hi2 hj hj2 hb ih => rw [at0_swp (by omega) (by omega), if_neg (by omega), if_neg (by omega), ih]
theorem RP.from_ {a b : Nat} {xs ys : List Int} (h : RP a b xs ys) : ∀ k, a ≤ k → k < b → ∃ m, a ≤ m ∧ m < b ∧ at0 ys k = at0 xs m := by
 induction h with
 | refl => exact fun k h1 h2 => ⟨k, h1, h2, rfl⟩
 | swap h i j hi hi2 hj hj2 hb ih =>
  intro k h1 h2
  rw [at0_swp (by omega) (by omega)]
  split
  ·exact ih i hi hi2
  ·split
   ·exact ih j hj hj2
   ·exact ih k h1 h2
theorem RP.perm {a b : Nat} {xs ys : List Int} (h : RP a b xs ys) : ys.Perm xs := by
 induction h with
 | refl => exact .refl _
 | swap h i j hi hi2 hj hj2 hb ih =>
  rename_i ys
  refine .trans ?_ ih
  have h1 : i < ys.length := by omega
  have h2 : j < ys.length := by omega
  have := List.set_set_perm h1 h2
  have e1 : at0 ys i = ys[i] := by have := at0_get h1; rw [List.getElem?_eq_getElem h1] at this; exact (Option.some.inj this).symm
  have e2 : at0 ys j = ys[j] := by have := at0_get h2; rw [List.getElem?_eq_getElem h2] at this; exact (Option.some.inj this).symm
  unfold swp
  rw [e1, e2]
  exact this
def Srt (xs : List Int) (a b : Nat) : Prop := ∀ i j, a ≤ i → i < j → j < b → at0 xs i ≤ at0 xs j
theorem Srt.pair {xs : List Int} (h : Srt xs 0 xs.length) : xs.Pairwise (· ≤ ·) := by
 rw [List.pairwise_iff_getElem]
 intro i j hi hj hij
 have := h i j (Nat.zero_le _) hij hj
 have e1 : at0 xs i = xs[i] := by have := at0_get hi; rw [List.getElem?_eq_getElem hi] at this; exact (Option.some.inj this).symm
 have e2 : at0 xs j = xs[j] := by have := at0_get hj; rw [List.getElem?_eq_getElem hj] at this; exact (Option.some.inj this).symm
 rwa [e1, e2] at this
def Ins (xs : List Int) (a i j : Nat) : Prop := ∀ p q, a ≤ p → p < q → q ≤ i → q ≠ j → at0 xs p ≤ at0 xs q
theorem ins_start {xs : List Int} {a i : Nat} (h : Srt xs a i) : Ins xs a i i := fun p q h1 h2 h3 h4 => h p q h1 h2 (by omega)
theorem ins_end {xs : List Int} {a i j : Nat} (h : Ins xs a i j) (hj : j ≤ i) (hs : j = a ∨ ¬ at0 xs j < at0 xs (j - 1)) : Srt xs a (i + 1) := by
 intro p q h1 h2 h3
 by_cases hq : q = j
 ·subst hq
  rcases hs with hs | hs
  ·omega
  ·have hle : at0 xs (q - 1) ≤ at0 xs q := by omega
   by_cases hp : p = q - 1
   ·subst hp; exact hle
   ·exact Int.le_trans (h p (q - 1) h1 (by omega) (by omega) (by omega)) hle
 ·exact h p q h1 h2 (by omega) hq
theorem ins_step {xs : List Int} {a i j : Nat} (h : Ins xs a i j) (ha : a < j) (hj : j ≤ i) (hi : i < xs.length) (hs : at0 xs j < at0 xs (j - 1)) : Ins (swp xs j (j - 1)) a i (j - 1) := by
 intro p q h1 h2 h3 h4
 rw [at0_swp (by omega) (by omega), at0_swp (by omega) (by omega)]
 rw [if_neg h4]
 by_cases hq : q = j
 ·rw [if_pos hq]
  by_cases hp : p = j - 1
  ·rw [if_pos hp]; omega
  ·rw [if_neg hp, if_neg (by omega)]
   exact h p (j - 1) h1 (by omega) (by omega) (by omega)
 ·rw [if_neg hq]
  by_cases hp : p = j - 1
  ·rw [if_pos hp]
   exact h j q (by omega) (by omega) h3 hq
  ·rw [if_neg hp]
   by_cases hp2 : p = j
   ·rw [if_pos hp2]
    exact h (j - 1) q (by omega) (by omega) h3 hq
   ·rw [if_neg hp2]
    exact h p q h1 h2 h3 hq
def Prt (xs : List Int) (a b i j : Nat) : Prop := (∀ k, a < k → k < i → at0 xs k < at0 xs a) ∧ ∀ k, j < k → k < b → at0 xs a ≤ at0 xs k
theorem prt_swap {xs : List Int} {a b i j : Nat} (h : Prt xs a b i j) (hai : a < i) (hij : i < j) (hjb : j < b) (hb : b ≤ xs.length) (h1 : at0 xs a ≤ at0 xs i) (h2 : at0 xs j < at0 xs a) : Prt (swp xs i j) a b (i + 1) (j - 1) := by
 have ea : at0 (swp xs i j) a = at0 xs a := by rw [at0_swp (by omega) (by omega), if_neg (by omega), if_neg (by omega)]
 refine ⟨fun k hk1 hk2 => ?_, fun k hk1 hk2 => ?_⟩
 ·rw [ea, at0_swp (by omega) (by omega)]
  by_cases e : k = i
  ·rw [if_neg (by omega), if_pos e]; exact h2
  ·rw [if_neg (by omega), if_neg e]; exact h.1 k hk1 (by omega)
 ·rw [ea, at0_swp (by omega) (by omega)]
  by_cases e : k = j
  ·rw [if_pos e]; exact h1
  ·rw [if_neg e, if_neg (by omega)]; exact h.2 k (by omega) hk2
theorem prt_end {xs : List Int} {a b i j : Nat} (h : Prt xs a b i j) (haj : a ≤ j) (hij : j + 1 = i) (hjb : j < b) (hb : b ≤ xs.length) : (∀ k, a ≤ k → k < j → at0 (swp xs j a) k ≤ at0 (swp xs j a) j) ∧ ∀ k, j < k → k < b → at0 (swp xs j a) j ≤ at0 (swp xs j a) k := by
 have ej : at0 (swp xs j a) j = at0 xs a := by
  rw [at0_swp (by omega) (by omega)]
  by_cases e : j = a
  ·rw [if_pos e, e]
  ·rw [if_neg e, if_pos rfl]
 refine ⟨fun k hk1 hk2 => ?_, fun k hk1 hk2 => ?_⟩
 ·rw [ej, at0_swp (by omega) (by omega)]
  by_cases e : k = a
  ·rw [if_pos e]
   have := h.1 j (by omega) (by omega)
   omega
  ·rw [if_neg e, if_neg (by omega)]
   have := h.1 k (by omega) (by omega)
   omega
 ·rw [ej, at0_swp (by omega) (by omega), if_neg (by omega), if_neg (by omega)]
  have := h.2 k hk1 hk2
  omega
def Pre (xs : List Int) (a b i j : Nat) : Prop := (∀ k, a ≤ k → k < i → at0 xs k ≤ at0 xs a) ∧ ∀ k, j < k → k < b → at0 xs a < at0 xs k
theorem pre_swap {xs : List Int} {a b i j : Nat} (h : Pre xs a b i j) (hai : a < i) (hij : i < j) (hjb : j < b) (hb : b ≤ xs.length) (h1 : at0 xs a < at0 xs i) (h2 : at0 xs j ≤ at0 xs a) : Pre (swp xs i j) a b (i + 1) (j - 1) := by
 have ea : at0 (swp xs i j) a = at0 xs a := by rw [at0_swp (by omega) (by omega), if_neg (by omega), if_neg (by omega)]
 refine ⟨fun k hk1 hk2 => ?_, fun k hk1 hk2 => ?_⟩
 ·rw [ea, at0_swp (by omega) (by omega)]
  by_cases e : k = i
  ·rw [if_neg (by omega), if_pos e]; exact h2
  ·rw [if_neg (by omega), if_neg e]; exact h.1 k hk1 (by omega)
 ·rw [ea, at0_swp (by omega) (by omega)]
  by_cases e : k = j
  ·rw [if_pos e]; exact h1
  ·rw [if_neg e, if_neg (by omega)]; exact h.2 k (by omega) hk2
def Lft (xs : List Int) (a b c d : Nat) : Prop := ∀ i j, a ≤ i → i < j → j < b → ¬ (c ≤ i ∧ j < d) → at0 xs i ≤ at0 xs j
theorem lft_start (xs : List Int) (a b : Nat) : Lft xs a b a b := fun i j h1 h2 h3 h4 => absurd ⟨h1, h3⟩ h4
theorem lft_end {xs : List Int} {a b c d : Nat} (h : Lft xs a b c d) (hs : Srt xs c d) : Srt xs a b := fun i j h1 h2 h3 => by
 by_cases hin : c ≤ i ∧ j < d
 ·exact hs i j hin.1 h2 hin.2
 ·exact h i j h1 h2 h3 hin
theorem Lft.rp {xs ys : List Int} {a b c d : Nat} (h : Lft xs a b c d) (hr : RP c d xs ys) (ha : a ≤ c) (hb : d ≤ b) : Lft ys a b c d := fun i j h1 h2 h3 h4 => by
 by_cases hi : c ≤ i ∧ i < d
 ·obtain ⟨m, m1, m2, e⟩ := hr.from_ i hi.1 hi.2
  have hj : d ≤ j := by
   rcases Nat.lt_or_ge j d with h | h
   ·exact absurd ⟨hi.1, h⟩ h4
   ·exact h
  rw [e, hr.out j (.inr hj)]
  exact h m j (by omega) (by omega) h3 (by omega)
 ·rw [hr.out i (by omega)]
  by_cases hj : c ≤ j ∧ j < d
  ·obtain ⟨m, m1, m2, e⟩ := hr.from_ j hj.1 hj.2
   rw [e]
   exact h i m h1 (by omega) (by omega) (by omega)
  ·rw [hr.out j (by omega)]
   exact h i j h1 h2 h3 h4
theorem lft_left {xs : List Int} {a b c d m : Nat} (h : Lft xs a b c d) (hm : c ≤ m) (hd : m < d) (hs : Srt xs c m) (h1 : ∀ k, c ≤ k → k < m → at0 xs k ≤ at0 xs m) (h2 : ∀ k, m < k → k < d → at0 xs m ≤ at0 xs k) : Lft xs a b (m + 1) d := fun i j q1 q2 q3 q4 => by
 by_cases hin : c ≤ i ∧ j < d
 ·by_cases hi : i < m
  ·by_cases hj : j < m
   ·exact hs i j hin.1 q2 hj
   ·by_cases hj2 : j = m
    ·subst hj2; exact h1 i hin.1 hi
    ·exact Int.le_trans (h1 i hin.1 hi) (h2 j (by omega) hin.2)
  ·have : i = m := by omega
   subst this
   exact h2 j q2 hin.2
 ·exact h i j q1 q2 q3 hin
theorem lft_right {xs : List Int} {a b c d m : Nat} (h : Lft xs a b c d) (hm : c ≤ m) (hd : m < d) (hs : Srt xs (m + 1) d) (h1 : ∀ k, c ≤ k → k < m → at0 xs k ≤ at0 xs m) (h2 : ∀ k, m < k → k < d → at0 xs m ≤ at0 xs k) : Lft xs a b c m := fun i j q1 q2 q3 q4 => by
 by_cases hin : c ≤ i ∧ j < d
 ·by_cases hj : m < j
  ·by_cases hi : m < i
   ·exact hs i j hi q2 hin.2
   ·by_cases hi2 : i = m
    ·subst hi2; exact h2 j hj hin.2
    ·exact Int.le_trans (h1 i hin.1 (by omega)) (h2 j hj hin.2)
  ·have : j = m := by omega
   subst this
   exact h1 i hin.1 q2
 ·exact h i j q1 q2 q3 hin
theorem lft_equal {xs : List Int} {a b c d m : Nat} (h : Lft xs a b c d) (hm : c < m) (hd : m ≤ d) (h1 : ∀ k, c ≤ k → k < m → ∀ l, c ≤ l → l < d → at0 xs k ≤ at0 xs l) : Lft xs a b m d := fun i j q1 q2 q3 q4 => by
 by_cases hin : c ≤ i ∧ j < d
 ·exact h1 i hin.1 (by omega) j (by omega) hin.2
 ·exact h i j q1 q2 q3 hin
/-! Heaps: the places are counted from f. -/
def Hp (xs : List Int) (f lo hi : Nat) : Prop := ∀ k c, lo ≤ k → c = 2 * k + 1 ∨ c = 2 * k + 2 → c < hi → at0 xs (f + c) ≤ at0 xs (f + k)
def Hq (xs : List Int) (f lo hi r : Nat) : Prop := (∀ k c, lo ≤ k → k ≠ r → c = 2 * k + 1 ∨ c = 2 * k + 2 → c < hi → at0 xs (f + c) ≤ at0 xs (f + k)) ∧ ∀ p c, lo ≤ p → r = 2 * p + 1 ∨ r = 2 * p + 2 → c = 2 * r + 1 ∨ c = 2 * r + 2 → c < hi → at0 xs (f + c) ≤ at0 xs (f + p)
theorem hq_start {xs : List Int} {f lo hi : Nat} (h : Hp xs f (lo + 1) hi) : Hq xs f lo hi lo := ⟨fun k c h1 h2 h3 h4 => h k c (by omega) h3 h4, fun p c h1 h2 => by omega⟩
theorem hq_end {xs : List Int} {f lo hi r : Nat} (h : Hq xs f lo hi r) (hr : ∀ c, c = 2 * r + 1 ∨ c = 2 * r + 2 → c < hi → at0 xs (f + c) ≤ at0 xs (f + r)) : Hp xs f lo hi := fun k c h1 h2 h3 => by
 by_cases hk : k = r
 ·subst hk; exact hr c h2 h3
 ·exact h.1 k c h1 hk h2 h3
theorem hq_step {xs : List Int} {f lo hi r c : Nat} (h : Hq xs f lo hi r) (hlo : lo ≤ r) (hc : c = 2 * r + 1 ∨ c = 2 * r + 2) (hch : c < hi) (hl : f + hi ≤ xs.length) (hmax : ∀ e, e = 2 * r + 1 ∨ e = 2 * r + 2 → e < hi → at0 xs (f + e) ≤ at0 xs (f + c)) (hlt : at0 xs (f + r) < at0 xs (f + c)) : Hq (swp xs (f + r) (f + c)) f lo hi c := by
 have E : ∀ k, k < hi → at0 (swp xs (f + r) (f + c)) (f + k) = if k = c then at0 xs (f + r) else if k = r then at0 xs (f + c) else at0 xs (f + k) := fun k hk => by
  rw [at0_swp (by omega) (by omega)]
  by_cases e1 : k = c
  ·rw [if_pos (by omega), if_pos e1]
  ·rw [if_neg (by omega), if_neg e1]
   by_cases e2 : k = r
   ·rw [if_pos (by omega), if_pos e2]
   ·rw [if_neg (by omega), if_neg e2]
 refine ⟨fun k e h1 h2 h3 h4 => ?_, fun p e h1 h2 h3 h4 => ?_⟩
 ·rw [E e h4, E k (by omega), if_neg h2]
  by_cases hk : k = r
  ·rw [if_pos hk]
   subst hk
   by_cases he : e = c
   ·rw [if_pos he]; omega
   ·rw [if_neg he, if_neg (by omega)]
    exact hmax e h3 h4
  ·rw [if_neg hk]
   by_cases he : e = c
   ·omega
   ·rw [if_neg he]
    by_cases he2 : e = r
    ·rw [if_pos he2]
     exact h.2 k c h1 (by omega) hc hch
    ·rw [if_neg he2]
     exact h.1 k e h1 hk h3 h4
 ·have hp : p = r := by omega
  subst hp
  rw [E e h4, E p (by omega), if_neg (by omega), if_neg (by omega), if_neg (by omega), if_pos rfl]
  exact h.1 c e (by omega) (by omega) h3 h4
theorem hp_leaf (xs : List Int) (f lo hi : Nat) (h : hi ≤ 2 * lo + 1) : Hp xs f lo hi := fun k c h1 h2 h3 => by omega
theorem hp_top {xs : List Int} {f hi : Nat} (h : Hp xs f 0 hi) : ∀ k, k < hi → at0 xs (f + k) ≤ at0 xs (f + 0) := by
 intro k
 induction k using Nat.strongRecOn with
 | _ k ih =>
  intro hk
  by_cases h0 : k = 0
  ·subst h0; exact Int.le_refl _
  ·exact Int.le_trans (h ((k - 1) / 2) k (Nat.zero_le _) (by omega) hk) (ih ((k - 1) / 2) (by omega) (by omega))
def Tl (xs : List Int) (a t m : Nat) : Prop := ∀ k l, k < l → t ≤ l → l < m → at0 xs (a + k) ≤ at0 xs (a + l)
theorem tl_start (xs : List Int) (a m : Nat) : Tl xs a m m := fun k l h1 h2 h3 => by omega
theorem tl_end {xs : List Int} {a b : Nat} (hab : a ≤ b) (h : Tl xs a 0 (b - a)) : Srt xs a b := fun i j h1 h2 h3 => by
 have := h (i - a) (j - a) (by omega) (by omega) (by omega)
 rwa [show a + (i - a) = i by omega, show a + (j - a) = j by omega] at this
theorem hs_heap {ys : List Int} {a j m : Nat} (hj : j < m) (hl : a + m ≤ ys.length) (hp : Hp ys a 0 (j + 1)) : Hp (swp ys a (a + j)) a 1 j := fun k c h1 h2 h3 => by
 rw [at0_swp (by omega) (by omega), at0_swp (by omega) (by omega), if_neg (by omega), if_neg (by omega), if_neg (by omega), if_neg (by omega)]
 exact hp k c (by omega) h2 (by omega)
theorem hs_step {ys ws : List Int} {a j m : Nat} (hj : j < m) (hl : a + m ≤ ys.length) (hp : Hp ys a 0 (j + 1)) (ht : Tl ys a (j + 1) m) (hr : RP a (a + j) (swp ys a (a + j)) ws) : Tl ws a j m := by
 have E : ∀ k, k < m → at0 (swp ys a (a + j)) (a + k) = if k = j then at0 ys (a + 0) else if k = 0 then at0 ys (a + j) else at0 ys (a + k) := fun k hk => by
  rw [at0_swp (by omega) (by omega)]
  by_cases e1 : k = j
  ·rw [if_pos (by omega), if_pos e1, Nat.add_zero]
  ·rw [if_neg (by omega), if_neg e1]
   by_cases e2 : k = 0
   ·rw [if_pos (by omega), if_pos e2]
   ·rw [if_neg (by omega), if_neg e2]
 have hfrom : ∀ k, k < j → ∃ q, q ≤ j ∧ at0 ws (a + k) = at0 ys (a + q) := fun k hk => by
  obtain ⟨p, p1, p2, e⟩ := hr.from_ (a + k) (by omega) (by omega)
  have h2 := E (p - a) (by omega)
  rw [show a + (p - a) = p by omega, if_neg (by omega)] at h2
  by_cases e0 : p - a = 0
  ·rw [if_pos e0] at h2
   exact ⟨j, Nat.le_refl _, by rw [e, h2]⟩
  ·rw [if_neg e0] at h2
   exact ⟨p - a, by omega, by rw [e, h2]; congr 1; omega⟩
 have hout : ∀ k, j ≤ k → k < m → at0 ws (a + k) = if k = j then at0 ys (a + 0) else at0 ys (a + k) := fun k h1 h2 => by
  rw [hr.out (a + k) (.inr (by omega)), E k h2]
  by_cases e : k = j
  ·rw [if_pos e, if_pos e]
  ·rw [if_neg e, if_neg e, if_neg (by omega)]
 intro k l h1 h2 h3
 by_cases hlj : l = j
 ·subst hlj
  rw [hout l (Nat.le_refl _) h3, if_pos rfl]
  obtain ⟨q, q1, e⟩ := hfrom k h1
  rw [e]
  exact hp_top hp q (by omega)
 ·rw [hout l h2 h3, if_neg hlj]
  by_cases hk : k < j
  ·obtain ⟨q, q1, e⟩ := hfrom k hk
   rw [e]
   exact ht q l (by omega) (by omega) h3
  ·rw [hout k (by omega) (by omega)]
   by_cases hkj : k = j
   ·rw [if_pos hkj]
    exact ht 0 l (by omega) (by omega) h3
   ·rw [if_neg hkj]
    exact ht k l h1 (by omega) h3
theorem Srt.one {xs : List Int} {a i : Nat} (h : i ≤ a + 1) : Srt xs a i := fun p q h1 h2 h3 => by omega
theorem Srt.more {xs : List Int} {a i m : Nat} (h : Srt xs a i) (hm : m + 1 = i) (ha : a ≤ m) (hl : ¬ at0 xs i < at0 xs m) : Srt xs a (i + 1) := fun p q h1 h2 h3 => by
 by_cases hq : q = i
 ·subst hq
  by_cases hp : p = m
  ·subst hp; omega
  ·have := h p m h1 (by omega) (by omega)
   omega
 ·exact h p q h1 h2 (by omega)
theorem Srt.far {xs : List Int} {a i u v : Nat} (h : Srt xs a i) (hu : i ≤ u) (hv : i ≤ v) (hul : u < xs.length) (hvl : v < xs.length) : Srt (swp xs u v) a i := fun p q h1 h2 h3 => by
 rw [at0_swp hul hvl, at0_swp hul hvl, if_neg (by omega), if_neg (by omega), if_neg (by omega), if_neg (by omega)]
 exact h p q h1 h2 h3
def PureAt (P : Program) (o : Oper) (v : Value) (a : Act) : Prop := ∀ w, (execOp a.eval o).run P w = .ok (.value v) w
section
variable {P : Program} {md : Region.Mode} {ops : Array Oper} {W : World}
theorem PureAt.put {o : Oper} {v u : Value} {a : Act} {d : Option Tmp} (h : PureAt P o v a) (hs : ∀ cs b, o.op ≠ .select cs b) (hp : ∀ e, d = some e → e ∉ o.looksAt ops) : PureAt P o v (a.put d u) := fun w => by
 rw [execOp_put o hs a d u hp]
 exact h w
theorem feOpG_putP {n j : Nat} {oi oj : Oper} {v : Value} (hj : ops[j]? = some oj) (hap : oi.apart ops oj = true)
  (hsi : ∀ cs b, oi.op ≠ .select cs b) (hsj : ∀ cs b, oj.op ≠ .select cs b) {K : StG W → Act → Prop} {s : StG W} {a : Act}
  (hy : PureAt P oi v a) (h : feOpG P ops W n j K s (a.put oi.dst v)) :
  feOpG P ops W n j (fun s' a' => PureAt P oi v a' ∧ K s' (a'.put oi.dst v)) s a := by
 obtain ⟨p1, p2, p3⟩ := Oper.apart_spec hap
 rcases h with ⟨hsc, o, ho, u, hu, hk⟩ | ⟨o, ho, hg, hs⟩
 ·obtain rfl : o = oj := Option.some.inj (ho.symm.trans hj)
  exact .inl ⟨hsc, o, hj, u, hu.unput hsj p1, hy.put hsi p3, by rw [← Act.put_comm a v u p2]; exact hk⟩
 ·obtain rfl : o = oj := Option.some.inj (ho.symm.trans hj)
  refine .inr ⟨o, hj, by rw [wanted_put o a oi.dst v p1] at hg; exact hg, fun w hw => ?_⟩
  have h3 := hs w hw
  unfold EffAt at *
  rw [execOp_put o hsj a oi.dst v p1] at h3
  exact effUpon_mono (fun u w' ⟨s', h1, h4, h2⟩ => ⟨s', h1, h4, hy.put hsi p3, by rw [← Act.put_comm a v u p2]; exact h2⟩) _ h3
theorem feOp_pure {n i : Nat} {oi : Oper} {v : Value} {K : StG W → Act → Prop} {s : StG W} {a : Act} (hi : ops[i]? = some oi) (hg : oi.guard = none) (hy : PureAt P oi v a) (h : K s (a.put oi.dst v)) : feOpG P ops W n i K s a :=
 fg_eff hi hg fun w hw => by
  unfold EffAt
  rw [hy w]
  exact ⟨s, hw, fun _ h => h, h⟩
theorem feG_firstP {n i : Nat} {oi : Oper} {v : Value} {L : StG W → Act → Prop} (hi : ops[i]? = some oi) (hg : oi.guard = none) (hsel : ∀ (j : Nat) (o : Oper) cs b, ops[j]? = some o → o.op ≠ .select cs b) :
  ∀ (f : Nat) (listed : Array Bool) (s : StG W) (a : Act),
   (∀ j oj, ops[j]? = some oj → j ≠ i → listed.getD j true = false → (∀ e ∈ oj.after, Region.binds md e = true → e.on ≠ i) → oi.apart ops oj = true) →
   i ∈ Region.ready md ops listed → PureAt P oi v a →
   feG P md ops W n L f (listed.setIfInBounds i true) s (a.put oi.dst v) → feG P md ops W n L (f + 1) listed s a := by
 intro f
 induction f with
 | zero =>
  intro listed s a _ hr hy H
  refine ⟨(fun h => by rw [h] at hr; cases hr), fun j hj => ?_⟩
  by_cases hji : j = i
  ·subst hji; exact feOp_pure hi hg hy H
  ·have := ready_mono hj hji
   rw [H.1] at this
   cases this
 | succ f ih =>
  intro listed s a hfree hr hy H
  have hun := (mem_ready.1 hr).1
  refine ⟨(fun h => by rw [h] at hr; cases hr), fun j hj => ?_⟩
  by_cases hji : j = i
  ·subst hji; exact feOp_pure hi hg hy H
  have h1 := H.2 j (ready_mono hj hji)
  obtain ⟨hjun, oj, hoj, hall⟩ := mem_ready.1 hj
  have hnot : ∀ e ∈ oj.after, Region.binds md e = true → e.on ≠ i := fun e he hb heq => by
   have h1 := hall e he hb
   rw [heq, getD_both hun] at h1
   cases h1
  have h2 := feOpG_putP hoj (hfree j oj hoj hji hjun hnot) (fun cs b => hsel i oi cs b hi) (fun cs b => hsel j oj cs b hoj) hy h1
  have hfree' : ∀ k ok, ops[k]? = some ok → k ≠ i → (listed.setIfInBounds j true).getD k true = false →
    (∀ e ∈ ok.after, Region.binds md e = true → e.on ≠ i) → oi.apart ops ok = true := fun k ok hk hki hu hno => by
   refine hfree k ok hk hki ?_ hno
   by_cases hjk : j = k
   ·subst hjk; exact hjun
   ·rw [getD_set_ne true hjk] at hu; exact hu
  refine feOpG_mono (fun s' a' h3 => ih (listed.setIfInBounds j true) s' a' hfree' (ready_mono hr (Ne.symm hji)) h3.1 ?_) h2
  rw [Array.setIfInBounds_comm _ _ hji]
  exact h3.2
def wpPure (P : Program) (K : Act → Prop) : List Oper → Act → Prop
 | [], a => K a
 | o :: r, a => o.guard = none ∧ ∃ v, PureAt P o v a ∧ wpPure P K r (a.put o.dst v)
end
section
variable {P : Program} {md : Region.Mode} {W : World} {l : List Oper} {L : StG W → Act → Prop}
theorem feG_lexP {n : Nat} (hsel : Region.noSelect l.toArray = true) (m : Nat) :
  ∀ (ps : List Nat) (listed : Array Bool) (s : StG W) (a : Act), Closed md l.toArray listed → freeAll md l.toArray ps listed = true → wpPure P (fun a' => Closed md l.toArray (listAll ps listed) → feG P md l.toArray W n L m (listAll ps listed) s a') (pick l ps) a →
   feG P md l.toArray W n L (ps.length + m) listed s a
 | [], listed, s, a, hcl, hB, h => by
  rw [List.length_nil, Nat.zero_add]
  exact h hcl
 | k :: r, listed, s, a, hcl, hB, h => by
  simp only [freeAll, Bool.and_eq_true] at hB
  obtain ⟨⟨hr, hf⟩, hB'⟩ := hB
  have hr' : k ∈ Region.ready md l.toArray listed := by simpa using hr
  obtain ⟨hun, o, ho, hall⟩ := mem_ready.1 hr'
  have ho' : l[k]? = some o := by simpa using ho
  have hks : k < listed.size := by
   rcases Nat.lt_or_ge k listed.size with h | h
   ·exact h
   ·simp [Array.getD, Nat.not_lt.2 h] at hun
  have hcl' := closed_set hcl ho hall hks
  rw [pick_cons ho'] at h
  rw [show (k :: r).length + m = (r.length + m) + 1 by simp; omega]
  obtain ⟨hg, v, hv, hk⟩ := h
  exact feG_firstP ho hg (Region.noSelect_spec hsel) _ listed s a (Region.free_spec ho hf) hr' hv (feG_lexP hsel m r _ _ _ hcl' hB' hk)
def treeJB (md : Region.Mode) (ops : Array Oper) (ps qs : List Nat) (m n : Nat) : Bool :=
 Region.noSelect ops && decide (ps.length + (qs.length + m) = ops.size) && qs.all (waitsK md ops 6 n) && freeAll md ops ps (Array.replicate ops.size false) && freeAll md ops qs (listAll ps (Array.replicate ops.size false))
theorem wp_region_treeJ {id : Nat} {Q : Exit → Act → World → Prop} {a : Act} {w : World} (s : StG W) (hsc : s.c = true) (hw : s.e w.drew) (ps qs : List Nat) (m n : Nat) (hm : P.follows .mixedOrders = true) (hB : treeJB .any l.toArray ps qs m n = true)
  (h : wpPure P (fun a2 => wpCalm P l.toArray W (fun a' => feG P .any l.toArray W n (fun s a3 => ∀ w', s.e w' → Q .normal a3 w') m (listAll qs (listAll ps (Array.replicate l.toArray.size false))) s a') (pick l qs) a2) (pick l ps) a) : (Code.region id l.toArray true).wp P Q a w := by
 simp only [treeJB, Bool.and_eq_true, decide_eq_true_eq] at hB
 obtain ⟨⟨⟨⟨hsel, hlen⟩, hq⟩, hfp⟩, hfq⟩ := hB
 have hcl : Closed .any l.toArray (Array.replicate l.toArray.size false) := fun k o ho hk => by
  rw [getD_replicate_false] at hk
  cases hk
 have hmono : ∀ (os : List Oper) (a : Act) (K K' : Act → Prop), (∀ a, K a → K' a) → wpPure P K os a → wpPure P K' os a := by
  intro os
  induction os with
  | nil => exact fun a K K' hK h => hK a h
  | cons o r ih => exact fun a K K' hK ⟨hg, v, hv, hk⟩ => ⟨hg, v, hv, ih _ K K' hK hk⟩
 have H := feG_lexP (md := .any) (P := P) (W := W) (n := n) (L := fun s a3 => ∀ w', s.e w' → Q .normal a3 w') hsel (qs.length + m) ps _ s a hcl hfp (hmono _ _ _ _ (fun a' ha hc => feG_lexT (md := .any) (P := P) (W := W) hsel m qs _ s a' hsc hc hq hfq ha) h)
 refine wp_region_any hm ?_
 have := feG_any (Q' := Q) (fun s a' w' hw' (hL : ∀ w', s.e w' → Q .normal a' w') => hL w' hw') _ _ _ _ _ hw H
 rw [hlen] at this
 exact this
theorem wpPure_step {K : Act → Prop} {o : Oper} {r : List Oper} {a : Act} (v : Value) (hg : o.guard = none) (hv : ∀ w, (execOp a.eval o).run P w = .ok (.value v) w) (h : wpPure P K r (a.put o.dst v)) : wpPure P K (o :: r) a := ⟨hg, v, hv, h⟩
end
set_option maxRecDepth 100000
set_option maxHeartbeats 4000000

def sE : EK Int := ⟨fun x => [.int .u64 x], 1, 28, 80, 8, .int .u64 0, fun _ => True⟩
theorem sIs : sE.Is where
 len := fun _ _ => rfl
 one := fun x _ v hv => by
  simp only [sE, List.mem_cons, List.mem_nil_iff, or_false] at hv
  subst hv; rfl
 pos := by decide
 hT := Tryz.underlying80
 hE := by kernel_rfl
 hz := rfl
 hb := by decide
structure SA (base : Nat) (W : World) (g n c : Nat) (xs : List Int) : Prop where
 own : OwnN sE base W (.slice (some ⟨g, 0, none⟩) n c) xs
theorem SA.gr {base : Nat} {W W' : World} {g n c : Nat} {xs : List Int} (h : SA base W g n c xs) (k : Gr W W') : SA base W' g n c xs := ⟨h.own.gr k⟩
theorem SA.blk {base : Nat} {W : World} {g n c : Nat} {xs : List Int} (h : SA base W g n c xs) : ∃ cs, W.heap[g]? = some (.cells cs 28 (0, 0)) := by
 rcases h.own.own.2 with ⟨e, _⟩ | ⟨g', cap, cur, e, _, hh, _⟩
 ·cases e
 ·cases e
  exact ⟨cur, hh⟩
theorem SA.lt {base : Nat} {W : World} {g n c : Nat} {xs : List Int} (h : SA base W g n c xs) : g < W.heap.size := by
 obtain ⟨cs, e⟩ := h.blk
 exact (Array.getElem?_eq_some_iff.1 e).1
theorem SA.ge {base : Nat} {W : World} {g n c : Nat} {xs : List Int} (h : SA base W g n c xs) : base ≤ g := (h.own.lt g rfl).1
theorem SA.len {base : Nat} {W : World} {g n c : Nat} {xs : List Int} (h : SA base W g n c xs) : xs.length = n := by
 rcases h.own.own.2 with ⟨e, _⟩ | ⟨g', cap, cur, e, _⟩
 ·cases e
 ·simp only [Value.slice.injEq] at e; exact e.2.1.symm
theorem SA.frozen {base : Nat} {W : World} {g n c : Nat} {xs : List Int} (h : SA base W g n c xs) (i : Nat) : W.frozen? ⟨g, i, none⟩ = false := by
 obtain ⟨cs, e⟩ := h.blk
 simp [World.frozen?, e]
theorem SA.cell {base : Nat} {W : World} {g n c : Nat} {xs : List Int} (h : SA base W g n c xs) (i : Nat) (hi : i < xs.length) : W.cell? ⟨g, i, none⟩ = some (.int .u64 (at0 xs i)) := by
 have hne : xs ≠ [] := by rintro rfl; simp at hi
 obtain ⟨g', c', e, _, _, _, _, hc, _⟩ := h.own.cells sIs hne
 simp only [Value.slice.injEq, Option.some.injEq, Addr.mk.injEq] at e
 have := hc i (at0 xs i) (at0_get hi) 0 _ rfl
 have e1 : sE.k = 1 := rfl
 rw [e1, Nat.mul_one, Nat.zero_add, Nat.add_zero, ← e.1.1] at this
 exact this
theorem SA.put {base : Nat} {W : World} {g n c : Nat} {xs : List Int} (h : SA base W g n c xs) (i : Nat) (y : Int) (hi : i < xs.length) : SA base (W.setCell ⟨g, i, none⟩ (.int .u64 y)) g n c (xs.set i y) := by
 have := h.own.store sIs i 0 (at0 xs i) y (.int .u64 y) (at0_get hi) (by decide) rfl trivial
 have e1 : sE.k = 1 := rfl
 rw [e1, Nat.mul_one, Nat.add_zero] at this
 exact ⟨this⟩
theorem effAt_stS {w w' : World} {o : Oper} {a : Act} {K : Value → World → Prop} {ty : TypeId} {x y : Operand} {ad : Addr} {u : Value} (ho : o.op = .store ty x y) (hx : a.eval x = .pointer (some ad)) (hy : a.eval y = u) (hrun : (storeVar ty ad u).run Tryz.prog w = .ok () w') (h : K undef w') : EffAt Tryz.prog o a w K := by
 unfold EffAt execOp
 simp only [ho, hx, hy, Instr.storeAt, Instr.sureAddr, Sem.run_bind, Sem.run_pure, Result.andThen_ok, hrun, effUpon]
 exact h
def Onl (W W' : World) (g : Nat) : Prop := W.grownBy W' (some g)
theorem Onl.refl (W : World) (g : Nat) : Onl W W g := World.grownBy.refl W (some g)
theorem Onl.size {W W' : World} {g : Nat} (h : Onl W W' g) : W.heap.size ≤ W'.heap.size := World.grownBy.size h
theorem Onl.block {W W' : World} {g : Nat} (h : Onl W W' g) {k : Nat} (hk : k < W.heap.size) (hn : k ≠ g) : W'.heap[k]? = W.heap[k]? := World.grownBy.block h k hk (fun e => hn (Option.some.inj e))
theorem Onl.trans {W W' W2 : World} {g : Nat} (h : Onl W W' g) (h2 : Onl W' W2 g) : Onl W W2 g :=
 ⟨h2.os.trans h.os, h2.tape.trans h.tape, h2.output.trans h.output, Nat.le_trans (World.grownBy.size h) (World.grownBy.size h2), fun k hk hn => (World.grownBy.block h2 k (Nat.lt_of_lt_of_le hk (World.grownBy.size h)) hn).trans (World.grownBy.block h k hk hn)⟩
theorem Onl.of_gr {W W' : World} (h : Gr W W') (g : Nat) : Onl W W' g := by
 have b := h.below
 exact ⟨b.os, b.tape, b.output, b.size, fun k hk _ => b.block k hk⟩
theorem Onl.set (W : World) (g i : Nat) (v : Value) : Onl W (W.setCell ⟨g, i, none⟩ v) g :=
 ⟨rfl, rfl, rfl, by simp [World.setCell], fun k hk hn => Below.heap_setCell W ⟨g, i, none⟩ v k (fun e => hn (by rw [e]))⟩
theorem Onl.gr {w0 W W' : World} {g : Nat} (h : Onl W W' g) (h0 : Gr w0 W) (hg : w0.heap.size ≤ g) : Gr w0 W' := by
 have b := h0.below
 exact Gr.of ⟨h.os.trans b.os, h.tape.trans b.tape, h.output.trans b.output, Nat.le_trans b.size h.size, fun k hk => (h.block (Nat.lt_of_lt_of_le hk b.size) (by omega)).trans (b.block k hk)⟩
theorem Onl.old {W W' : World} {g b : Nat} (h : Onl W W' g) [o : Old b W] : Old b W' := ⟨Nat.lt_of_lt_of_le o.lt h.size⟩
theorem wrapS (n : Nat) (h : n < 9223372036854775808) : IntKind.i64.wrap (n : Int) = (n : Int) := by rw [IntKind.wrap_i64]; omega
theorem nan_any (x : Int) (w : World) : Calls Tryz.prog 174 #[.int .u64 x] w fun e w' => e = .returned (.bool false) ∧ Gr w w' := by
 have h : (x != x) = false := by simp
 go_enter Tryz.func174, Tryz.ntmps174
 go_wp2
 go_ret
 exact ⟨by simp, gri⟩
theorem less_any (x y : Int) (w : World) : Calls Tryz.prog 141 #[.int .u64 x, .int .u64 y] w fun e w' => e = .returned (.bool (decide (x < y))) ∧ Gr w w' := by
 have HN := Lib.hid (fun z W => nan_any z W)
 go_enter Tryz.func141, Tryz.ntmps141
 go_wp2_with ((go_at_call 174; ((with_reducible refine (HN.out _ _).mono ?_); rintro _ _ ⟨rfl, g, rfl⟩)))
 go_ret
 exact ⟨by simp, gri⟩
theorem less_yes {x y : Int} (h : x < y) (w : World) : Calls Tryz.prog 141 #[.int .u64 x, .int .u64 y] w fun e w' => e = .returned (.bool true) ∧ Gr w w' := by
 have := less_any x y w
 rwa [decide_eq_true h] at this
theorem less_no {x y : Int} (h : ¬ x < y) (w : World) : Calls Tryz.prog 141 #[.int .u64 x, .int .u64 y] w fun e w' => e = .returned (.bool false) ∧ Gr w w' := by
 have := less_any x y w
 rwa [decide_eq_false h] at this
end Go.Proofs.YtipeblmgochdfaaGreat
namespace Go.Proofs.YtipeblmgochdfaaGreat
open Go.RowKit Go.Shelf
set_option linter.unusedVariables false
set_option linter.unusedSimpArgs false
set_option linter.unnecessarySimpa false
set_option maxRecDepth 100000
attribute [local go_sem] Oper.semAt_some
section
variable {α β : Type} {e : EK α}
def LJ (e : EK α) (base X m : Nat) (T : TypeId) (w : World) (f : List β → List α) (pre : List β) (W : World) : Prop := (∃ v, BlockAt W X #[v] T ∧ OwnN e base W v (f pre)) ∧ Below base w W ∧ m ≤ W.heap.size
theorem LJ.own {base X m : Nat} {T : TypeId} {w : World} {f : List β → List α} {B : Nat} (hB : base ≤ B) (hw : base ≤ w.heap.size) : OwnFrom B (LJ e base X m T w f) := fun s W W' row hs hg hr => by
 obtain ⟨⟨v, hv, ho⟩, hb, hm⟩ := hs
 have hc : ∀ (k : Nat) cs t fz, W.heap[k]? = some (Obj.cells cs t fz) → W'.heap[k]? = W.heap[k]? := fun k cs t fz hk => hg.block k (Array.getElem?_eq_some_iff.1 hk).1 (fun e2 => by
  obtain ⟨_, o, h1, h2⟩ := hr k e2.symm
  rw [hk] at h1; cases h1; cases h2)
 refine ⟨⟨v, ⟨(hc X _ _ _ hv.eq).trans hv.eq⟩, ho.keep fun k hk => ?_⟩, hb.grown hg (Nat.le_trans hw hb.size) (fun k e2 => Nat.le_trans hB (hr k e2).1), Nat.le_trans hm hg.size⟩
 rcases ho.own.2 with ⟨rfl, _⟩ | ⟨g, cap, cur, rfl, _, hh, _⟩
 ·cases hk
 ·have : k = g := by simpa [Value.ownBlock] using hk.symm
  subst this
  exact hc _ _ _ _ hh
theorem KeepsWalks.of_app {base : Nat} {W W' : World} {v v' : Value} {xs ys : List α} (h : AppN e base W v xs ys v' W') : KeepsWalks W W' := ⟨h.size, fun k o hk ho => (h.block k (Array.getElem?_eq_some_iff.1 hk).1 (fun cs f h2 => by rw [hk] at h2; cases h2; cases ho)).trans hk⟩
theorem KeepsWalks.of_gr {W W' : World} (g : Gr W W') : KeepsWalks W W' := ⟨g.below.size, fun k o hk _ => (g.below.block k (Array.getElem?_eq_some_iff.1 hk).1).trans hk⟩
end
set_option maxHeartbeats 4000000 in
theorem appseqU (Bm b : Nat) (L : List (Int × Value)) (hL : L.length ≤ 1000000) (w : World) (h1m : BlockAt w Bm #[.map (some b)] 99) (hm : MapAt .u64 w b L) : Calls Tryz.prog 131 #[.slice none 0 0, .func (.func 101) #[] #[.pointer (some ⟨Bm, 0, none⟩)]] w fun e w' => ∃ v xs, e = .returned v ∧ OwnN sE w.heap.size w' v xs ∧ xs.Perm (L.map (·.1)) ∧ Gr w w' := by
 refine (callsIn_wide (n := 3)).1 ?_
 have h1 : 1 ≤ 3 := by omega
 refine callsIn_of_wp_marks Tryz.func131 rfl trivial ?_ rfl
 simp only [Tryz.ntmps131, List.size_toArray, List.length_cons, List.length_nil, Nat.reduceAdd, Nat.reduceSub, Array.replicate_succ, Array.replicate_zero, List.push_toArray, List.append_toArray, List.nil_append, List.cons_append]
 have hnf : ∀ (W : World) (A : Array Value), (binOp .eql 151 (.func (.func 101) #[] A) .nilFunc).run Tryz.prog W = .ok (.bool false) W := fun W A => by kernel_rfl
 gi_wp2
 obtain ⟨W0, hW0⟩ : ∃ W0, w.alloc (.cells #[.slice none 0 0] 80) = W0 := ⟨_, rfl⟩
 have hs0 : W0.heap.size = w.heap.size + 1 := by rw [← hW0]; simp
 have hbX : BlockAt W0 w.heap.size #[.slice none 0 0] 80 := by rw [← hW0]; infer_instance
 have hg0 : Gr w W0 := by rw [← hW0]; exact gri
 rw [hW0]
 refine wpIn_rangeFunc_ownH (F := Fence.wide) (n := 3) rfl h1 (gf := 101) (lb := #[.pointer (some ⟨Bm, 0, none⟩)]) rfl trivial (enters_of Tryz.func101 (by kernel_rfl) rfl)
  (keysu_stops (3 - 1) (by omega) Bm b L W0 (h1m.gr hg0) (hm.gr hg0)) (fun h k => h.trans k) (fun W l o o' hl ho _ hc' => KeepsWalks.putObj _ ho hc') (Below.refl _ _) (fun _ => rfl)
  (LJ sE w.heap.size w.heap.size W0.heap.size 80 w (fun pre : List Int => pre)) (fun _ _ _ => False) (LJ.own (by omega) (Nat.le_refl _)) (fun _ _ _ _ _ h _ _ => h.elim) ⟨⟨_, hbX, OwnN.nil _ _⟩, hg0.below, Nat.le_refl _⟩
  (fun x a' W => a' = { tmps := #[.slice none 0 0, .func (.func 101) #[] #[.pointer (some ⟨Bm, 0, none⟩)], .pointer (some ⟨w.heap.size, 0, none⟩), undef, .slice none 0 0, .int .u64 x, .func (.func 101) #[] #[.pointer (some ⟨Bm, 0, none⟩)], .int .u64 x, undef, undef, undef, undef, undef], defers := [] })
  (fun x a' s W W' row hs hg hr => hs) ?assign ?body ?done ?stop
 case assign =>
  rintro l pre x W K ⟨⟨v, hv, ho⟩, hb, hm⟩ hK
  gi_wp2
  exact hK _ _ ((KeepsOthers.refl _).from _) (KeepsWalks.refl _) ⟨⟨v, hv, ho⟩, hb, hm⟩ rfl
 case body =>
  rintro l pre x a' W hl ⟨r, hr⟩ ⟨⟨v, hv, ho⟩, hb, hm⟩ rfl hN
  have x0 : W.cell? ⟨w.heap.size, 0, none⟩ = some v := (@block_cells _ _ 0 _ _ hv).trans rfl
  have u0 : W.frozen? ⟨w.heap.size, 0, none⟩ = false := @block_frozen _ _ 0 _ _ hv
  haveI := hv.old
  have hsz := hb.size
  have HV := Lib.hid hv
  have HO := Lib.hid ho
  have HB := Lib.hid hb
  have HL : Hid (pre.length ≤ 2000000) := Lib.hid (by omega)
  have HSZ := Lib.hid hsz
  clear hv ho hb hr hN hsz hbX hg0 hW0 h1m
  gi_wp2_with (first | (gi_at_builtin; refine wpIn_append_n (v := v) sIs rfl _ _ rfl rfl (HO.out.gr gri) _ 0 [x] 1 1 rfl rfl (fun _ _ => trivial) (CellsN.block _ inferInstance rfl) (by have := HL.out; simp; omega) (by have := HSZ.out; simp; omega) (by simp) ?_; intro v1 W1 h1; obtain ⟨A1, c1, hv1, _, _, _⟩ := h1.own.form sIs; simp only [List.length_append, List.length_map, List.length_cons, List.length_nil, Nat.zero_add] at hv1; subst hv1; have H1 := Lib.hid h1; clear h1; have z0 := (@block_cells _ _ 0 _ _ (H1.out.keep _ _ _ (HV.out.gr gri) (by decide))).trans rfl; have zf := @block_frozen _ _ 0 _ _ (H1.out.keep _ _ _ (HV.out.gr gri) (by decide))))
  haveI hX1 := H1.out.keep _ _ _ (HV.out.gr gri) (by decide)
  refine ⟨(((KeepsOthers.of_gr (gri : Gr W _)).trans (KeepsOthers.of_app H1.out)).trans (KeepsOthers.setCell _ _ _)).from _, ((KeepsWalks.of_gr (gri : Gr W _)).trans (KeepsWalks.of_app H1.out)).trans (KeepsWalks.setCell _ _ _), ⟨(.slice A1 (pre.length + 1) c1 : Value), ?blk, ?own⟩, ?bel, ?siz⟩
  case blk =>
   show BlockAt _ _ (#[v].setIfInBounds 0 _) _
   infer_instance
  case own =>
   exact H1.out.own.set_ w.heap.size 0 (.slice A1 (pre.length + 1) c1) (by decide)
  case bel =>
   exact ((HB.out.alloc HSZ.out _).trans (H1.out.below)).setCell (p := ⟨w.heap.size, 0, none⟩) (Nat.le_refl _) _
  case siz =>
   have := H1.out.size
   simp [World.setCell] at this ⊢
   omega
 case done =>
  rintro D ys W hD hS ⟨⟨v, hv, ho⟩, hb, hm⟩ hK
  have x0 : W.cell? ⟨w.heap.size, 0, none⟩ = some v := (@block_cells _ _ 0 _ _ hv).trans rfl
  have HO := Lib.hid ho
  have HB := Lib.hid hb
  have HV := Lib.hid hv
  have HS := Lib.hid hS
  clear ho hb hv hbX hg0 hW0 hS
  gi_wp2
  refine ⟨by simp, .inl ⟨_, _, rfl, run_takeDeferred hK, ?_⟩⟩
  exact ⟨_, results_tmp rfl _ _ _, v, rfl, ys, HO.out.put D _ _ hK rfl, HS.out, Gr.of (HB.out.trans (belowK_b (Nat.le_refl _) W D _ _ (by omega) hK rfl rfl))⟩
 case stop =>
  rintro D c pre W hD _ h _
  exact h.elim
end Go.Proofs.YtipeblmgochdfaaGreat
namespace Go.Proofs.YtipeblmgochdfaaGreat.I
open Go.RowKit
set_option linter.unusedVariables false
set_option linter.unusedSimpArgs false
set_option linter.unnecessarySimpa false
set_option maxRecDepth 100000
set_option maxHeartbeats 4000000

def sE : EK Int := ⟨fun x => [.int .i64 x], 1, 3, 34, 8, .int .i64 0, fun _ => True⟩
theorem sIs : sE.Is where
 len := fun _ _ => rfl
 one := fun x _ v hv => by
  simp only [sE, List.mem_cons, List.mem_nil_iff, or_false] at hv
  subst hv; rfl
 pos := by decide
 hT := Tryz.underlying34
 hE := by kernel_rfl
 hz := rfl
 hb := by decide
structure SA (base : Nat) (W : World) (g n c : Nat) (xs : List Int) : Prop where
 own : OwnN sE base W (.slice (some ⟨g, 0, none⟩) n c) xs
theorem SA.gr {base : Nat} {W W' : World} {g n c : Nat} {xs : List Int} (h : SA base W g n c xs) (k : Gr W W') : SA base W' g n c xs := ⟨h.own.gr k⟩
theorem SA.blk {base : Nat} {W : World} {g n c : Nat} {xs : List Int} (h : SA base W g n c xs) : ∃ cs, W.heap[g]? = some (.cells cs 3 (0, 0)) := by
 rcases h.own.own.2 with ⟨e, _⟩ | ⟨g', cap, cur, e, _, hh, _⟩
 ·cases e
 ·cases e
  exact ⟨cur, hh⟩
theorem SA.lt {base : Nat} {W : World} {g n c : Nat} {xs : List Int} (h : SA base W g n c xs) : g < W.heap.size := by
 obtain ⟨cs, e⟩ := h.blk
 exact (Array.getElem?_eq_some_iff.1 e).1
theorem SA.ge {base : Nat} {W : World} {g n c : Nat} {xs : List Int} (h : SA base W g n c xs) : base ≤ g := (h.own.lt g rfl).1
theorem SA.len {base : Nat} {W : World} {g n c : Nat} {xs : List Int} (h : SA base W g n c xs) : xs.length = n := by
 rcases h.own.own.2 with ⟨e, _⟩ | ⟨g', cap, cur, e, _⟩
 ·cases e
 ·simp only [Value.slice.injEq] at e; exact e.2.1.symm
theorem SA.frozen {base : Nat} {W : World} {g n c : Nat} {xs : List Int} (h : SA base W g n c xs) (i : Nat) : W.frozen? ⟨g, i, none⟩ = false := by
 obtain ⟨cs, e⟩ := h.blk
 simp [World.frozen?, e]
theorem SA.cell {base : Nat} {W : World} {g n c : Nat} {xs : List Int} (h : SA base W g n c xs) (i : Nat) (hi : i < xs.length) : W.cell? ⟨g, i, none⟩ = some (.int .i64 (at0 xs i)) := by
 have hne : xs ≠ [] := by rintro rfl; simp at hi
 obtain ⟨g', c', e, _, _, _, _, hc, _⟩ := h.own.cells sIs hne
 simp only [Value.slice.injEq, Option.some.injEq, Addr.mk.injEq] at e
 have := hc i (at0 xs i) (at0_get hi) 0 _ rfl
 have e1 : sE.k = 1 := rfl
 rw [e1, Nat.mul_one, Nat.zero_add, Nat.add_zero, ← e.1.1] at this
 exact this
theorem SA.put {base : Nat} {W : World} {g n c : Nat} {xs : List Int} (h : SA base W g n c xs) (i : Nat) (y : Int) (hi : i < xs.length) : SA base (W.setCell ⟨g, i, none⟩ (.int .i64 y)) g n c (xs.set i y) := by
 have := h.own.store sIs i 0 (at0 xs i) y (.int .i64 y) (at0_get hi) (by decide) rfl trivial
 have e1 : sE.k = 1 := rfl
 rw [e1, Nat.mul_one, Nat.add_zero] at this
 exact ⟨this⟩
theorem effAt_stS {w w' : World} {o : Oper} {a : Act} {K : Value → World → Prop} {ty : TypeId} {x y : Operand} {ad : Addr} {u : Value} (ho : o.op = .store ty x y) (hx : a.eval x = .pointer (some ad)) (hy : a.eval y = u) (hrun : (storeVar ty ad u).run Tryz.prog w = .ok () w') (h : K undef w') : EffAt Tryz.prog o a w K := by
 unfold EffAt execOp
 simp only [ho, hx, hy, Instr.storeAt, Instr.sureAddr, Sem.run_bind, Sem.run_pure, Result.andThen_ok, hrun, effUpon]
 exact h
def Onl (W W' : World) (g : Nat) : Prop := W.grownBy W' (some g)
theorem Onl.refl (W : World) (g : Nat) : Onl W W g := World.grownBy.refl W (some g)
theorem Onl.size {W W' : World} {g : Nat} (h : Onl W W' g) : W.heap.size ≤ W'.heap.size := World.grownBy.size h
theorem Onl.block {W W' : World} {g : Nat} (h : Onl W W' g) {k : Nat} (hk : k < W.heap.size) (hn : k ≠ g) : W'.heap[k]? = W.heap[k]? := World.grownBy.block h k hk (fun e => hn (Option.some.inj e))
theorem Onl.trans {W W' W2 : World} {g : Nat} (h : Onl W W' g) (h2 : Onl W' W2 g) : Onl W W2 g :=
 ⟨h2.os.trans h.os, h2.tape.trans h.tape, h2.output.trans h.output, Nat.le_trans (World.grownBy.size h) (World.grownBy.size h2), fun k hk hn => (World.grownBy.block h2 k (Nat.lt_of_lt_of_le hk (World.grownBy.size h)) hn).trans (World.grownBy.block h k hk hn)⟩
theorem Onl.of_gr {W W' : World} (h : Gr W W') (g : Nat) : Onl W W' g := by
 have b := h.below
 exact ⟨b.os, b.tape, b.output, b.size, fun k hk _ => b.block k hk⟩
theorem Onl.set (W : World) (g i : Nat) (v : Value) : Onl W (W.setCell ⟨g, i, none⟩ v) g :=
 ⟨rfl, rfl, rfl, by simp [World.setCell], fun k hk hn => Below.heap_setCell W ⟨g, i, none⟩ v k (fun e => hn (by rw [e]))⟩
theorem Onl.gr {w0 W W' : World} {g : Nat} (h : Onl W W' g) (h0 : Gr w0 W) (hg : w0.heap.size ≤ g) : Gr w0 W' := by
 have b := h0.below
 exact Gr.of ⟨h.os.trans b.os, h.tape.trans b.tape, h.output.trans b.output, Nat.le_trans b.size h.size, fun k hk => (h.block (Nat.lt_of_lt_of_le hk b.size) (by omega)).trans (b.block k hk)⟩
theorem Onl.old {W W' : World} {g b : Nat} (h : Onl W W' g) [o : Old b W] : Old b W' := ⟨Nat.lt_of_lt_of_le o.lt h.size⟩
theorem wrapS (n : Nat) (h : n < 9223372036854775808) : IntKind.i64.wrap (n : Int) = (n : Int) := by rw [IntKind.wrap_i64]; omega
theorem nan_any (x : Int) (w : World) : Calls Tryz.prog 185 #[.int .i64 x] w fun e w' => e = .returned (.bool false) ∧ Gr w w' := by
 have h : (x != x) = false := by simp
 go_enter Tryz.func185, Tryz.ntmps185
 go_wp2
 go_ret
 exact ⟨by simp, gri⟩
theorem less_any (x y : Int) (w : World) : Calls Tryz.prog 163 #[.int .i64 x, .int .i64 y] w fun e w' => e = .returned (.bool (decide (x < y))) ∧ Gr w w' := by
 have HN := Lib.hid (fun z W => nan_any z W)
 go_enter Tryz.func163, Tryz.ntmps163
 go_wp2_with ((go_at_call 185; ((with_reducible refine (HN.out _ _).mono ?_); rintro _ _ ⟨rfl, g, rfl⟩)))
 go_ret
 exact ⟨by simp, gri⟩
theorem less_yes {x y : Int} (h : x < y) (w : World) : Calls Tryz.prog 163 #[.int .i64 x, .int .i64 y] w fun e w' => e = .returned (.bool true) ∧ Gr w w' := by
 have := less_any x y w
 rwa [decide_eq_true h] at this
theorem less_no {x y : Int} (h : ¬ x < y) (w : World) : Calls Tryz.prog 163 #[.int .i64 x, .int .i64 y] w fun e w' => e = .returned (.bool false) ∧ Gr w w' := by
 have := less_any x y w
 rwa [decide_eq_false h] at this
end Go.Proofs.YtipeblmgochdfaaGreat.I
namespace Go.Proofs.YtipeblmgochdfaaGreat.I
open Go.RowKit Go.Shelf Go.MapKept
set_option linter.unusedVariables false
set_option linter.unusedSimpArgs false
set_option linter.unnecessarySimpa false
set_option maxRecDepth 100000
attribute [local go_sem] Oper.semAt_some
set_option maxHeartbeats 4000000 in
theorem appseqI (Bm b : Nat) (L : List (Int × Value)) (hL : L.length ≤ 1000000) (w : World) (h1m : BlockAt w Bm #[.map (some b)] 113) (hm : MapAt .i64 w b L) : Calls Tryz.prog 134 #[.slice none 0 0, .func (.func 104) #[] #[.pointer (some ⟨Bm, 0, none⟩)]] w fun e w' => ∃ v xs, e = .returned v ∧ OwnN sE w.heap.size w' v xs ∧ xs.Perm (L.map (·.1)) ∧ Gr w w' := by
 refine (callsIn_wide (n := 3)).1 ?_
 have h1 : 1 ≤ 3 := by omega
 refine callsIn_of_wp_marks Tryz.func134 rfl trivial ?_ rfl
 simp only [Tryz.ntmps134, List.size_toArray, List.length_cons, List.length_nil, Nat.reduceAdd, Nat.reduceSub, Array.replicate_succ, Array.replicate_zero, List.push_toArray, List.append_toArray, List.nil_append, List.cons_append]
 have hnf : ∀ (W : World) (A : Array Value), (binOp .eql 155 (.func (.func 104) #[] A) .nilFunc).run Tryz.prog W = .ok (.bool false) W := fun W A => by kernel_rfl
 gi_wp2
 obtain ⟨W0, hW0⟩ : ∃ W0, w.alloc (.cells #[.slice none 0 0] 34) = W0 := ⟨_, rfl⟩
 have hs0 : W0.heap.size = w.heap.size + 1 := by rw [← hW0]; simp
 have hbX : BlockAt W0 w.heap.size #[.slice none 0 0] 34 := by rw [← hW0]; infer_instance
 have hg0 : Gr w W0 := by rw [← hW0]; exact gri
 rw [hW0]
 refine wpIn_rangeFunc_ownH (F := Fence.wide) (n := 3) rfl h1 (gf := 104) (lb := #[.pointer (some ⟨Bm, 0, none⟩)]) rfl trivial (enters_of Tryz.func104 (by kernel_rfl) rfl)
  (keysi_stops (3 - 1) (by omega) Bm b L W0 (h1m.gr hg0) (hm.gr hg0)) (fun h k => h.trans k) (fun W l o o' hl ho _ hc' => KeepsWalks.putObj _ ho hc') (Below.refl _ _) (fun _ => rfl)
  (LJ sE w.heap.size w.heap.size W0.heap.size 34 w (fun pre : List Int => pre)) (fun _ _ _ => False) (LJ.own (by omega) (Nat.le_refl _)) (fun _ _ _ _ _ h _ _ => h.elim) ⟨⟨_, hbX, OwnN.nil _ _⟩, hg0.below, Nat.le_refl _⟩
  (fun x a' W => a' = { tmps := #[.slice none 0 0, .func (.func 104) #[] #[.pointer (some ⟨Bm, 0, none⟩)], .pointer (some ⟨w.heap.size, 0, none⟩), undef, .slice none 0 0, .int .i64 x, .func (.func 104) #[] #[.pointer (some ⟨Bm, 0, none⟩)], .int .i64 x, undef, undef, undef, undef, undef], defers := [] })
  (fun x a' s W W' row hs hg hr => hs) ?assign ?body ?done ?stop
 case assign =>
  rintro l pre x W K ⟨⟨v, hv, ho⟩, hb, hm⟩ hK
  gi_wp2
  exact hK _ _ ((KeepsOthers.refl _).from _) (KeepsWalks.refl _) ⟨⟨v, hv, ho⟩, hb, hm⟩ rfl
 case body =>
  rintro l pre x a' W hl ⟨r, hr⟩ ⟨⟨v, hv, ho⟩, hb, hm⟩ rfl hN
  have x0 : W.cell? ⟨w.heap.size, 0, none⟩ = some v := (@block_cells _ _ 0 _ _ hv).trans rfl
  have u0 : W.frozen? ⟨w.heap.size, 0, none⟩ = false := @block_frozen _ _ 0 _ _ hv
  haveI := hv.old
  have hsz := hb.size
  have HV := Lib.hid hv
  have HO := Lib.hid ho
  have HB := Lib.hid hb
  have HL : Hid (pre.length ≤ 2000000) := Lib.hid (by omega)
  have HSZ := Lib.hid hsz
  clear hv ho hb hr hN hsz hbX hg0 hW0 h1m
  gi_wp2_with (first | (gi_at_builtin; refine wpIn_append_n (v := v) sIs rfl _ _ rfl rfl (HO.out.gr gri) _ 0 [x] 1 1 rfl rfl (fun _ _ => trivial) (CellsN.block _ inferInstance rfl) (by have := HL.out; simp; omega) (by have := HSZ.out; simp; omega) (by simp) ?_; intro v1 W1 h1; obtain ⟨A1, c1, hv1, _, _, _⟩ := h1.own.form sIs; simp only [List.length_append, List.length_map, List.length_cons, List.length_nil, Nat.zero_add] at hv1; subst hv1; have H1 := Lib.hid h1; clear h1; have z0 := (@block_cells _ _ 0 _ _ (H1.out.keep _ _ _ (HV.out.gr gri) (by decide))).trans rfl; have zf := @block_frozen _ _ 0 _ _ (H1.out.keep _ _ _ (HV.out.gr gri) (by decide))))
  haveI hX1 := H1.out.keep _ _ _ (HV.out.gr gri) (by decide)
  refine ⟨(((KeepsOthers.of_gr (gri : Gr W _)).trans (KeepsOthers.of_app H1.out)).trans (KeepsOthers.setCell _ _ _)).from _, ((KeepsWalks.of_gr (gri : Gr W _)).trans (KeepsWalks.of_app H1.out)).trans (KeepsWalks.setCell _ _ _), ⟨(.slice A1 (pre.length + 1) c1 : Value), ?blk, ?own⟩, ?bel, ?siz⟩
  case blk =>
   show BlockAt _ _ (#[v].setIfInBounds 0 _) _
   infer_instance
  case own =>
   exact H1.out.own.set_ w.heap.size 0 (.slice A1 (pre.length + 1) c1) (by decide)
  case bel =>
   exact ((HB.out.alloc HSZ.out _).trans (H1.out.below)).setCell (p := ⟨w.heap.size, 0, none⟩) (Nat.le_refl _) _
  case siz =>
   have := H1.out.size
   simp [World.setCell] at this ⊢
   omega
 case done =>
  rintro D ys W hD hS ⟨⟨v, hv, ho⟩, hb, hm⟩ hK
  have x0 : W.cell? ⟨w.heap.size, 0, none⟩ = some v := (@block_cells _ _ 0 _ _ hv).trans rfl
  have HO := Lib.hid ho
  have HB := Lib.hid hb
  have HV := Lib.hid hv
  have HS := Lib.hid hS
  clear ho hb hv hbX hg0 hW0 hS
  gi_wp2
  refine ⟨by simp, .inl ⟨_, _, rfl, run_takeDeferred hK, ?_⟩⟩
  exact ⟨_, results_tmp rfl _ _ _, v, rfl, ys, HO.out.put D _ _ hK rfl, HS.out, Gr.of (HB.out.trans (belowK_b (Nat.le_refl _) W D _ _ (by omega) hK rfl rfl))⟩
 case stop =>
  rintro D c pre W hD _ h _
  exact h.elim
end Go.Proofs.YtipeblmgochdfaaGreat.I
