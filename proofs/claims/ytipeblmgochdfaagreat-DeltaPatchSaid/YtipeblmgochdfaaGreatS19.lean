/- The reference of layer 29: Kind, Check. Conditions: the device stands in memory. The reference's Rows. Conditions: the device stands in memory. The reference of layer 29: Patch. Conditions: the device stands in memory. Plain: a patch makes the left volume the right one, and then there is nothing to be done. Conditions: none. The reference's Low of four bytes; its device's Bytes. Conditions: numbers below 2^32; the device stands in memory. The reference's device: a volume's whole element is stored. Conditions: the device stands in memory. A row of bytes as a string; the reference's Same. Conditions: what is read stands in memory. The law's sameOps. Conditions: the operations and their data stand in memory. Operations that came in as an argument, opened. Conditions: none. -/
import Derived.Test.YtipeblmgochdfaaGreatS05
import Derived.Test.YtipeblmgochdfaaGreatS13
import Derived.Test.YtipeblmgochdfaaGreatS18
import Derived.Test.YtipeblmgochdfaaGreatS14
import Derived.Test.YtipeblmgochdfaaGreatS17
import Derived.Test.YtipeblmgochdfaaGreatS07
import Derived.Test.YtipeblmgochdfaaGreatS01
import Derived.Laws.BytesArg
import Derived.Test.YtipeblmgochdfaaGreatS12
import Derived.ChangeSlices
namespace Go.Proofs.YtipeblmgochdfaaGreat
open Go.RowKit
set_option linter.unusedVariables false
set_option linter.unusedSimpArgs false
set_option linter.unnecessarySimpa false
set_option maxRecDepth 100000
set_option maxHeartbeats 4000000
theorem besK_cases (x y : Option Byt) : besK x y = if x.isSome = false ∧ y.isSome = false then 1 else if y.isSome = false then 5 else if x.isSome = false then 6 else if x.getD zB = y.getD zB then 3 else 4 := by
 cases x <;> cases y <;> simp [besK]
theorem wpStoreBH {w0 W : World} {ops : Array Oper} {rest : List Oper} {o : Oper} {a : Act} {Q : Exit → Act → World → Prop} (hg : Gr w0 W) (hgd : o.guard = none) (x y : Operand) (ho : o.op = .store 88 x y) (B : Nat) (zs cs : Array Value) (hx : a.eval x = .pointer (some ⟨B, 0, none⟩)) (hy : a.eval y = .agg cs) (hB : BlockAt W B zs 88) (hb : w0.heap.size ≤ B) (hz : CellRow 256 zs) (hc : CellRow 256 cs)
  (h : ∀ g : Growth w0, BlockAt (grown w0 g) B cs 88 → wpList Tryz.prog ops Q rest (a.put o.dst undef) (grown w0 g)) : wpList Tryz.prog ops Q (o :: rest) a W := by
 refine wpStoreB hgd x y ho B zs cs hx hy hB hz hc ?_
 have hG : Gr w0 (W.setRow B cs) := Gr.of (hg.below.trans ⟨rfl, rfl, rfl, by simp [World.setRow], fun k hk => by
  simp only [World.setRow, Array.getElem?_modify]
  rw [if_neg (by omega)]⟩)
 have hB2 : BlockAt (W.setRow B cs) B cs 88 := ⟨setRow_heap W B zs _ _ _ hB.eq⟩
 obtain ⟨g, e⟩ := hG
 rw [e] at hB2 ⊢
 exact h g hB2
theorem rkind_any (base R : Nat) (d : Dev) (i j : Nat) (pi pj : Int × VolM) (hi : d[i]? = some pi) (hj : d[j]? = some pj) (b : Int) (w : World) (h : RefAt base w R d) :
  Calls Tryz.prog 49 #[.pointer (some ⟨R, 0, none⟩), .int .i64 (i : Int), .int .i64 (j : Int), .int .i64 b] w fun e w' => e = .returned (.int .i64 (besK (getK pi.2.2 b) (getK pj.2.2 b))) ∧ Gr w w' := by
 obtain ⟨v, vf, h⟩ := h
 have hne : d ≠ [] := by rintro rfl; simp at hi
 obtain ⟨g, c, rfl, hbg, hgl, hgR, hc1, hc2, hty, hcl⟩ := h.form hne
 have hil : i < d.length := (List.getElem?_eq_some_iff.1 hi).1
 have hjl : j < d.length := (List.getElem?_eq_some_iff.1 hj).1
 have hm9 : d.length ≤ maxLen := Nat.le_trans hc1 hc2
 unfold maxLen at hm9
 have x0 : w.cell? ⟨R, 0, none⟩ = some (.slice (some ⟨g, 0, none⟩) d.length c) := (@block_cells _ _ 0 _ _ h.blk).trans rfl
 haveI : Old R w := h.blk.old
 haveI : Old g w := ⟨hgl⟩
 have ci := (hcl i _ hi).2.2
 have cj := (hcl j _ hj).2.2
 have hbi := h.vol _ (List.mem_of_getElem? hi)
 have hbj := h.vol _ (List.mem_of_getElem? hj)
 have H1 := Lib.hid (fun W (hW : Gr w W) => rget_any g (i * 3) (vf pi.1) pi.2.2 b W ((hW.below.cell (p := ⟨g, i * 3 + 2, none⟩) hgl).trans ci) (hbi.gr hW))
 have H2 := Lib.hid (fun W (hW : Gr w W) => rget_any g (j * 3) (vf pj.1) pj.2.2 b W ((hW.below.cell (p := ⟨g, j * 3 + 2, none⟩) hgl).trans cj) (hbj.gr hW))
 have hok1 := h.ok.vols _ (List.mem_of_getElem? hi)
 have hok2 := h.ok.vols _ (List.mem_of_getElem? hj)
 have l1 : ((getK pi.2.2 b).getD zB).length = 256 := by
  cases hg : getK pi.2.2 b with
  | none => exact zB_len
  | some B => exact hok1.len _ ((getK_mem hok1.sort).1 hg)
 have l2 : ((getK pj.2.2 b).getD zB).length = 256 := by
  cases hg : getK pj.2.2 b with
  | none => exact zB_len
  | some B => exact hok2.len _ ((getK_mem hok2.sort).1 hg)
 have HE := fun W => eqBlk _ _ l1 l2 W
 have HK := Lib.hid (besK_cases (getK pi.2.2 b) (getK pj.2.2 b))
 haveI := bkC_row l1
 haveI := bkC_row l2
 obtain ⟨r, hr⟩ : ∃ r, r = besK (getK pi.2.2 b) (getK pj.2.2 b) := ⟨_, rfl⟩
 rw [← hr] at HK ⊢
 generalize (getK pi.2.2 b).isSome = s1 at *
 generalize (getK pj.2.2 b).isSome = s2 at *
 generalize (getK pi.2.2 b).getD zB = B1 at *
 generalize (getK pj.2.2 b).getD zB = B2 at *
 generalize d.length = N at *
 clear hr hcl ci cj hbi hbj hok1 hok2 l1 l2 h hi hj hne
 cases s1 <;> cases s2
 all_goals
  rcases Bool.eq_false_or_eq_true (B1 == B2) with hq | hq
 all_goals
  have HQ := Lib.hid hq
  go_enter Tryz.func49, Tryz.ntmps49
  go_wp2_with (first | (go_at_call 55; ((with_reducible refine (H1.out _ gri).mono ?_); rintro _ _ ⟨rfl, g1, rfl⟩)) | (go_at_call 55; ((with_reducible refine (H2.out _ gri).mono ?_); rintro _ _ ⟨rfl, g2, rfl⟩)) | (refine wpStoreBH (w0 := grown w g8) gri rfl _ _ rfl _ _ _ rfl rfl inferInstance (Past.le (a := grown w g8)) inferInstance inferInstance ?_; intro g9 hB9; haveI := hB9; haveI := hB9.old) | (refine wpStoreBH (w0 := w) gri rfl _ _ rfl _ _ _ rfl rfl inferInstance (Past.le (a := w)) inferInstance inferInstance ?_; intro g8 hB8; haveI := hB8; haveI := hB8.old) | (refine wpLoadB rfl _ rfl _ _ rfl inferInstance inferInstance ?_))
  go_ret
  exact ⟨by have h9 := HK.out; have h8 := HQ.out; simp only [beq_iff_eq, beq_eq_false_iff_ne, ne_eq] at h8; simp [h8] at h9; rw [h9]; rfl, gri⟩
theorem idx_neg (d : Dev) (v : Int) : decide (idxK d v < 0) = !(getK d v).isSome := by
 cases h : getK d v with
 | none => rw [idx_none (findN_none.2 h)]; rfl
 | some x =>
  cases hf : findN d v with
  | none => rw [findN_none, h] at hf; cases hf
  | some i => rw [idx_some hf]; simp
theorem rcheck_any (base R : Nat) (d : Dev) (l : List Int) (b p n c : Nat) (w : World) (h : RefAt base w R d) (hd9 : d.length ≤ 1000000) (hl : l.length = n) (hn : n ≤ 1000) (hb : b < w.heap.size) (hnc : n ≤ c) (hc : ∀ (j : Nat) x, l[j]? = some x → w.cell? ⟨b, p + j, none⟩ = some (.int .u64 x)) :
  Calls Tryz.prog 47 #[.pointer (some ⟨R, 0, none⟩), .slice (some ⟨b, p, none⟩) n c] w fun e w' => e = .returned (.int .i64 (chkK d l)) ∧ Gr w w' := by
 have HL := Lib.hid hl
 have HC := Lib.hid hc
 have HF := Lib.hid (fun W (hW : Gr w W) x => rfind_any base R d x W (h.gr hW) hd9)
 haveI : Old b w := ⟨hb⟩
 obtain ⟨r, hr⟩ : ∃ r, r = chkK d l := ⟨_, rfl⟩
 rw [← hr]
 have HR := Lib.hid hr
 clear hl hc h hr
 go_enter Tryz.func47, Tryz.ntmps47
 go_wp2
 go_loopw [5] (fun i wr => ∃ k : Nat, k ≤ n ∧ i = .int .i64 (k : Int) ∧ (l.take k).Nodup ∧ Gr w wr) (fun i _ => n - (intOf i).toNat)
 case atStart => exact ⟨0, Nat.zero_le _, rfl, List.nodup_nil, gri⟩
 case round =>
  obtain ⟨k, hk, rfl, hnd, hg⟩ := hrel
  obtain ⟨g, rfl⟩ := hg
  have HN := Lib.hid hnd; clear hnd
  by_cases hlt : k < n
  ·obtain ⟨x, hx⟩ : ∃ x, l[k]? = some x := ⟨_, List.getElem?_eq_getElem (by rw [HL.out]; exact hlt)⟩
   have c1 := HC.out k x hx
   have HX := Lib.hid hx; clear hx
   go_wp2
   go_loopw [6] (fun i wr => ∃ j : Nat, j ≤ k ∧ i = .int .i64 (j : Int) ∧ (x ∉ l.take j) ∧ Gr w wr) (fun i _ => k - (intOf i).toNat)
   case atStart => exact ⟨0, Nat.zero_le _, rfl, by simp, gri⟩
   case round =>
    obtain ⟨j, hj, rfl, hnx, hg2⟩ := hrel
    obtain ⟨g2, rfl⟩ := hg2
    have HNX := Lib.hid hnx; clear hnx
    by_cases hlt2 : j < k
    ·obtain ⟨y, hy⟩ : ∃ y, l[j]? = some y := ⟨_, List.getElem?_eq_getElem (by rw [HL.out]; omega)⟩
     have c2 := HC.out j y hy
     have HY := Lib.hid hy; clear hy
     by_cases hq : x = y
     ·have hd := not_nodup hlt2 HY.out (by rw [← hq]; exact HX.out)
      have HDU := Lib.hid (chkK_dup (d := d) hd)
      have hb : (x == y) = true := by simpa using hq
      clear hd hq
      go_wp2
      refine wp_region_grow (by kernel_rfl) (by kernel_rfl) ?_
      repeat (go_big_quiet_step (fail))
      refine wpQuiet_nil ?_
      intro g3
      go_wp2
      go_ret
      exact ⟨by rw [HR.out, HDU.out]; rfl, gri⟩
     ·have hb : (x == y) = false := by simpa using hq
      have HQ := Lib.hid hq; clear hq
      go_wp2
      refine wp_region_grow (by kernel_rfl) (by kernel_rfl) ?_
      repeat (go_big_quiet_step (fail))
      refine wpQuiet_nil ?_
      intro g3
      go_wp2
      go_roundw
      case rel => exact ⟨j + 1, by omega, by go_num, notin_snoc HNX.out HY.out (fun e => HQ.out e.symm), gri⟩
      case measure => simp [intOf]; omega
    ·have : j = k := by omega
     subst this
     go_wp2
     go_roundw
     case rel => exact ⟨j + 1, by omega, by go_num, nodup_snoc HN.out HNX.out HX.out, gri⟩
     case measure => simp [intOf]; omega
  ·have : k = n := by omega
   subst this
   have hnd : l.Nodup := by have := HN.out; rwa [List.take_of_length_le (by rw [HL.out]; omega)] at this
   have HND := Lib.hid hnd; clear hnd
   go_wp2
   go_loopw [7] (fun i wr => ∃ j : Nat, j ≤ k ∧ i = .int .i64 (j : Int) ∧ (∀ x ∈ l.take j, (getK d x).isSome = true) ∧ Gr w wr) (fun i _ => k - (intOf i).toNat)
   case atStart => exact ⟨0, Nat.zero_le _, rfl, by simp, gri⟩
   case round =>
    obtain ⟨j, hj, rfl, hal, hg2⟩ := hrel
    obtain ⟨g2, rfl⟩ := hg2
    have HA := Lib.hid hal; clear hal
    by_cases hlt : j < k
    ·obtain ⟨x, hx⟩ : ∃ x, l[j]? = some x := ⟨_, List.getElem?_eq_getElem (by rw [HL.out]; exact hlt)⟩
     have c1 := HC.out j x hx
     have HX := Lib.hid hx; clear hx
     have hneg := idx_neg d x
     have HF2 := Lib.hid (fun W hW => HF.out W hW x)
     generalize idxK d x = ix at *
     cases hs : (getK d x).isSome
     ·have HM := Lib.hid (chkK_miss HND.out HX.out hs)
      rw [hs] at hneg
      simp only [Bool.not_false] at hneg
      clear hs
      go_wp2_with ((go_at_call 24; ((with_reducible refine (HF2.out _ gri).mono ?_); rintro _ _ ⟨rfl, g1, rfl⟩)))
      go_ret
      exact ⟨by rw [HR.out, HM.out]; rfl, gri⟩
     ·have HS := Lib.hid hs
      rw [hs] at hneg
      simp only [Bool.not_true] at hneg
      clear hs
      go_wp2_with ((go_at_call 24; ((with_reducible refine (HF2.out _ gri).mono ?_); rintro _ _ ⟨rfl, g1, rfl⟩)))
      go_roundw
      case rel => exact ⟨j + 1, by omega, by go_num, by
       intro z hz
       rw [take_one HX.out] at hz
       rcases List.mem_append.1 hz with hz | hz
       ·exact HA.out z hz
       ·rw [List.mem_singleton] at hz; subst hz; exact HS.out, gri⟩
      case measure => simp [intOf]; omega
    ·have : j = k := by omega
     subst this
     have e : l.take j = l := List.take_of_length_le (by rw [HL.out]; omega)
     have HZ := Lib.hid (chkK_ok HND.out (fun x hx => HA.out x (by rw [e]; exact hx)))
     clear e
     go_wp2
     go_ret
     exact ⟨by rw [HR.out, HZ.out]; rfl, gri⟩
set_option maxRecDepth 100000
set_option maxHeartbeats 4000000
theorem chk0 {d : Dev} {l : List Int} (h : chkK d l = 0) {x : Int} (hx : x ∈ l) : (getK d x).isSome = true := by
 unfold chkK at h
 split at h
 ·split at h
  ·next h2 => exact List.all_eq_true.1 h2 x hx
  ·cases h
 ·cases h
theorem find_get {β : Type} {l : List (Int × β)} {n : Int} (h : (getK l n).isSome = true) : ∃ i x, findN l n = some i ∧ l[i]? = some (n, x) ∧ getK l n = some x := by
 cases hf : findN l n with
 | none =>
  exfalso
  rw [findN_none] at hf
  rw [hf] at h; cases h
 | some i =>
  obtain ⟨x, h1, h2⟩ := findN_some hf
  exact ⟨i, x, rfl, h1, h2⟩
theorem check2 (base R : Nat) (d : Dev) (l r : Int) (w : World) (h : RefAt base w R d) (hd9 : d.length ≤ 1000000) (bb : Nat) (hB : BlockAt w bb #[.int .u64 l, .int .u64 r] 28) :
  Calls Tryz.prog 47 #[.pointer (some ⟨R, 0, none⟩), .slice (some ⟨bb, 0, none⟩) 2 2] w fun e w' => e = .returned (.int .i64 (chkK d [l, r])) ∧ Gr w w' :=
 rcheck_any base R d [l, r] bb 0 2 2 w h hd9 rfl (by omega) hB.lt (by omega) (fun j x hx => by
  match j, hx with
  | 0, hx => cases hx; exact (@block_cells _ _ 0 _ _ hB).trans rfl
  | 1, hx => cases hx; exact (@block_cells _ _ 1 _ _ hB).trans rfl
  | k + 2, hx => simp at hx)
set_option maxRecDepth 100000
set_option maxHeartbeats 4000000
theorem oneK_bound9 (v : Int) (b : Nat) (B : Byt) (hB : B.length = 256) (s : Bool) : (oneK v b B s).l.length ≤ 256 ∧ 0 ≤ (oneK v b B s).c ∧ (oneK v b B s).c ≤ 4 := by
 unfold oneK
 split
 ·simp
 ·split <;> simp [hB]
theorem joinK_bound9 (l : List OpM) (o : OpM) (f : Bool) (k : Nat) (hl : l.length ≤ k) (hb : ∀ x ∈ l, x.l.length ≤ 256 * k ∧ 0 ≤ x.c ∧ x.c ≤ 4 * k) (ho : o.l.length ≤ 256 ∧ 0 ≤ o.c ∧ o.c ≤ 4) : (joinK l o f).length ≤ k + 1 ∧ ∀ x ∈ joinK l o f, x.l.length ≤ 256 * (k + 1) ∧ 0 ≤ x.c ∧ x.c ≤ 4 * (k + 1 : Nat) := by
 have hw : ∀ x ∈ l, x.l.length ≤ 256 * (k + 1) ∧ 0 ≤ x.c ∧ x.c ≤ 4 * (k + 1 : Nat) := fun x hx => by have := hb x hx; omega
 have ho' : o.l.length ≤ 256 * (k + 1) ∧ 0 ≤ o.c ∧ o.c ≤ 4 * (k + 1 : Nat) := by omega
 have hA : (l ++ [o]).length ≤ k + 1 ∧ ∀ x ∈ l ++ [o], x.l.length ≤ 256 * (k + 1) ∧ 0 ≤ x.c ∧ x.c ≤ 4 * (k + 1 : Nat) := ⟨by simp; omega, fun x hx => by
  rcases List.mem_append.1 hx with h | h
  ·exact hw x h
  ·rw [List.mem_singleton] at h; subst h; exact ho'⟩
 rcases List.eq_nil_or_concat l with rfl | ⟨zs, x, rfl⟩
 ·simpa [joinK] using hA
 ·rw [List.concat_eq_append] at *
  rw [joinK_last]
  split
  ·exact hA
  ·have hx := hb x (by simp)
   refine ⟨by simp at hl ⊢; omega, fun y hy => ?_⟩
   rcases List.mem_append.1 hy with h | h
   ·exact hw y (List.mem_append_left _ h)
   ·rw [List.mem_singleton] at h; subst h
    refine ⟨?_, ?_, ?_⟩
    ·show (x.l ++ o.l).length ≤ _
     rw [List.length_append]; omega
    ·show 0 ≤ x.c + o.c
     omega
    ·show x.c + o.c ≤ _
     omega
theorem foldG_bound9 (g : Nat → Option OpM) (hg : ∀ i o, g i = some o → o.l.length ≤ 256 ∧ 0 ≤ o.c ∧ o.c ≤ 4) (k : Nat) : (foldG g k).1.length ≤ k ∧ ∀ x ∈ (foldG g k).1, x.l.length ≤ 256 * k ∧ 0 ≤ x.c ∧ x.c ≤ 4 * k := by
 induction k with
 | zero => simp [foldG]
 | succ k ih =>
  obtain ⟨h1, h2⟩ := ih
  have hw : ∀ x ∈ (foldG g k).1, x.l.length ≤ 256 * (k + 1) ∧ 0 ≤ x.c ∧ x.c ≤ 4 * (k + 1 : Nat) := fun x hx => by have := h2 x hx; omega
  show (stepG g (foldG g k) k).1.length ≤ k + 1 ∧ ∀ x ∈ (stepG g (foldG g k) k).1, _
  unfold stepG
  split
  ·exact ⟨Nat.le_succ_of_le h1, hw⟩
  ·next o ho => exact joinK_bound9 _ _ (foldG g k).2 k h1 h2 (hg k o ho)
theorem rpatch_bad (base R : Nat) (d : Dev) (l r : Int) (w : World) (h : RefAt base w R d) (hd9 : d.length ≤ 1000000) (hc : chkK d [l, r] ≠ 0) :
  Calls Tryz.prog 22 #[.pointer (some ⟨R, 0, none⟩), .int .u64 l, .int .u64 r] w (PtQ (patchK d l r) w) := by
 have HC := Lib.hid (fun W (hW : Gr w W) (bb : Nat) hB => check2 base R d l r W (h.gr hW) hd9 bb hB)
 have hne : (chkK d [l, r] != 0) = true := by simpa using hc
 have HP := Lib.hid (show patchK d l r = ([], chkK d [l, r]) from if_neg hc)
 rw [HP.out]
 generalize chkK d [l, r] = k at *
 clear h hc HP
 go_enter Tryz.func22, Tryz.ntmps22
 go_wp2_with ((go_at_call 47; ((with_reducible refine (HC.out _ gri _ inferInstance).mono ?_); rintro _ _ ⟨rfl, g1, rfl⟩)))
 go_ret2
 exact ⟨_, [], rfl, OwnN.nil _ _, rfl, by simp, gri⟩
theorem gen_none {d : Dev} {l r : Int} {i : Nat} (h : kindK d l r i = 1 ∨ kindK d l r i = 3) : genN d r l (needPK d l r) i = none := by
 unfold genN needPK
 rcases h with h | h <;> simp [h]
theorem gen_some {d : Dev} {l r : Int} {i : Nat} (h : ¬ (kindK d l r i = 1 ∨ kindK d l r i = 3)) : genN d r l (needPK d l r) i = some (oneK l i ((blkK d r i).getD zB) (blkK d r i).isSome) := by
 unfold genN oneN
 have hk : kindK d l r i = besK (blkK d l i) (blkK d r i) := rfl
 generalize blkK d l (i : Int) = x at *
 generalize blkK d r (i : Int) = y at *
 have hc : ¬ (besK x y = 1 ∨ besK x y = 3) := by rw [← hk]; exact h
 have h1 : (needPK d l r i).1 = true := by
  unfold needPK
  rw [hk]
  unfold besK at hc ⊢
  cases x <;> cases y <;> simp_all
 have h2 : (needPK d l r i).2 = y.isSome := by
  unfold needPK
  rw [hk]
  unfold besK at hc ⊢
  cases x <;> cases y <;> simp_all
 rw [if_pos h1, h2]
theorem rpatch_good (base R : Nat) (d : Dev) (l r : Int) (w : World) (h : RefAt base w R d) (hd9 : d.length ≤ 1000000) (hc : chkK d [l, r] = 0) :
  Calls Tryz.prog 22 #[.pointer (some ⟨R, 0, none⟩), .int .u64 l, .int .u64 r] w (PtQ (patchK d l r) w) := by
 have hok : DevOk d := by obtain ⟨_, _, h⟩ := h; exact h.ok
 have hyl : ∀ i, ((blkK d r i).getD zB).length = 256 := fun i => blkK_len hok r i
 have HC := Lib.hid (fun W (hW : Gr w W) (bb : Nat) hB => check2 base R d l r W (h.gr hW) hd9 bb hB)
 have HF := Lib.hid (fun W (hW : Gr w W) x => rfind_any base R d x W (h.gr hW) hd9)
 rw [hc] at HC
 obtain ⟨i1, x1, f1, e1, k1⟩ := find_get (chk0 hc (x := l) (by simp))
 obtain ⟨i2, x2, f2, e2, k2⟩ := find_get (chk0 hc (x := r) (by simp))
 have q1 := idx_some f1
 have q2 := idx_some f2
 have FL := Lib.hid (fun W (hW : Gr w W) => HF.out W hW l)
 have FR := Lib.hid (fun W (hW : Gr w W) => HF.out W hW r)
 rw [q1] at FL
 rw [q2] at FR
 clear HF
 have hkk : ∀ b : Int, besK (getK x1.2 b) (getK x2.2 b) = kindK d l r b := fun b => by unfold kindK blkK; rw [k1, k2]; rfl
 have hbb : ∀ b : Int, getK x2.2 b = blkK d r b := fun b => by unfold blkK; rw [k2]; rfl
 have HK := Lib.hid (fun W (hW : Gr w W) (b : Int) => rkind_any base R d i1 i2 _ _ e1 e2 b W (h.gr hW))
 simp only [hkk] at HK
 have hS1 : sizeK d l = x1.1 := by rw [sizeK, k1]; rfl
 have hS2 : sizeK d r = x2.1 := by rw [sizeK, k2]; rfl
 have V2 := hok.vols _ (List.mem_of_getElem? e2)
 have hs20 : 0 ≤ x2.1 := V2.s0
 have hs21 : x2.1 ≤ 256 := V2.s1
 obtain ⟨N, hN⟩ : ∃ N : Nat, x2.1 = N := ⟨x2.1.toNat, by omega⟩
 have hN9 : N ≤ 256 := by omega
 obtain ⟨sl, hsl⟩ : ∃ sl, sl = x1.1 := ⟨_, rfl⟩
 have HP := Lib.hid (show patchK d l r = ((if sl = (N : Int) then [] else [rszO l N]) ++ (foldG (genN d r l (needPK d l r)) N).1, 0) from by
  rw [patchK, if_pos hc, hS1, hS2, hsl, hN, Int.toNat_natCast])
 obtain ⟨L9, hL9⟩ : ∃ L9, L9 = patchK d l r := ⟨_, rfl⟩
 rw [← hL9]
 rw [← hL9] at HP
 clear hL9
 obtain ⟨v, vf, h⟩ := h
 have hne : d ≠ [] := by rintro rfl; simp at e1
 obtain ⟨g, c, rfl, hbg, hgl, hgR, hc1, hc2, hty, hcl⟩ := h.form hne
 have hm9 : d.length ≤ maxLen := Nat.le_trans hc1 hc2
 unfold maxLen at hm9
 have L1 : i1 < d.length := (List.getElem?_eq_some_iff.1 e1).1
 have L2 : i2 < d.length := (List.getElem?_eq_some_iff.1 e2).1
 have z0 : w.cell? ⟨R, 0, none⟩ = some (.slice (some ⟨g, 0, none⟩) d.length c) := (@block_cells _ _ 0 _ _ h.blk).trans rfl
 haveI : Old R w := h.blk.old
 haveI : Old g w := ⟨hgl⟩
 have z1 := (hcl i1 _ e1).2.1
 have z2 := (hcl i2 _ e2).2.1
 have z6 := (hcl i2 _ e2).2.2
 simp only at z1 z2 z6
 have HV := Lib.hid (h.vol _ (List.mem_of_getElem? e2))
 obtain ⟨gen, hgen⟩ : ∃ gen, gen = genN d r l (needPK d l r) := ⟨_, rfl⟩
 have HNO := Lib.hid (fun (i : Nat) (h : kindK d l r i = 1 ∨ kindK d l r i = 3) => (show gen i = none by rw [hgen]; exact gen_none h))
 have HSO := Lib.hid (fun (i : Nat) (h : ¬ (kindK d l r i = 1 ∨ kindK d l r i = 3)) => (show gen i = some (oneK l i ((blkK d r i).getD zB) (blkK d r i).isSome) by rw [hgen]; exact gen_some h))
 have HBN := Lib.hid (foldG_bound9 gen (fun i o ho => by
  by_cases hq : kindK d l r i = 1 ∨ kindK d l r i = 3
  ·rw [HNO.out i hq] at ho; cases ho
  ·rw [HSO.out i hq] at ho
   cases ho
   exact oneK_bound9 l i _ (hyl i) _))
 rw [← hgen] at HP
 have HYL := Lib.hid hyl
 have HBB := Lib.hid hbb
 rw [← hsl] at z1
 rw [hN] at z2
 clear h hc hc2 hcl hty e1 e2 f1 f2 k1 k2 q1 q2 hok hyl hd9 hkk hbb hgen hsl hN hs20 hs21 hS1 hS2 V2 hne
 unfold PtQ
 go_enter Tryz.func22, Tryz.ntmps22
 go_wp2_with (first | (go_at_call 47; ((with_reducible refine (HC.out _ gri _ inferInstance).mono ?_); rintro _ _ ⟨rfl, g1, rfl⟩)) | (go_at_call 24; ((with_reducible refine (FL.out _ gri).mono ?_); rintro _ _ ⟨rfl, g2, rfl⟩)) | (go_at_call 24; ((with_reducible refine (FR.out _ gri).mono ?_); rintro _ _ ⟨rfl, g3, rfl⟩)))
 go_loopw [12, 13, 14] (fun vL vF vi wr => ∃ (k : Nat) (zs : List OpC), k ≤ N ∧ vi = .int .i64 (k : Int) ∧ vF = .bool (foldG gen k).2 ∧ OwnN opE w.heap.size wr vL zs ∧ zs.map (·.o) = (foldG gen k).1 ∧ (∀ z ∈ zs, OpOwn w.heap.size wr z) ∧ Gr w wr) (fun _ _ i _ => N - (intOf i).toNat)
 case atStart => exact ⟨0, [], Nat.zero_le _, rfl, rfl, OwnN.nil _ _, rfl, by simp, gri⟩
 case round =>
  obtain ⟨k, zs, hk, rfl, rfl, hoL, hmL, hzL, gg, rfl⟩ := hrel
  have hlk : zs.length ≤ k := by have := (HBN.out k).1; rw [← hmL, List.length_map] at this; exact this
  have HOL := Lib.hid hoL
  have HML := Lib.hid hmL
  have HZL := Lib.hid hzL
  clear hoL hmL hzL
  by_cases hlt : k < N
  ·have HKD := Lib.hid (fun W (hW : Gr w W) => HK.out W hW (k : Int))
   obtain ⟨kd, hkd⟩ : ∃ kd, kd = kindK d l r (k : Int) := ⟨_, rfl⟩
   rw [← hkd] at HKD
   by_cases hq : kd = 1 ∨ kd = 3
   ·have HS := Lib.hid (show foldG gen (k + 1) = ((foldG gen k).1, false) from by
     show stepG gen (foldG gen k) k = _
     rw [stepG, HNO.out k (by rw [← hkd]; exact hq)])
    clear hkd
    rcases hq with rfl | rfl
    ·go_wp2_with ((go_at_call 49; ((with_reducible refine (HKD.out _ gri).mono ?_); rintro _ _ ⟨rfl, ga, rfl⟩)))
     go_roundw
     case rel => exact ⟨k + 1, zs, by omega, by go_num, by rw [HS.out], HOL.out.gr gri, by rw [HS.out]; exact HML.out, fun z hz => (HZL.out z hz).gr gri, gri⟩
     case measure => simp [intOf]; omega
    ·go_wp2_with ((go_at_call 49; ((with_reducible refine (HKD.out _ gri).mono ?_); rintro _ _ ⟨rfl, ga, rfl⟩)))
     go_roundw
     case rel => exact ⟨k + 1, zs, by omega, by go_num, by rw [HS.out], HOL.out.gr gri, by rw [HS.out]; exact HML.out, fun z hz => (HZL.out z hz).gr gri, gri⟩
     case measure => simp [intOf]; omega
   ·have HS := Lib.hid (show foldG gen (k + 1) = (joinK (foldG gen k).1 (oneK l k ((blkK d r k).getD zB) (blkK d r k).isSome) (foldG gen k).2, true) from by
     show stepG gen (foldG gen k) k = _
     rw [stepG, HSO.out k (by rw [← hkd]; exact hq)])
    have hq1 : (kd == 1) = false := by simp; exact fun e => hq (.inl e)
    have hq3 : (kd == 3) = false := by simp; exact fun e => hq (.inr e)
    have HG := Lib.hid (fun W (hW : Gr w W) => rget_any g (i2 * 3) (vf r) x2.2 (k : Int) W ((hW.below.cell (p := ⟨g, i2 * 3 + 2, none⟩) hgl).trans z6) (HV.out.gr hW))
    rw [HBB.out] at HG
    have HK9 := Lib.hid (show k ≤ 1000 from by omega)
    have HO1 := Lib.hid (fun W => rone_any l k HK9.out ((blkK d r k).getD zB) (HYL.out k) (blkK d r k).isSome W)
    have HY9 := Lib.hid (oneK_bound9 l k ((blkK d r k).getD zB) (HYL.out k) (blkK d r k).isSome)
    haveI := bkC_row (HYL.out k)
    have H9 := Lib.hid (show ∀ x ∈ zs, x.o.l.length ≤ 1000000 ∧ 0 ≤ x.o.c ∧ x.o.c ≤ 1000000 from fun x hx => by
     have h8 := (HBN.out k).2 x.o (by rw [← HML.out]; exact List.mem_map_of_mem hx)
     have := HK9.out
     omega)
    have HLK := Lib.hid (show zs.length ≤ 2000 from by omega)
    clear hkd hq
    generalize (blkK d r k).getD zB = B2 at *
    generalize (blkK d r k).isSome = s2 at *
    generalize hF : (foldG gen k).2 = f2 at *
    go_wp2_with (first | (go_at_call 49; ((with_reducible refine (HKD.out _ gri).mono ?_); rintro _ _ ⟨rfl, ga, rfl⟩)) | (go_at_call 55; ((with_reducible refine (HG.out _ gri).mono ?_); rintro _ _ ⟨rfl, gd, rfl⟩)) | (go_at_call 57; ((with_reducible refine (HO1.out _).mono ?_); rintro _ _ ⟨x, rfl, hxo, hxw, ge, rfl⟩; have HXO := Lib.hid hxo; have HXW := Lib.hid hxw; clear hxo hxw)) | (refine wpStoreBH (w0 := grown w gg) gri rfl _ _ rfl _ _ _ rfl rfl inferInstance (Past.le (a := grown w gg)) inferInstance inferInstance ?_; intro g8 hB8; haveI := hB8; haveI := hB8.old) | (refine wpLoadB rfl _ rfl _ _ rfl inferInstance inferInstance ?_))
    refine (rjoin_any zs HLK.out u12 x f2 w.heap.size w.heap.size _ (gri : Gr w _).below.size (HOL.out.gr gri) (fun z hz => (HZL.out z hz).gr gri) ⟨HXW.out.own.more (gri : Gr w _).below.size⟩ H9.out (by rw [HXO.out]; have := HY9.out; omega)).mono ?_
    rintro _ _ ⟨v9, zs9, rfl, ho9, hm9, hz9, gf, rfl⟩
    have HO9 := Lib.hid (ho9.more (gri : Gr w _).below.size)
    have HM9 := Lib.hid hm9
    have HZ9 := Lib.hid hz9
    clear ho9 hm9 hz9
    go_wp2
    go_roundw
    case rel => exact ⟨k + 1, zs9, by omega, by go_num, by rw [HS.out], HO9.out, by rw [HS.out, ← HXO.out, ← HML.out]; exact HM9.out, HZ9.out, gri⟩
    case measure => simp [intOf]; omega
  ·have : k = N := by omega
   subst this
   by_cases hq : sl = (k : Int)
   ·have hb1 : (sl != (k : Int)) = false := by simp [hq]
    rw [if_pos hq, List.nil_append] at HP
    clear hq
    go_wp2
    go_ret2
    exact ⟨_, zs, by rw [HP.out]; rfl, HOL.out.gr gri, by rw [HP.out]; exact HML.out, fun z hz => (HZL.out z hz).gr gri, gri⟩
   ·have hb1 : (sl != (k : Int)) = true := by simp [hq]
    rw [if_neg hq] at HP
    clear hq
    obtain ⟨Az, cz, hvz, hzn, _, hzr⟩ := HOL.out.rowG9 opIs
    subst hvz
    have HZN := Lib.hid hzn
    have HZR := Lib.hid hzr
    have HZK := Lib.hid (show zs.length ≤ 1000 from by omega)
    clear hzn hzr
    go_wp2_with (first | (at_builtin; refine wp_append_x opIs rfl _ _ rfl rfl (OwnN.blk (base := w.heap.size) (e := opE) (xs := [(⟨rszO l k, none, 0, 0⟩ : OpC)]) inferInstance past rfl rfl (by decide) (fun _ _ => trivial) rfl) Az zs zs.length cz rfl rfl HZN.out (HZR.out.gr gri) (by have := HZK.out; simp; omega) past ?_; intro v1 W1 h1; have H1 := Lib.hid h1; clear h1))
    haveI := H1.out.grc w (Nat.le_refl _)
    go_ret2
    exact ⟨_, _, by rw [HP.out]; rfl, H1.out.own.gr gri, by rw [HP.out, List.map_append, HML.out]; rfl, fun z hz => (by
     rcases List.mem_append.1 hz with hz | hz
     ·rw [List.mem_singleton] at hz; subst hz; exact ⟨OwnN.nil _ _⟩
     ·exact (((HZL.out z hz).gr gri).keepA H1.out).gr gri), gri⟩
theorem rpatch_any (base R : Nat) (d : Dev) (l r : Int) (w : World) (h : RefAt base w R d) (hd9 : d.length ≤ 1000000) :
  Calls Tryz.prog 22 #[.pointer (some ⟨R, 0, none⟩), .int .u64 l, .int .u64 r] w (PtQ (patchK d l r) w) := by
 by_cases hc : chkK d [l, r] = 0
 ·exact rpatch_good base R d l r w h hd9 hc
 ·exact rpatch_bad base R d l r w h hd9 hc
theorem getK_ext {L M : List (Int × Byt)} (hL : SortK L) (hM : SortK M) (h : ∀ i, getK L i = getK M i) : L = M := by
 refine sort_ext hL hM fun p => ?_
 obtain ⟨k, v⟩ := p
 rw [← getK_mem hL, ← getK_mem hM, h k]
theorem getK_out {v : VolM} (h : VolOk v) {i : Int} (hi : i < 0 ∨ v.1 ≤ i) : getK v.2 i = none := by
 refine getK_none.2 fun p hp e => ?_
 have := h.keys p hp
 omega
theorem getK_filt {L : List (Int × Byt)} (hs : SortK L) (n i : Int) (hi : i < n) : getK (L.filter fun p => decide (p.1 < n)) i = getK L i := by
 have hf : SortK (L.filter fun p => decide (p.1 < n)) := hs.filter _
 cases h : getK L i with
 | none =>
  refine getK_none.2 fun p hp => ?_
  exact getK_none.1 h p (List.mem_filter.1 hp).1
 | some v =>
  refine (getK_mem hf).2 (List.mem_filter.2 ⟨(getK_mem hs).1 h, by simpa using hi⟩)
theorem chkK_two {d : Dev} {l r : Int} (h : chkK d [l, r] = 0) : l ≠ r ∧ (∃ x, getK d l = some x) ∧ ∃ y, getK d r = some y := by
 have h1 := Option.isSome_iff_exists.1 (chk0 h (x := l) (by simp))
 have h2 := Option.isSome_iff_exists.1 (chk0 h (x := r) (by simp))
 refine ⟨fun e => ?_, h1, h2⟩
 subst e
 unfold chkK at h
 rw [if_neg (by simp)] at h
 cases h
theorem chkK_of {d : Dev} {l r : Int} (hne : l ≠ r) (h1 : (getK d l).isSome = true) (h2 : (getK d r).isSome = true) : chkK d [l, r] = 0 := by
 unfold chkK
 rw [if_pos (by simp [hne]), if_pos (by simp [h1, h2])]
theorem foldG_nil (g : Nat → Option OpM) : ∀ n, (∀ i, i < n → g i = none) → (foldG g n).1 = []
 | 0, _ => rfl
 | n + 1, h => by
  show (stepG g (foldG g n) n).1 = []
  rw [stepG, h n (by omega)]
  exact foldG_nil g n fun i hi => h i (by omega)
theorem besK_same (x : Option Byt) : besK x x = 1 ∨ besK x x = 3 := by
 unfold besK
 cases x <;> simp
theorem layM_right {d : Dev} (hok : DevOk d) {l r : Int} {x y : VolM} (hl : getK d l = some x) (hr : getK d r = some y) {N : Nat} (hN : y.1 = N) {m : List (Int × Byt)} (hs : SortK m) (hk : ∀ p ∈ m, 0 ≤ p.1 ∧ p.1 < (N : Int)) (hm : ∀ i : Int, i < N → getK m i = getK x.2 i) :
  layM (needPK d l r) (fun i : Nat => (blkK d r (i : Int)).getD zB) N m = y.2 := by
 have hy := hok.vols _ ((getK_mem hok.sort).1 hr)
 have hX : ∀ i : Nat, ((blkK d r (i : Int)).getD zB).length = 256 := fun i => blkK_len hok r i
 simp only at hy
 refine getK_ext (layM_sort _ _ hs N) hy.sort fun i => ?_
 by_cases hi : 0 ≤ i ∧ i < N
 ·obtain ⟨j, rfl⟩ : ∃ j : Nat, i = j := ⟨i.toNat, by omega⟩
  have hjN : j < N := by omega
  rw [layM_get _ _ hs]
  have hk2 : kindK d l r j = besK (getK x.2 j) (getK y.2 j) := by unfold kindK blkK; rw [hl, hr]; rfl
  have hb : blkK d r (j : Int) = getK y.2 j := by unfold blkK; rw [hr]; rfl
  have hmj := hm j hi.2
  unfold needPK
  rw [hk2, hb, hmj]
  generalize getK x.2 (j : Int) = a
  generalize getK y.2 (j : Int) = b
  simp only [hjN, true_and]
  unfold besK
  cases a with
  | none => cases b <;> simp
  | some a =>
   cases b with
   | none => simp
   | some b =>
    by_cases e : a = b
    ·subst e; simp
    ·simp [e]
 ·rw [getK_out (v := y) hy (by omega)]
  refine getK_none.2 fun p hp e => ?_
  have hle : ∀ n, n ≤ N → ∀ q ∈ layM (needPK d l r) (fun i : Nat => (blkK d r (i : Int)).getD zB) n m, 0 ≤ q.1 ∧ q.1 < (N : Int) := by
   intro n
   induction n with
   | zero => exact fun _ => hk
   | succ n ih =>
    intro hn q hq
    rw [layM_succ] at hq
    have ih' := ih (by omega)
    split at hq
    ·split at hq
     ·rcases (mem_putK (layM_sort _ _ hs n) q).1 hq with rfl | ⟨hq, _⟩
      ·simp only; omega
      ·exact ih' q hq
     ·exact ih' q (List.mem_filter.1 hq).1
    ·exact ih' q hq
  have := hle N (Nat.le_refl _) p hp
  omega
structure PatchOk (d : Dev) (l r : Int) (E : Dev) (y : VolM) : Prop where
 get : getK d r = some y
 got : (getK d l).isSome = true
 ne : l ≠ r
 app : appK d (patchK d l r).1 = (0, E)
 is : E = putK d l y
 may : ∀ o ∈ (patchK d l r).1, o.may = true
 ok : DevOk E
 again : patchK E l r = ([], 0)
theorem patch_ok {d : Dev} (hok : DevOk d) {l r : Int} (h : (patchK d l r).2 = 0) : ∃ E y, PatchOk d l r E y := by
 have hc : chkK d [l, r] = 0 := by
  by_cases hc : chkK d [l, r] = 0
  ·exact hc
  ·rw [patchK, if_neg hc] at h; exact h
 obtain ⟨hne, ⟨x, hl⟩, ⟨y, hr⟩⟩ := chkK_two hc
 have hx := hok.vols _ ((getK_mem hok.sort).1 hl)
 have hy := hok.vols _ ((getK_mem hok.sort).1 hr)
 have hlk := hok.keys _ ((getK_mem hok.sort).1 hl)
 simp only at hx hy hlk
 have y0 := hy.s0
 have y1 := hy.s1
 obtain ⟨N, hN⟩ : ∃ N : Nat, y.1 = N := ⟨y.1.toNat, by omega⟩
 have hSl : sizeK d l = x.1 := by rw [sizeK, hl]; rfl
 have hSr : sizeK d r = N := by rw [sizeK, hr, ← hN]; rfl
 have hP : patchK d l r = ((if x.1 = (N : Int) then [] else [rszO l N]) ++ (foldG (genN d r l (needPK d l r)) N).1, 0) := by
  rw [patchK, if_pos hc, hSl, hSr, Int.toNat_natCast]
 have hblk : ∀ i, ((blkK d r i).getD zB).length = 256 := fun i => blkK_len hok r i
 have key : ∀ (D : Dev) (m : List (Int × Byt)), DevOk D → getK D l = some ((N : Int), m) → SortK m → (∀ p ∈ m, 0 ≤ p.1 ∧ p.1 < (N : Int)) → (∀ i : Int, i < N → getK m i = getK x.2 i) → (∀ v, putK D l v = putK d l v) →
   appK D (foldG (genN d r l (needPK d l r)) N).1 = (0, putK d l y) ∧ ∀ o ∈ (foldG (genN d r l (needPK d l r)) N).1, o.may = true := by
  intro D m hD hDl hs hk hm hp
  obtain ⟨h1, h2⟩ := made_do d D r l (needPK d l r) hblk N (by omega) hD hDl
  refine ⟨?_, h2⟩
  rw [h1, layM_right hok hl hr hN hs hk hm, hp, ← hN]
 have hEok : DevOk (putK d l y) := by
  refine ⟨sort_putK hok.sort, fun p hp => ?_, fun p hp => ?_⟩
  ·rcases (mem_putK hok.sort p).1 hp with rfl | ⟨hp, _⟩
   ·exact hlk
   ·exact hok.keys p hp
  ·rcases (mem_putK hok.sort p).1 hp with rfl | ⟨hp, _⟩
   ·exact hy
   ·exact hok.vols p hp
 have hag : patchK (putK d l y) l r = ([], 0) := by
  have g1 : getK (putK d l y) l = some y := by rw [getK_put hok.sort, if_pos rfl]
  have g2 : getK (putK d l y) r = some y := by rw [getK_put hok.sort, if_neg (Ne.symm hne), hr]
  have s1 : sizeK (putK d l y) l = sizeK (putK d l y) r := by rw [sizeK, sizeK, g1, g2]
  rw [patchK, if_pos (chkK_of hne (by rw [g1]; rfl) (by rw [g2]; rfl)), if_pos s1, List.nil_append, foldG_nil]
  intro i _
  refine gen_none ?_
  unfold kindK blkK
  rw [g1, g2]
  exact besK_same _
 by_cases hq : x.1 = (N : Int)
 ·obtain ⟨h1, h2⟩ := key d x.2 hok (by rw [hl, ← hq]) hx.sort (fun p hp => by have := hx.keys p hp; omega) (fun i _ => rfl) (fun v => rfl)
  refine ⟨putK d l y, y, hr, by rw [hl]; rfl, hne, ?_, rfl, ?_, hEok, hag⟩
  ·rw [hP, if_pos hq, List.nil_append]; exact h1
  ·rw [hP, if_pos hq, List.nil_append]; exact h2
 ·have hmay : (rszO l N).may = true := by
   simp only [OpM.may, rszO, mayOpB, wVol, wSize]
   simp
   exact ⟨⟨decide_eq_true hlk.1, decide_eq_true hlk.2⟩, decide_eq_true (by omega)⟩
  have he : errK d (rszO l N) = 0 := by
   unfold errK
   rw [if_neg (by rw [hmay]; decide), if_neg (by simp [rszO])]
   simp [rszO, hl]
  have ha : (ansK d (rszO l N) 1024).1 = 0 := by
   unfold ansK
   rw [if_pos he, if_neg (by simp [rszO])]
  have hd : doK d (rszO l N) = putK d l ((N : Int), x.2.filter fun p => decide (p.1 < (N : Int))) := by
   unfold doK partK didK
   rw [if_pos he]
   simp [rszO, volD, hl]
   rfl
  obtain ⟨D, hD⟩ : ∃ D, D = doK d (rszO l N) := ⟨_, rfl⟩
  have hDok : DevOk D := by rw [hD]; exact part_ok hok _ _
  rw [← hD] at hd
  obtain ⟨h1, h2⟩ := key D _ hDok (by rw [hd, getK_put hok.sort, if_pos rfl]) (hx.sort.filter _) (fun p hp => by
   have h3 := List.mem_filter.1 hp
   have h4 := hx.keys p h3.1
   have h5 : p.1 < (N : Int) := by simpa using h3.2
   omega) (fun i hi => getK_filt hx.sort N i hi) (fun v => by rw [hd, putK_putK _ _ _ _ hok.sort])
  refine ⟨putK d l y, y, hr, by rw [hl]; rfl, hne, ?_, rfl, ?_, hEok, hag⟩
  ·rw [hP, if_neg hq, List.singleton_append, appK, if_pos ha, ← hD]; exact h1
  ·rw [hP, if_neg hq, List.singleton_append]
   intro o ho
   rcases List.mem_cons.1 ho with rfl | ho
   ·exact hmay
   ·exact h2 o ho
theorem patch_bad {d : Dev} {l r : Int} (h : (patchK d l r).2 ≠ 0) : (patchK d l r).1 = [] := by
 unfold patchK at h ⊢
 split
 ·next hc => rw [if_pos hc] at h; exact absurd rfl h
 ·rfl
set_option maxRecDepth 100000
set_option maxHeartbeats 4000000
def lowC (n : Int) (k : Nat) : Array Value := ((leB n k ++ List.replicate (4 - k) 0).map bv).toArray
theorem leB_len (n : Int) (k : Nat) : (leB n k).length = k := by simp [leB]
theorem lowC_size (n : Int) (k : Nat) (h : k ≤ 4) : (lowC n k).size = 4 := by
 simp [lowC, leB_len]; omega
theorem lowC_set (n : Int) (k : Nat) (h : k < 4) (y : UInt8) (hy : UInt8.ofNat (n / 256 ^ k % 256).toNat = y) : (lowC n k).setIfInBounds k (bv y) = lowC n (k + 1) := by
 have e : 4 - k = (4 - (k + 1)) + 1 := by omega
 unfold lowC
 rw [leB_succ, hy, e, List.replicate_succ, List.map_append, List.map_append, List.map_append]
 simp [List.set_append, leB_len]
theorem low_blk {W : World} {g base : Nat} {n : Int} (h : BlockAt W g (lowC n 4) 5) (hb : base ≤ g) : OwnN bE base W (.slice (some ⟨g, 0, none⟩) 4 4) (leB n 4) := by
 have e : (lowC n 4).toList = (leB n 4).flatMap bE.cs := by
  unfold lowC bE
  simp only [Nat.sub_self, List.replicate_zero, List.append_nil]
  generalize leB n 4 = l
  induction l with
  | nil => rfl
  | cons a l ih => simp only [List.map_cons, List.flatMap_cons, ih]; rfl
 have hl : (lowC n 4).toList.length = 4 := lowC_size n 4 (Nat.le_refl _)
 refine ⟨fun _ _ => trivial, by rw [← e]; exact hl, .inr ⟨g, 4, lowC n 4, rfl, hb, h.eq, Nat.le_refl _, by unfold maxLen; omega, lowC_size n 4 (Nat.le_refl _), ?_⟩⟩
 rw [← e]
 exact List.take_of_length_le (Nat.le_of_eq hl)
theorem make4 (n : Int) (W : World) : (Instr.makeSlice 41 (.int .i64 4) (.int .i64 4)).run Tryz.prog W = .ok (.slice (some ⟨W.heap.size, 0, none⟩) 4 4) (W.alloc (.cells (lowC n 0) 5)) := by
 obtain ⟨i0, hi, hz0, hz2, hz3⟩ := info_parts bIs.hE
 have hi2 : i0.size = 1 := hz2
 have hi3 : i0.bytes = 1 := hz3
 have h := run_makeSlice (P := Tryz.prog) W 41 5 i0 (.int .u8 0) Tryz.underlying41 hi hz0 .i64 .i64 4 4 (by omega) (Int.le_refl _) (by rw [hi2]; omega) (by rw [hi3]; omega) (by omega)
 rw [h, hi2]
 have e : madeCells (Value.int .u8 0).cells (Int.toNat 4 * 1) = lowC n 0 := by kernel_rfl
 rw [e]
 rfl
theorem rlow_4 (n : Int) (h0 : 0 ≤ n) (hn : n < 4294967296) (w : World) : Calls Tryz.prog 54 #[.int .u64 n, .int .i64 4] w fun e w' => ∃ v, e = .returned v ∧ OwnN bE w.heap.size w' v (leB n 4) ∧ Gr w w' := by
 have hz : ∀ k, k < 4 → (lowC n k)[k]? = some (bv 0) := fun k hk => by
  unfold lowC
  have h1 : ¬ k < (leB n k).length := by rw [leB_len]; omega
  have h2 : 0 < 4 - k := by omega
  simp [List.getElem?_append, leB_len, h2]
 have HZ := Lib.hid hz
 clear hz
 have hmq := fun W => make4 n W
 go_enter Tryz.func54, Tryz.ntmps54
 go_wp2
 go_loopw [0, 6] (fun v0 v6 wr => ∃ k : Nat, k ≤ 4 ∧ v0 = .int .u64 (n / 256 ^ k) ∧ v6 = .int .i64 (k : Int) ∧ BlockAt wr w.heap.size (lowC n k) 5 ∧ Gr w wr) (fun _ v _ => 4 - (intOf v).toNat)
 case atStart => exact ⟨0, by omega, by simp, rfl, inferInstance, gri⟩
 case round =>
  obtain ⟨k, hk, rfl, rfl, hb, hg⟩ := hrel
  haveI := grc_of hg
  haveI := from_of hg
  haveI := hb
  haveI := hb.old
  have HB := Lib.hid hb
  have HG := Lib.hid hg
  clear hb hg
  by_cases hlt : k < 4
  ·have x1 : wr.cell? ⟨w.heap.size, k, none⟩ = some (bv 0) := (@block_cells _ _ k _ _ HB.out).trans (HZ.out k hlt)
   have x2 : wr.frozen? ⟨w.heap.size, k, none⟩ = false := @block_frozen _ _ k _ _ HB.out
   obtain ⟨m, hm⟩ : ∃ m, n / 256 ^ k = m := ⟨_, rfl⟩
   have hm0 : 0 ≤ m := by rw [← hm]; exact Int.ediv_nonneg h0 (Int.le_of_lt (Int.pow_pos (by omega)))
   have hmn : m < 4294967296 := by rw [← hm]; exact Int.lt_of_le_of_lt (Int.ediv_le_self _ h0) hn
   obtain ⟨y, hy⟩ : ∃ y : UInt8, UInt8.ofNat (m % 256).toNat = y := ⟨_, rfl⟩
   have hcv : IntKind.u8.wrap (m % 256) = (y.toNat : Int) := by
    rw [← hy]
    simp [IntKind.wrap, IntKind.bits, IntKind.signed]
    omega
   have HS := Lib.hid (lowC_set n k hlt y (by rw [hm]; exact hy))
   have HM := Lib.hid hm
   rw [hm]
   clear hy hm
   go_wp2
   go_roundw
   case rel => exact ⟨k + 1, hlt, by rw [← HM.out, Int.pow_succ, Int.ediv_ediv_of_nonneg (Int.le_of_lt (Int.pow_pos (by omega)))], by go_num, by rw [← HS.out]; infer_instance, gri⟩
   case measure => simp [intOf]; omega
  ·obtain rfl : k = 4 := by omega
   go_wp2
   go_ret
   exact ⟨_, rfl, low_blk HB.out (Nat.le_refl _), HG.out⟩
def bytesI (l : List It) : List UInt8 := l.flatMap It.bytes
theorem bytesI_app (a b : List It) : bytesI (a ++ b) = bytesI a ++ bytesI b := List.flatMap_append
theorem bytesI_len {l : List It} (h : ∀ x ∈ l, x.ok) : (bytesI l).length ≤ 256 * l.length := flat_bytes l h
structure RowF (W : World) (A : Option Addr) (c : Nat) (xs : List UInt8) : Prop where
 nn : A = none → c = 0
 row : RowN bE W A xs
theorem OwnN.rowF {base : Nat} {W : World} {v : Value} {xs : List UInt8} (h : OwnN bE base W v xs) : ∃ A c, v = .slice A xs.length c ∧ RowF W A c xs := by
 obtain ⟨A, c, rfl, _, _, h2⟩ := h.form bIs
 refine ⟨A, c, rfl, fun e => ?_, h2⟩
 subst e
 rcases h.own.2 with ⟨e, _⟩ | ⟨b, cap, cur, e, _⟩
 ·simp only [Value.slice.injEq] at e; exact e.2.2
 ·simp only [Value.slice.injEq] at e; cases e.1
theorem rbytes_any (base R : Nat) (d : Dev) (hn : d.length ≤ 40) (w : World) (h : RefAt base w R d) : Calls Tryz.prog 21 #[.pointer (some ⟨R, 0, none⟩)] w fun e w' => ∃ v, e = .returned v ∧ OwnN bE w.heap.size w' v (bytesK d) ∧ Gr w w' := by
 obtain ⟨v, vf, h⟩ := h
 obtain ⟨A, c, rfl, h1, h2, h3, hrow⟩ := h.nilv
 have HR := Lib.hid h
 haveI := h.blk
 have x0 : w.cell? ⟨R, 0, none⟩ = some (.slice A d.length c) := (@block_cells _ _ 0 _ _ h.blk).trans rfl
 haveI : Old R w := h.blk.old
 have hwr : IntKind.u64.wrap (d.length : Int) = (d.length : Int) := by simp [IntKind.wrap, IntKind.bits, IntKind.signed]; omega
 have HL0 := Lib.hid (fun W => rlow_4 (d.length : Int) (by omega) (by omega) W)
 have HLO := Lib.hid (itsD_len d h.ok.vols)
 have HN := Lib.hid hn
 have HOK := Lib.hid h.ok
 clear h h1 h2 h3 hn
 go_enter Tryz.func21, Tryz.ntmps21
 go_wp2_with (first | (go_at_call 54; ((with_reducible refine (HL0.out _).mono ?_); rintro _ W2 ⟨v2, rfl, hv, hg⟩; haveI := grc_of hg; have HV := Lib.hid hv; have HG := Lib.hid hg; clear hv hg)))
 go_loopw [3, 4] (fun v3 v4 wr => ∃ i : Nat, i ≤ d.length ∧ v4 = .int .i64 (i : Int) ∧ OwnN bE w.heap.size wr v3 (bytesI (.num d.length :: (d.take i).flatMap itsV)) ∧ Gr w wr) (fun _ v _ => d.length - (intOf v).toNat)
 case atStart => exact ⟨0, Nat.zero_le _, rfl, by have := HV.out.gr (gri : Gr W2 W2); simpa [bytesI, It.bytes] using this, HG.out⟩
 case round =>
  obtain ⟨i, hi, rfl, ho, hg⟩ := hrel
  haveI := grc_of hg
  haveI := from_of hg
  have HG2 := Lib.hid hg
  have HO := Lib.hid ho
  have y0 : wr.cell? ⟨R, 0, none⟩ = some (.slice A d.length c) := (hg.below.cell (p := ⟨R, 0, none⟩) Old.lt).trans x0
  haveI : Old R wr := old_of_cell y0
  clear hg ho
  by_cases hlt : i < d.length
  ·obtain ⟨p, hp⟩ := Option.isSome_iff_exists.1 (show (d[i]?).isSome by simp; omega)
   have hpm := List.mem_of_getElem? hp
   obtain ⟨g, c', hAe, -, hgw, -, -, -, -, hcl⟩ := HR.out.form (by intro e; rw [e] at hlt; simp at hlt)
   simp only [Value.slice.injEq] at hAe
   obtain ⟨rfl, -, rfl⟩ := hAe
   obtain ⟨c0, c1, c2⟩ := hcl i p hp
   have HVO := Lib.hid (HOK.out.vols p hpm)
   have HBS := Lib.hid ((HR.out.vol p hpm).gr HG2.out)
   have HBV := Lib.hid (HR.out.vol p hpm)
   have HKY := HOK.out.keys p hpm
   obtain ⟨n, s, m⟩ := p
   have hml : m.length ≤ 256 := vol_len HVO.out
   have hwr2 : IntKind.u64.wrap (m.length : Int) = (m.length : Int) := by simp [IntKind.wrap, IntKind.bits, IntKind.signed]; omega
   have hs0 : 0 ≤ s := HVO.out.s0
   have hs1 : s ≤ 256 := HVO.out.s1
   have hwr3 : IntKind.u64.wrap s = s := by simp [IntKind.wrap, IntKind.bits, IntKind.signed]; omega
   haveI : Old g w := ⟨hgw⟩
   have HPT := Lib.hid (itsV_take hp)
   have hiok : ∀ x ∈ (It.num d.length :: (d.take i).flatMap itsV), x.ok := fun x hx => by
    refine itsK_ok HOK.out HN.out x ?_
    rcases List.mem_cons.1 hx with rfl | hx
    ·exact List.mem_cons_self
    ·obtain ⟨q, hq, hx⟩ := List.mem_flatMap.1 hx
     exact List.mem_cons_of_mem _ (List.mem_flatMap.2 ⟨q, List.mem_of_mem_take hq, hx⟩)
   have hbl : (bytesI (It.num d.length :: (d.take i).flatMap itsV)).length ≤ 10000000 := by
    have h1 := bytesI_len hiok
    have h2 := itsD_len (d.take i) (fun q hq => HOK.out.vols q (List.mem_of_mem_take hq))
    have h3 := HN.out
    have h4 := List.length_take_le i d
    simp only [List.length_cons] at h1
    omega
   have HBLn := Lib.hid hbl
   obtain ⟨bs, hbs⟩ : ∃ bs, bs = bytesI (It.num d.length :: (d.take i).flatMap itsV) := ⟨_, rfl⟩
   have HBs := Lib.hid hbs
   rw [← hbs] at HO HBLn
   obtain ⟨u, hu⟩ : ∃ u, u = vf n := ⟨_, rfl⟩
   simp only at c0 c1 c2 HBS HBV HKY
   have hn0 : 0 ≤ n := by omega
   have hn1 : n < 4294967296 := by omega
   rw [← hu] at c2 HBS HBV
   obtain ⟨A3, c3, hAu, hm1, hm2, hm3, hm4, hm5⟩ := HBS.out
   have hm6 : m ≠ [] → ∃ b p cs f, A3 = some ⟨b, p, none⟩ ∧ w.heap[b]? = some (.cells cs 120 f) ∧ CellsN rbE w b p m := fun hne => by
    obtain ⟨A4, c4, e4, -, -, -, -, h5⟩ := HBV.out
    rw [hAu] at e4
    simp only [Value.slice.injEq] at e4
    obtain ⟨rfl, -, rfl⟩ := e4
    exact h5 hne
   subst hAu
   have d0 : wr.cell? ⟨g, i * 3 + 0, none⟩ = _ := (HG2.out.below.cell (p := ⟨g, i * 3 + 0, none⟩) hgw).trans c0
   have d1 : wr.cell? ⟨g, i * 3 + 1, none⟩ = _ := (HG2.out.below.cell (p := ⟨g, i * 3 + 1, none⟩) hgw).trans c1
   have d2 : wr.cell? ⟨g, i * 3 + 2, none⟩ = _ := (HG2.out.below.cell (p := ⟨g, i * 3 + 2, none⟩) hgw).trans c2
   rw [Nat.add_zero] at d0
   clear c0 c1 c2 hu hbs hpm hp hbl hiok
   go_wp2
   refine wp_region_treeK (fun (e : World → Prop) w' => (BlockAt w' wr.heap.size #[.int .u64 n, .int .i64 s, .slice A3 m.length c3] 64 ∧ Gr w w') ∧ e w') (fun w' => OwnN bE w.heap.size w' u3 bs) ⟨⟨inferInstance, gri⟩, HO.out.gr gri⟩ [0, 1, 2, 5, 6, 7] [3, 4, 8, 9, 10] (by kernel_rfl) (by kernel_rfl) ?_
   simp only [pick, List.drop, List.take, List.nil_append, List.cons_append]
   refine same_step (u3) rfl rfl (fun e w1 hw1 => by go_simp) ?_
   simp only [Act.put, List.setIfInBounds_toArray, List.set]
   refine same_step (.pointer (some ⟨wr.heap.size, 0, none⟩)) rfl rfl (fun e w1 hw1 => by go_simp) ?_
   simp only [Act.put, List.setIfInBounds_toArray, List.set]
   refine same_step (.int .u64 n) rfl rfl (fun e w1 hw1 => by obtain ⟨⟨hb, hg⟩, he⟩ := hw1; have x1 : w1.cell? ⟨wr.heap.size, 0, none⟩ = some (.int .u64 n) := (@block_cells _ _ 0 _ _ hb).trans rfl; go_simp) ?_
   simp only [Act.put, List.setIfInBounds_toArray, List.set]
   refine same_step (.pointer (some ⟨wr.heap.size, 1, none⟩)) rfl rfl (fun e w1 hw1 => by go_simp) ?_
   simp only [Act.put, List.setIfInBounds_toArray, List.set]
   refine same_step (.int .i64 s) rfl rfl (fun e w1 hw1 => by obtain ⟨⟨hb, hg⟩, he⟩ := hw1; have x1 : w1.cell? ⟨wr.heap.size, 1, none⟩ = some (.int .i64 s) := (@block_cells _ _ 1 _ _ hb).trans rfl; go_simp) ?_
   simp only [Act.put, List.setIfInBounds_toArray, List.set]
   refine same_step (.int .u64 s) rfl rfl (fun e w1 hw1 => by go_simp) ?_
   simp only [Act.put, List.setIfInBounds_toArray, List.set]
   refine same_nil ?_
   refine forced_step rfl rfl (fun w1 hw1 => effAt_call' 54 #[.int .u64 n, .int .i64 4] (by go_simp) ((rlow_4 n (by omega) (by omega) w1).mono fun e w2 hc => ?_))
   obtain ⟨uu, rfl, hu, hgu⟩ := hc
   obtain ⟨A1, c1, rfl, hr1⟩ := hu.rowF
   rw [leB_len]
   refine ⟨_, rfl, fun w' => OwnN bE w.heap.size w' u3 (bs) ∧ RowF w' A1 c1 (leB n 4), ⟨⟨hw1.1.1.gr hgu, hw1.1.2.trans hgu⟩, hw1.2.gr hgu, hr1⟩, ?_⟩
   clear hgu hr1 hu hw1 w2 w1
   simp only [Act.put, List.setIfInBounds_toArray, List.set]
   refine forced_step rfl rfl (fun w1 hw1 => effAt_append_x bIs _ _ rfl rfl hw1.2.1 A1 (leB n 4) 4 c1 (leB_len _ _) rfl hw1.2.2.nn hw1.2.2.row (by have := HBLn.out; simp only [List.length_append, leB_len]; omega) hw1.1.2.below.size ?_)
   intro v5 W2 h2
   refine ⟨fun w' => OwnN bE w.heap.size w' v5 (bs ++ leB n 4), ⟨⟨h2.keep _ _ _ hw1.1.1 (by decide), Gr.trans_below hw1.1.2 h2.below⟩, h2.own⟩, ?_⟩
   clear h2 hw1 W2 w1
   simp only [Act.put, List.setIfInBounds_toArray, List.set]
   refine forced_step rfl rfl (fun w1 hw1 => effAt_call' 54 #[.int .u64 s, .int .i64 4] (by go_simp) ((rlow_4 s (by omega) (by omega) w1).mono fun e w2 hc => ?_))
   obtain ⟨uu, rfl, hu, hgu⟩ := hc
   obtain ⟨A1, c1, rfl, hr1⟩ := hu.rowF
   rw [leB_len]
   refine ⟨_, rfl, fun w' => OwnN bE w.heap.size w' v5 (bs ++ leB n 4) ∧ RowF w' A1 c1 (leB s 4), ⟨⟨hw1.1.1.gr hgu, hw1.1.2.trans hgu⟩, hw1.2.gr hgu, hr1⟩, ?_⟩
   clear hgu hr1 hu hw1 w2 w1
   simp only [Act.put, List.setIfInBounds_toArray, List.set]
   refine forced_step rfl rfl (fun w1 hw1 => effAt_append_x bIs _ _ rfl rfl hw1.2.1 A1 (leB s 4) 4 c1 (leB_len _ _) rfl hw1.2.2.nn hw1.2.2.row (by have := HBLn.out; simp only [List.length_append, leB_len]; omega) hw1.1.2.below.size ?_)
   intro v6 W2 h2
   refine ⟨fun w' => OwnN bE w.heap.size w' v6 (bs ++ leB n 4 ++ leB s 4), ⟨⟨h2.keep _ _ _ hw1.1.1 (by decide), Gr.trans_below hw1.1.2 h2.below⟩, h2.own⟩, ?_⟩
   clear h2 hw1 W2 w1
   simp only [Act.put, List.setIfInBounds_toArray, List.set]
   refine forced_same v6 rfl rfl (fun w1 hw1 => by go_simp) ?_
   simp only [Act.put, List.setIfInBounds_toArray, List.set]
   refine forced_nil ?_
   intro w5 hw5
   have HW5 := Lib.hid hw5
   clear hw5
   obtain ⟨T5, hT5⟩ : ∃ T, T = wr.heap.size := ⟨_, rfl⟩
   rw [← hT5] at HW5
   simp only [← hT5]
   haveI := HW5.out.1.1
   haveI := HW5.out.1.1.old
   haveI := grc_of HW5.out.1.2
   haveI := from_of HW5.out.1.2
   have x5 : w5.cell? ⟨T5, 2, none⟩ = some (.slice A3 m.length c3) := (@block_cells _ _ 2 _ _ HW5.out.1.1).trans rfl
   have HLM := Lib.hid (fun W => rlow_4 (m.length : Int) (by omega) (by omega) W)
   have HKY2 := Lib.hid HKY
   clear hT5 HKY
   go_wp2_with (first | (go_at_call 54; ((with_reducible refine (HLM.out _).mono ?_); rintro _ W6 ⟨v7, rfl, hv7, hg7⟩; obtain ⟨A7, c7, rfl, hr7⟩ := hv7.rowF; rw [leB_len]; haveI := grc_of hg7; haveI := from_of hg7; have HG7 := Lib.hid hg7; have HR7 := Lib.hid hr7; clear hg7 hr7 hv7)) | (at_builtin; refine wp_append_x bIs rfl _ _ rfl rfl (HW5.out.2.gr HG7.out) A7 (leB m.length 4) 4 c7 (leB_len _ _) rfl HR7.out.nn HR7.out.row (by have := HBLn.out; simp only [List.length_append, leB_len]; omega) (HW5.out.1.2.trans HG7.out).below.size ?_; intro v8 W8 h8; have H8 := Lib.hid h8; clear h8))
   obtain ⟨bs2, hbs2⟩ : ∃ b2, b2 = bs ++ leB n 4 ++ leB s 4 ++ leB m.length 4 := ⟨_, rfl⟩
   have HB2 := Lib.hid hbs2
   have HBL2 := Lib.hid (show bs2.length ≤ 20000000 from by rw [hbs2]; have := HBLn.out; simp only [List.length_append, leB_len]; omega)
   have HO8 := Lib.hid (hbs2 ▸ H8.out.own)
   have HG8 := Lib.hid (Gr.trans_below (HW5.out.1.2.trans HG7.out) H8.out.below)
   have HT8 := Lib.hid (H8.out.keep _ _ _ (HW5.out.1.1.gr HG7.out) (by decide))
   clear hbs2 H8 x5
   haveI := HT8.out
   haveI := HT8.out.old
   haveI := grc_of HG8.out
   haveI := from_of HG8.out
   go_loopw [3, 6] (fun v3 v6 wx => ∃ j : Nat, j ≤ m.length ∧ v6 = .int .i64 (j : Int) ∧ OwnN bE w.heap.size wx v3 (bs2 ++ bytesI (itsM (m.take j))) ∧ BlockAt wx T5 #[.int .u64 n, .int .i64 s, .slice A3 m.length c3] 64 ∧ Gr w wx) (fun _ v _ => m.length - (intOf v).toNat)
   case atStart => exact ⟨0, Nat.zero_le _, rfl, by simpa [bytesI, itsM] using HO8.out, HT8.out, HG8.out⟩
   case round =>
    obtain ⟨j, hj, rfl, ho, hb, hg⟩ := hrel
    haveI := grc_of hg
    haveI := from_of hg
    haveI := hb
    haveI := hb.old
    have HGx := Lib.hid hg
    have HOx := Lib.hid ho
    have HTx := Lib.hid hb
    have x5 : wr.cell? ⟨T5, 2, none⟩ = some (.slice A3 m.length c3) := (@block_cells _ _ 2 _ _ hb).trans rfl
    clear hg ho hb
    by_cases hjt : j < m.length
    ·obtain ⟨q, hq⟩ := Option.isSome_iff_exists.1 (show (m[j]?).isSome by simp; omega)
     obtain ⟨b, B⟩ := q
     have hqm := List.mem_of_getElem? hq
     have hBl : B.length = 256 := HVO.out.len _ hqm
     have hb0 : 0 ≤ b ∧ b < s := HVO.out.keys _ hqm
     have hwb : IntKind.u64.wrap b = b := by simp [IntKind.wrap, IntKind.bits, IntKind.signed]; omega
     have HMT := Lib.hid (itsM_take hq)
     have HHM : Hid (∃ mb mp, A3 = some ⟨mb, mp, none⟩ ∧ ∀ w1, Gr w w1 → mb < w1.heap.size ∧ CellsN rbE w1 mb mp m) := Lib.hid (by
      obtain ⟨mb, mp, cs, f, e1, h1, h2⟩ := hm6 (by intro e; rw [e] at hjt; simp at hjt)
      have hlt2 := (Array.getElem?_eq_some_iff.1 h1).1
      exact ⟨mb, mp, e1, fun w1 g1 => ⟨Nat.lt_of_lt_of_le hlt2 g1.below.size, h2.gr hlt2 g1⟩⟩)
     obtain ⟨mb, mp, rfl, hcm⟩ := HHM.out
     have HCM := Lib.hid hcm
     have HBLx := Lib.hid (show (bs2 ++ bytesI (itsM (m.take j))).length ≤ 50000000 from by
      have h1 := HBL2.out
      have h2 := bytesI_len (l := itsM (m.take j)) (fun x hx => by
       obtain ⟨q, hq, hx⟩ := List.mem_flatMap.1 hx
       have hq1 := HVO.out.keys q (List.mem_of_mem_take hq)
       have hq2 := HVO.out.len q (List.mem_of_mem_take hq)
       simp only [List.mem_cons, List.mem_nil_iff, or_false] at hx
       rcases hx with rfl | rfl
       ·simp only at hq1; exact ⟨by omega, by omega⟩
       ·exact hq2)
      rw [itsM_len] at h2
      have h3 := List.length_take_le j m
      rw [List.length_append]
      omega)
     obtain ⟨bx, hbx⟩ : ∃ bx, bx = bs2 ++ bytesI (itsM (m.take j)) := ⟨_, rfl⟩
     have HBX := Lib.hid hbx
     rw [← hbx] at HOx HBLx
     clear hbx hcm HHM hqm
     go_wp2
     refine wp_region_treeK (fun (e : World → Prop) w' => (BlockAt w' T5 #[.int .u64 n, .int .i64 s, .slice (some ⟨mb, mp, none⟩) m.length c3] 64 ∧ Gr w w') ∧ e w') (fun w' => OwnN bE w.heap.size w' u3 bx) ⟨⟨HTx.out.gr gri, gri⟩, HOx.out.gr gri⟩ [0, 1, 2, 3, 4, 5, 6, 7, 10, 11, 12, 13, 14, 15] [8, 9, 16, 17] (by kernel_rfl) (by kernel_rfl) ?_
     simp only [pick, List.drop, List.take, List.nil_append, List.cons_append]
     refine same_step (u3) rfl rfl (fun e w1 hw1 => by go_simp) ?_
     simp only [Act.put, List.setIfInBounds_toArray, List.set]
     refine same_step (.pointer (some ⟨T5, 2, none⟩)) rfl rfl (fun e w1 hw1 => by go_simp) ?_
     simp only [Act.put, List.setIfInBounds_toArray, List.set]
     refine same_step (.slice (some ⟨mb, mp, none⟩) m.length c3) rfl rfl (fun e w1 hw1 => by have x1 : w1.cell? ⟨T5, 2, none⟩ = some (.slice (some ⟨mb, mp, none⟩) m.length c3) := (@block_cells _ _ 2 _ _ hw1.1.1).trans rfl; go_simp) ?_
     simp only [Act.put, List.setIfInBounds_toArray, List.set]
     refine same_step (.int .i64 (j : Int)) rfl rfl (fun e w1 hw1 => by go_simp) ?_
     simp only [Act.put, List.setIfInBounds_toArray, List.set]
     refine same_step (.pointer (some ⟨mb, mp + j * 257, none⟩)) rfl rfl (fun e w1 hw1 => by go_simp) ?_
     simp only [Act.put, List.setIfInBounds_toArray, List.set]
     refine same_step (.pointer (some ⟨mb, mp + j * 257, none⟩)) rfl rfl (fun e w1 hw1 => by go_simp) ?_
     simp only [Act.put, List.setIfInBounds_toArray, List.set]
     refine same_step (.int .i64 b) rfl rfl (fun e w1 hw1 => by have x1 : w1.cell? ⟨mb, mp + j * 257, none⟩ = some (.int .i64 b) := (cells_blk (HCM.out w1 hw1.1.2).2 hq).1; go_simp) ?_
     simp only [Act.put, List.setIfInBounds_toArray, List.set]
     refine same_step (.int .u64 b) rfl rfl (fun e w1 hw1 => by go_simp) ?_
     simp only [Act.put, List.setIfInBounds_toArray, List.set]
     refine same_step (.pointer (some ⟨T5, 2, none⟩)) rfl rfl (fun e w1 hw1 => by go_simp) ?_
     simp only [Act.put, List.setIfInBounds_toArray, List.set]
     refine same_step (.slice (some ⟨mb, mp, none⟩) m.length c3) rfl rfl (fun e w1 hw1 => by have x1 : w1.cell? ⟨T5, 2, none⟩ = some (.slice (some ⟨mb, mp, none⟩) m.length c3) := (@block_cells _ _ 2 _ _ hw1.1.1).trans rfl; go_simp) ?_
     simp only [Act.put, List.setIfInBounds_toArray, List.set]
     refine same_step (.int .i64 (j : Int)) rfl rfl (fun e w1 hw1 => by go_simp) ?_
     simp only [Act.put, List.setIfInBounds_toArray, List.set]
     refine same_step (.pointer (some ⟨mb, mp + j * 257, none⟩)) rfl rfl (fun e w1 hw1 => by go_simp) ?_
     simp only [Act.put, List.setIfInBounds_toArray, List.set]
     refine same_step (.pointer (some ⟨mb, mp + j * 257 + 1, none⟩)) rfl rfl (fun e w1 hw1 => by go_simp) ?_
     simp only [Act.put, List.setIfInBounds_toArray, List.set]
     refine same_step (.slice (some ⟨mb, mp + j * 257 + 1, none⟩) 256 256) rfl rfl (fun e w1 hw1 => by go_simp) ?_
     simp only [Act.put, List.setIfInBounds_toArray, List.set]
     refine same_nil ?_
     refine forced_step rfl rfl (fun w1 hw1 => effAt_call' 54 #[.int .u64 b, .int .i64 4] (by go_simp) ((rlow_4 b (by omega) (by omega) w1).mono fun e w2 hc => ?_))
     obtain ⟨uu, rfl, hu, hgu⟩ := hc
     obtain ⟨A1, c1, rfl, hr1⟩ := hu.rowF
     rw [leB_len]
     refine ⟨_, rfl, fun w' => OwnN bE w.heap.size w' u3 bx ∧ RowF w' A1 c1 (leB b 4), ⟨⟨hw1.1.1.gr hgu, hw1.1.2.trans hgu⟩, hw1.2.gr hgu, hr1⟩, ?_⟩
     clear hgu hr1 hu hw1 w2 w1
     simp only [Act.put, List.setIfInBounds_toArray, List.set]
     refine forced_step rfl rfl (fun w1 hw1 => effAt_append_x bIs _ _ rfl rfl hw1.2.1 A1 (leB b 4) 4 c1 (leB_len _ _) rfl hw1.2.2.nn hw1.2.2.row (by have := HBLx.out; simp only [leB_len]; omega) hw1.1.2.below.size ?_)
     intro v5 W2 h2
     refine ⟨fun w' => OwnN bE w.heap.size w' v5 (bx ++ leB b 4), ⟨⟨h2.keep _ _ _ hw1.1.1 (by decide), Gr.trans_below hw1.1.2 h2.below⟩, h2.own⟩, ?_⟩
     clear h2 hw1 W2 w1
     simp only [Act.put, List.setIfInBounds_toArray, List.set]
     refine forced_step rfl rfl (fun w1 hw1 => effAt_append_x bIs _ _ rfl rfl hw1.2 (some ⟨mb, mp + j * 257 + 1, none⟩) B 256 256 hBl rfl (fun e => by cases e) ⟨fun _ _ => trivial, fun _ => ⟨mb, mp + j * 257 + 1, rfl, (HCM.out w1 hw1.1.2).1, cellsB (fun i x hi => by rw [← Go.WideShapes.add_plain]; exact (cells_blk (HCM.out w1 hw1.1.2).2 hq).2 i (bv x) (by rw [List.getElem?_map, hi]; rfl))⟩⟩ (by have := HBLx.out; simp only [List.length_append, leB_len]; omega) hw1.1.2.below.size ?_)
     intro v6 W2 h2
     refine ⟨fun w' => OwnN bE w.heap.size w' v6 (bx ++ leB b 4 ++ B), ⟨⟨h2.keep _ _ _ hw1.1.1 (by decide), Gr.trans_below hw1.1.2 h2.below⟩, h2.own⟩, ?_⟩
     clear h2 hw1 W2 w1
     simp only [Act.put, List.setIfInBounds_toArray, List.set]
     refine forced_same v6 rfl rfl (fun w1 hw1 => by go_simp) ?_
     simp only [Act.put, List.setIfInBounds_toArray, List.set]
     refine forced_nil ?_
     intro w9 hw9
     have HW9 := Lib.hid hw9
     clear hw9
     go_wp2
     go_roundw
     case rel => exact ⟨j + 1, hjt, by go_num, by rw [HMT.out, bytesI_app, ← List.append_assoc, ← HBX.out]; simpa [bytesI, It.bytes] using HW9.out.2, HW9.out.1.1, HW9.out.1.2⟩
     case measure => simp [intOf]; omega
    ·obtain rfl : j = m.length := by omega
     have HE := Lib.hid (show bs2 ++ bytesI (itsM (m.take m.length)) = bytesI (.num d.length :: (d.take (i + 1)).flatMap itsV) from by
      rw [List.take_length, HB2.out, HPT.out, HBs.out, ← List.cons_append, bytesI_app, itsV, bytesI_app]
      simp [bytesI, It.bytes])
     rw [HE.out] at HOx
     have hn40 := HN.out
     go_wp2
     go_roundw
     case rel => exact ⟨i + 1, hlt, by go_num, HOx.out, HGx.out⟩
     case measure => simp [intOf]; omega
  ·obtain rfl : i = d.length := by omega
   have HE := Lib.hid (show bytesI (.num d.length :: (d.take d.length).flatMap itsV) = bytesK d from by rw [List.take_length]; rfl)
   rw [HE.out] at HO
   go_wp2
   go_ret
   exact ⟨_, rfl, HO.out, HG2.out⟩
set_option maxRecDepth 100000
theorem RefIn.setW {base R : Nat} {w W : World} {g n c : Nat} {vf : Int → Value} {d : Dev} (h : RefIn base w R (.slice (some ⟨g, 0, none⟩) n c) vf d) (hg : Gr w W) {i : Nat} {p : Int × VolM} (hp : d[i]? = some p) (y : VolM) (u : Value) (hu : BlkS W u y.2) (hok : VolOk y) :
  RefIn base (((W.setCell ⟨g, i * 3 + 0, none⟩ (.int .u64 p.1)).setCell ⟨g, i * 3 + 1, none⟩ (.int .i64 y.1)).setCell ⟨g, i * 3 + 2, none⟩ u) R (.slice (some ⟨g, 0, none⟩) n c) (fun k => if k = p.1 then u else vf k) (putK d p.1 y) ∧ RK W (((W.setCell ⟨g, i * 3 + 0, none⟩ (.int .u64 p.1)).setCell ⟨g, i * 3 + 1, none⟩ (.int .i64 y.1)).setCell ⟨g, i * 3 + 2, none⟩ u) := by
 have H := h.gr hg
 have heap : ∀ (V : World) {xs : List RV}, OwnN rvE base V (.slice (some ⟨g, 0, none⟩) n c) xs → ∃ cs, V.heap[g]? = some (.cells cs 64 (0, 0)) := fun V xs hV => by
  rcases hV.own.2 with ⟨e, _⟩ | ⟨b, cap, cur, e, _, hh, _⟩
  ·cases e
  ·cases e; exact ⟨_, hh⟩
 have hil : i < d.length := (List.getElem?_eq_some_iff.1 hp).1
 have hk := h.ok.keys p (List.mem_of_getElem? hp)
 have hset := putK_set h.ok.sort (y := y) (show d[i]? = some (p.1, p.2) from hp)
 have h1 := H.own.store rvIs i 0 (rvF vf p) ⟨p.1, p.2.1, vf p.1⟩ (.int .u64 p.1) (by rw [List.getElem?_map, hp]; rfl) (by decide) rfl (H.vol p (List.mem_of_getElem? hp)).one
 have h2 := h1.store rvIs i 1 ⟨p.1, p.2.1, vf p.1⟩ ⟨p.1, y.1, vf p.1⟩ (.int .i64 y.1) (by rw [List.getElem?_set]; simp [hil]) (by decide) rfl (H.vol p (List.mem_of_getElem? hp)).one
 have h3 := h2.store rvIs i 2 ⟨p.1, y.1, vf p.1⟩ ⟨p.1, y.1, u⟩ u (by rw [List.getElem?_set]; simp [hil]) (by decide) rfl hu.one
 obtain ⟨cs0, hh0⟩ := heap _ H.own
 obtain ⟨cs1, hh1⟩ := heap _ h1
 obtain ⟨cs2, hh2⟩ := heap _ h2
 have hrk := (((RK.refl W).set_ g (i * 3 + 0) (.int .u64 p.1) hh0 (.inl rfl)).set_ g (i * 3 + 1) (.int .i64 y.1) hh1 (.inl rfl)).set_ g (i * 3 + 2) u hh2 (.inl rfl)
 refine ⟨⟨?_, ?_, fun q hq => ?_, h.bR, put_ok h.ok hk.1 hk.2 hok⟩, hrk⟩
 ·haveI := H.blk
  haveI : BNe R g := ⟨(H.neD rfl).symm⟩
  infer_instance
 ·have e : (((d.map (rvF vf)).set i ⟨p.1, p.2.1, vf p.1⟩).set i ⟨p.1, y.1, vf p.1⟩).set i ⟨p.1, y.1, u⟩ = (putK d p.1 y).map (rvF fun k => if k = p.1 then u else vf k) := by
   rw [← hset, List.set_set, List.set_set]
   apply List.ext_getElem?
   intro j
   rw [List.getElem?_set, List.getElem?_map, List.getElem?_map, List.getElem?_set]
   by_cases hj : i = j
   ·subst hj
    simp [hil, rvF]
   ·simp only [hj, if_false]
    cases hq : d[j]? with
    | none => rfl
    | some q =>
     have hne : ¬ q.1 = p.1 := fun e => by
      have h1 := findN_at h.ok.sort (show d[i]? = some (p.1, p.2) from hp)
      have h2 := findN_at h.ok.sort (show d[j]? = some (q.1, q.2) from hq)
      rw [e, h1] at h2
      cases h2
      exact hj rfl
     simp [rvF, hne]
  rw [e] at h3
  exact h3
 ·rcases (mem_putK h.ok.sort q).1 hq with rfl | ⟨hq, hne⟩
  ·simp only [if_true]
   exact hrk.blkS hu
  ·simp only [if_neg hne]
   exact hrk.blkS (H.vol q hq)
theorem DevIn.rk {base : Nat} {W W' : World} {D M : Nat} {mb : Int → Nat} {d : Dev} (h : DevIn base W D M mb d) (k : RK W W') : DevIn base W' D M mb d := by
 have hmap : ∀ {q : IntKind} {b : Nat} {L : List (Int × Value)}, MapAt q W b L → MapAt q W' b L := fun hm => by
  obtain ⟨es, clock, he, h1, h2, h3⟩ := hm
  exact ⟨es, clock, k.keep _ _ he (fun cs t f e => by cases e), h1, h2, h3⟩
 exact ⟨k.block h.blk (by unfold refT; decide), hmap h.all, fun p hp => hmap (h.vol p hp), h.inj, h.ne, h.bD, h.bM, h.bV, h.ok⟩
theorem DevAt.rk {base D : Nat} {W W' : World} {d : Dev} (h : DevAt base W D d) (k : RK W W') : DevAt base W' D d := by
 obtain ⟨M, mb, h⟩ := h
 exact ⟨M, mb, h.rk k⟩
theorem strOf_bytes (l : List UInt8) : strOfNums (l.map fun b => ((b.toNat : Nat) : Int)) = ⟨l.toArray⟩ := by
 unfold strOfNums
 congr 2
 rw [List.map_map]
 conv => rhs; rw [← List.map_id l]
 refine List.map_congr_left (fun b _ => ?_)
 show UInt8.ofNat b.toNat = b
 simp
theorem conv_row (A : Option Addr) (n q : Nat) (l : List UInt8) (W : World) (hl : l.length = n) (hr : Row bv W A l) : (convert 41 9 (.slice A n q)).run Tryz.prog W = .ok (.string ⟨l.toArray⟩) W := by
 by_cases h0 : l = []
 ·subst h0
  obtain rfl : n = 0 := by simpa using hl.symm
  cases A with
  | none => exact run_convert_bytes_nil W 41 5 Tryz.underlying41 Tryz.underlying5 0 q 9 Tryz.underlying9
  | some a =>
   rw [run_convert_bytes_string W 41 9 5 (some a) 0 q Tryz.underlying41 Tryz.underlying5 Tryz.underlying9]
   rw [run_bytesToString W a 0 q [] (by simpa using run_loadCells_list (P := Tryz.prog) W a [] (fun j v hj => by simp at hj))]
   rfl
 ·obtain ⟨b, o, rfl, hb, hc⟩ := hr.at_ h0
  rw [run_convert_bytes_arg W 41 5 Tryz.underlying41 Tryz.underlying5 b o n q (l.map fun b => ((b.toNat : Nat) : Int)) (by simpa using hl) (fun i hi => ?_) 9 Tryz.underlying9, strOf_bytes]
  have hil : i < l.length := by omega
  rw [hc i l[i] (List.getElem?_eq_getElem hil)]
  simp [bv, List.getD, List.getElem?_map, List.getElem?_eq_getElem hil]
set_option maxHeartbeats 2000000 in
theorem same13r_any (xk xv xt xs xa xc yk yv yt ys ya yc : Int) (xD yD : Option Addr) (xn xq yn yq : Nat) (lx ly : List UInt8) (w : World) (hx : lx.length = xn) (hy : ly.length = yn) (h1 : Row bv w xD lx) (h2 : Row bv w yD ly) :
  Calls Tryz.prog 58 #[(Value.agg #[.int .i64 xk, .int .u64 xv, .int .u64 xt, .int .i64 xs, .int .i64 xa, .int .i64 xc, .slice xD xn xq]), (Value.agg #[.int .i64 yk, .int .u64 yv, .int .u64 yt, .int .i64 ys, .int .i64 ya, .int .i64 yc, .slice yD yn yq])] w fun e w' => e = .returned (.bool (sameB xk xv xt xs xa xc yk yv yt ys ya yc lx ly)) ∧ Gr w w' := by
 have CV1 : ∀ (W : World) [GrC w W], (convert 41 9 (.slice xD xn xq)).run Tryz.prog W = .ok (.string ⟨lx.toArray⟩) W := fun W hW => conv_row _ _ _ _ _ hx (h1.gr (Gr.of hW.b))
 have CV2 : ∀ (W : World) [GrC w W], (convert 41 9 (.slice yD yn yq)).run Tryz.prog W = .ok (.string ⟨ly.toArray⟩) W := fun W hW => conv_row _ _ _ _ _ hy (h2.gr (Gr.of hW.b))
 clear hx hy h1 h2
 rcases Bool.eq_false_or_eq_true (xk == yk) with k1 | k1
 rotate_left
 ·go_enter Tryz.func58, Tryz.ntmps58
  go_wp2
  go_ret
  exact ⟨ret_bool (by simp [sameB, k1]), gri⟩
 rcases Bool.eq_false_or_eq_true (xv == yv) with k2 | k2
 rotate_left
 ·go_enter Tryz.func58, Tryz.ntmps58
  go_wp2
  go_ret
  exact ⟨ret_bool (by simp [sameB, k2]), gri⟩
 rcases Bool.eq_false_or_eq_true (xt == yt) with k3 | k3
 rotate_left
 ·go_enter Tryz.func58, Tryz.ntmps58
  go_wp2
  go_ret
  exact ⟨ret_bool (by simp [sameB, k3]), gri⟩
 rcases Bool.eq_false_or_eq_true (xs == ys) with k4 | k4
 rotate_left
 ·go_enter Tryz.func58, Tryz.ntmps58
  go_wp2
  go_ret
  exact ⟨ret_bool (by simp [sameB, k4]), gri⟩
 rcases Bool.eq_false_or_eq_true (xa == ya) with k5 | k5
 rotate_left
 ·go_enter Tryz.func58, Tryz.ntmps58
  go_wp2
  go_ret
  exact ⟨ret_bool (by simp [sameB, k5]), gri⟩
 rcases Bool.eq_false_or_eq_true (xc == yc) with k6 | k6
 rotate_left
 ·go_enter Tryz.func58, Tryz.ntmps58
  go_wp2
  go_ret
  exact ⟨ret_bool (by simp [sameB, k6]), gri⟩
 rcases Bool.eq_false_or_eq_true (lx == ly) with k7 | k7
 ·go_enter Tryz.func58, Tryz.ntmps58
  go_wp2
  go_ret
  exact ⟨ret_bool (by simp [sameB, k1, k2, k3, k4, k5, k6, k7]), gri⟩
 ·go_enter Tryz.func58, Tryz.ntmps58
  go_wp2
  go_ret
  exact ⟨ret_bool (by simp [sameB, k1, k2, k3, k4, k5, k6, k7]), gri⟩
set_option maxRecDepth 100000
set_option maxHeartbeats 4000000
deriving instance DecidableEq for OpM
def mayM (o : OpM) : Bool := mayOpB o.k o.v o.t o.s o.a o.c o.l.length o.l
theorem sameB_eq {x y : OpM} : sameB x.k x.v x.t x.s x.a x.c y.k y.v y.t y.s y.a y.c x.l y.l = true ↔ x = y := by
 obtain ⟨a, b, c, d, e, f, g⟩ := x
 obtain ⟨a2, b2, c2, d2, e2, f2, g2⟩ := y
 simp [sameB, and_assoc]
structure OpIn (W : World) (x : OpC) : Prop where
 len : x.o.l.length = x.n
 small : x.n ≤ 1000000
 row : Row bv W x.D x.o.l
theorem OpIn.gr {W W' : World} {x : OpC} (h : OpIn W x) (g : Gr W W') : OpIn W' x := ⟨h.len, h.small, h.row.gr g⟩
theorem sameOps_any (x y : List OpC) (n m : Nat) (hn : x.length = n) (hm : y.length = m) (hn9 : n ≤ 100000) (hm9 : m ≤ 100000) (A B : Option Addr) (c e : Nat) (w : World) (hx : RowN opE w A x) (hy : RowN opE w B y) (hxi : ∀ z ∈ x, OpIn w z) (hyi : ∀ z ∈ y, OpIn w z) :
  Calls Tryz.prog 23 #[.slice A n c, .slice B m e] w fun e w' => e = .returned (.bool (decide (x.map (·.o) = y.map (·.o)) && x.all fun z => mayM z.o)) ∧ Gr w w' := by
 have HX := Lib.hid hx
 have HY := Lib.hid hy
 have HN := Lib.hid hn
 have HM := Lib.hid hm
 have HXI := Lib.hid hxi
 have HYI := Lib.hid hyi
 clear hx hy hn hm hxi hyi
 obtain ⟨res, hres⟩ : ∃ res, res = (decide (x.map (·.o) = y.map (·.o)) && x.all fun z => mayM z.o) := ⟨_, rfl⟩
 rw [← hres]
 have HR := Lib.hid hres
 clear hres
 by_cases hnm : n = m
 rotate_left
 ·have HE := Lib.hid (show res = false from by
   rw [HR.out, decide_eq_false (fun h => hnm (by rw [← HN.out, ← HM.out]; have := congrArg List.length h; simpa using this)), Bool.false_and])
  have hb : ((n : Int) != (m : Int)) = true := by rw [bne_iff_ne]; omega
  go_enter Tryz.func23, Tryz.ntmps23
  go_wp2
  go_ret
  exact ⟨by rw [HE.out]; rfl, gri⟩
 subst hnm
 have hb : ((n : Int) != (n : Int)) = false := by simp
 go_enter Tryz.func23, Tryz.ntmps23
 go_wp2
 go_loopw [5] (fun i wr => ∃ k : Nat, k ≤ n ∧ i = .int .i64 (k : Int) ∧ (x.take k).map (·.o) = (y.take k).map (·.o) ∧ ((x.take k).all fun z => mayM z.o) = true ∧ Gr w wr) (fun i _ => n - (intOf i).toNat)
 case atStart => exact ⟨0, Nat.zero_le _, rfl, rfl, rfl, gri⟩
 case round =>
  obtain ⟨k, hk, rfl, hpre, hall, hg⟩ := hrel
  haveI := grc_of hg
  haveI := from_of hg
  have HG := Lib.hid hg
  have HP := Lib.hid hpre
  have HA := Lib.hid hall
  clear hg hpre hall
  by_cases hlt : k < n
  ·obtain ⟨u, hu⟩ : ∃ u, x[k]? = some u := ⟨_, List.getElem?_eq_getElem (by rw [HN.out]; exact hlt)⟩
   obtain ⟨v, hv⟩ : ∃ v, y[k]? = some v := ⟨_, List.getElem?_eq_getElem (by rw [HM.out]; exact hlt)⟩
   obtain ⟨b1, p1, rfl, hb1, hc1⟩ := (HX.out.gr HG.out).at_ (by rintro rfl; have := HN.out; simp at this; omega)
   obtain ⟨b2, p2, rfl, hb2, hc2⟩ := (HY.out.gr HG.out).at_ (by rintro rfl; have := HM.out; simp at this; omega)
   obtain ⟨c0, c1, c2, c3, c4, c5, c6⟩ := opCells hc1 hu
   obtain ⟨d0, d1, d2, d3, d4, d5, d6⟩ := opCells hc2 hv
   haveI : Old b1 wr := ⟨hb1⟩
   haveI : Old b2 wr := ⟨hb2⟩
   have ou := (HXI.out u (List.mem_of_getElem? hu)).gr HG.out
   have ov := (HYI.out v (List.mem_of_getElem? hv)).gr HG.out
   have HU := Lib.hid hu
   have HV := Lib.hid hv
   have HS := Lib.hid (fun W (hW : Gr wr W) => same13r_any u.o.k u.o.v u.o.t u.o.s u.o.a u.o.c v.o.k v.o.v v.o.t v.o.s v.o.a v.o.c u.D v.D u.n u.q v.n v.q u.o.l v.o.l W ou.len ov.len (ou.row.gr hW) (ov.row.gr hW))
   have HMY := Lib.hid (fun W (hW : Gr wr W) => mayOp_any u.o.k u.o.v u.o.t u.o.s u.o.a u.o.c u.D u.n u.q u.o.l W ou.len (by have := ou.small; omega) (ou.row.gr hW))
   have HSB := Lib.hid (sameB_eq (x := u.o) (y := v.o))
   have HML := Lib.hid (show mayOpB u.o.k u.o.v u.o.t u.o.s u.o.a u.o.c u.n u.o.l = mayM u.o from by rw [mayM, ou.len])
   rw [HML.out] at HMY
   clear hc1 hc2 hu hv ou ov HML
   generalize hsb : sameB u.o.k u.o.v u.o.t u.o.s u.o.a u.o.c v.o.k v.o.v v.o.t v.o.s v.o.a v.o.c u.o.l v.o.l = sb at *
   generalize hmb : mayM u.o = mb at *
   have HMB := Lib.hid hmb
   clear hsb hmb
   cases sb
   ·have huv : u.o ≠ v.o := fun h => by have := HSB.out.2 h; cases this
    have HE := Lib.hid (show res = false from by
     rw [HR.out, decide_eq_false, Bool.false_and]
     intro h
     have h1 : (x.map (·.o))[k]? = some u.o := by rw [List.getElem?_map, HU.out]; rfl
     rw [h, List.getElem?_map, HV.out] at h1
     exact huv (Option.some.inj h1).symm)
    clear huv
    go_wp2
    refine wp_region_grow (by kernel_rfl) (by kernel_rfl) ?_
    repeat (go_big_quiet_step ((first | (go_at_call 58; exact grow_call (HS.out _ gri)) | (go_at_call 59; exact grow_call (HMY.out _ gri)))))
    refine wpQuiet_nil ?_
    intro g1
    go_wp2
    go_ret
    exact ⟨by rw [HE.out]; rfl, gri⟩
   ·cases mb
    ·have HE := Lib.hid (show res = false from by
      rw [HR.out, Bool.and_eq_false_iff]
      right
      rw [List.all_eq_false]
      exact ⟨u, List.mem_of_getElem? HU.out, by rw [HMB.out]; decide⟩)
     go_wp2
     refine wp_region_grow (by kernel_rfl) (by kernel_rfl) ?_
     repeat (go_big_quiet_step ((first | (go_at_call 58; exact grow_call (HS.out _ gri)) | (go_at_call 59; exact grow_call (HMY.out _ gri)))))
     refine wpQuiet_nil ?_
     intro g1
     go_wp2
     go_ret
     exact ⟨by rw [HE.out]; rfl, gri⟩
    ·have HUV := Lib.hid (HSB.out.1 rfl)
     go_wp2
     refine wp_region_grow (by kernel_rfl) (by kernel_rfl) ?_
     repeat (go_big_quiet_step ((first | (go_at_call 58; exact grow_call (HS.out _ gri)) | (go_at_call 59; exact grow_call (HMY.out _ gri)))))
     refine wpQuiet_nil ?_
     intro g1
     go_wp2
     go_roundw
     case rel => exact ⟨k + 1, hlt, by go_num, by rw [List.take_add_one, List.take_add_one, HU.out, HV.out, List.map_append, List.map_append, HP.out]; simp [HUV.out], by rw [List.take_add_one, HU.out, List.all_append, HA.out]; simp [HMB.out], gri⟩
     case measure => simp [intOf]; omega
  ·have : k = n := by omega
   subst this
   have HE := Lib.hid (show res = true from by
    have h1 := HP.out
    have h2 := HA.out
    rw [List.take_of_length_le (by rw [HN.out]; omega), List.take_of_length_le (by rw [HM.out]; omega)] at h1
    rw [List.take_of_length_le (by rw [HN.out]; omega)] at h2
    rw [HR.out, decide_eq_true h1, h2]; rfl)
   go_wp2
   go_ret
   exact ⟨by rw [HE.out]; rfl, gri⟩
end Go.Proofs.YtipeblmgochdfaaGreat
namespace Go.Proofs.YtipeblmgochdfaaGreat
open Go.RowKit Go.ChangeShapes Go.WideShapes
set_option linter.unusedVariables false
set_option linter.unusedSimpArgs false
set_option linter.unnecessarySimpa false
structure OpCa (W : World) (x : OpC) : Prop where
 len : x.o.l.length = x.n
 cap : x.n ≤ x.q
 big : x.n ≤ 9223372036854775807
 row : Row bv W x.D x.o.l
 v0 : 0 ≤ x.o.v
 t0 : 0 ≤ x.o.t
theorem OpCa.ok {W : World} {x : OpC} (h : OpCa W x) (hn : x.n ≤ 9000) : OpOk W x := ⟨h.len, h.cap, by omega, h.row, h.v0, h.t0⟩
theorem u64_wf9 {z : Int} (h : (Lit.int .u64 z).wf = true) : 0 ≤ z ∧ z ≤ 18446744073709551615 := by
 simp [Lit.wf, IntKind.min, IntKind.max, IntKind.bits, IntKind.signed] at h
 omega
theorem got9 {α : Type} {l : List α} {n : Nat} (h : l.length = n) (i : Nat) (hi : i < n) : ∃ y, l[i]? = some y := ⟨l[i]'(by rw [h]; exact hi), List.getElem?_eq_getElem _⟩
theorem u8_of9 {z : Int} (h : (Lit.int .u8 z).wf = true) : bv (UInt8.ofNat z.toNat) = .int .u8 z := by
 simp [Lit.wf, IntKind.min, IntKind.max, IntKind.bits, IntKind.signed] at h
 unfold bv
 have e : (UInt8.ofNat z.toNat).toNat = z.toNat := by rw [UInt8.toNat_ofNat', Nat.mod_eq_of_lt (by omega)]
 rw [e, Int.toNat_of_nonneg (by omega)]
section
variable {H : Type} {enc : TypeId × Value → H}
set_option maxRecDepth 100000 in
theorem bytes_trod {W : World} {fuel : Nat} {c : Value} {x : DataW H × List MemPlace} (h : DataW.trod enc Tryz.prog W 0 (fun _ => true) true fuel 41 [c] = some x) : ∃ (D : Option Addr) (q : Nat) (l : List UInt8), c = .slice D l.length q ∧ l.length ≤ q ∧ q ≤ maxLen ∧ Row bv W D l := by
 rcases open_ints Tryz.underlying41 Tryz.underlying5 (by kernel_rfl) h with ⟨h0, _⟩ | ⟨a, len, cap, zs, h0, _, hl, hm, hz, _, hcell, hw⟩
 ·obtain rfl : c = .slice none 0 0 := by simpa using h0
  exact ⟨none, 0, [], rfl, Nat.le_refl _, Nat.zero_le _, Row.nil⟩
 ·obtain rfl : c = .slice (some a) len cap := by simpa using h0
  rw [if_pos rfl] at hz
  have hlen : ((zs.take len).map fun z => UInt8.ofNat z.toNat).length = len := by rw [List.length_map, List.length_take]; omega
  refine ⟨some a, cap, (zs.take len).map fun z => UInt8.ofNat z.toNat, by rw [hlen], by rw [hlen]; exact hl, hm, ⟨fun hne => ?_⟩⟩
  have hpos : 0 < len := by
   rcases Nat.eq_zero_or_pos len with h | h
   ·subst h; simp at hne
   ·exact h
  obtain ⟨b, o, sp⟩ := a
  have h1 := hcell 0 (by omega)
  have hsp : sp = none := by
   cases sp with
   | none => rfl
   | some y => simp [Addr.add, World.cell?] at h1; split at h1 <;> simp at h1
  subst hsp
  have hadd : ∀ i, (⟨b, o, none⟩ : Addr).add i = ⟨b, o + i, none⟩ := fun i => by unfold Addr.add; split <;> simp_all
  refine ⟨b, o, rfl, ?_, fun j y hj => ?_⟩
  ·rcases Nat.lt_or_ge b W.heap.size with h | h
   ·exact h
   ·rw [hadd] at h1
    simp [World.cell?, Array.getElem?_eq_none h] at h1
  ·rw [List.getElem?_map] at hj
   have hjl : j < len := by
    rcases Nat.lt_or_ge j len with h | h
    ·exact h
    ·rw [List.getElem?_eq_none (by rw [List.length_take]; omega)] at hj; simp at hj
   rw [List.getElem?_take, if_pos hjl, List.getElem?_eq_getElem (by omega)] at hj
   simp only [Option.map_some, Option.some.injEq] at hj
   subst hj
   have h2 := hcell j (by omega)
   rw [hadd] at h2
   rw [h2, List.getD_eq_getElem?_getD, List.getElem?_eq_getElem (by omega)]
   simp only [Option.getD_some]
   rw [u8_of9 (hw _ (List.getElem_mem _))]
set_option maxRecDepth 100000 in
theorem op_trod9 {W : World} {cs : List Value} {fuel : Nat} {x : DataW H × List MemPlace} (hl : cs.length = 7)
  (h : DataW.trod enc Tryz.prog W 0 (fun _ => true) true fuel 43 cs = some x) : ∃ z : OpC, cs = opE.cs z ∧ OpCa W z := by
 match cs, hl with
 | [c0, c1, c2, c3, c4, c5, c6], _ =>
  obtain ⟨xs, n0, _, _, _, hlen, hf⟩ := DataW.trod_struct Tryz.underlying43 h
  have hlen : xs.length = 7 := hlen
  obtain ⟨y0, e0⟩ := got9 hlen 0 (by decide)
  obtain ⟨y1, e1⟩ := got9 hlen 1 (by decide)
  obtain ⟨y2, e2⟩ := got9 hlen 2 (by decide)
  obtain ⟨y3, e3⟩ := got9 hlen 3 (by decide)
  obtain ⟨y4, e4⟩ := got9 hlen 4 (by decide)
  obtain ⟨y5, e5⟩ := got9 hlen 5 (by decide)
  obtain ⟨y6, e6⟩ := got9 hlen 6 (by decide)
  have h0 := hf 0 _ rfl; have h1 := hf 1 _ rfl; have h2 := hf 2 _ rfl; have h3 := hf 3 _ rfl; have h4 := hf 4 _ rfl; have h5 := hf 5 _ rfl; have h6 := hf 6 _ rfl
  rw [e0] at h0; rw [e1] at h1; rw [e2] at h2; rw [e3] at h3; rw [e4] at h4; rw [e5] at h5; rw [e6] at h6
  obtain ⟨k, q0, _, w0⟩ := DataW.trod_int Tryz.underlying40 h0
  obtain ⟨v, q1, _, w1⟩ := DataW.trod_int Tryz.underlying28 h1
  obtain ⟨t, q2, _, w2⟩ := DataW.trod_int Tryz.underlying28 h2
  obtain ⟨s, q3, _, w3⟩ := DataW.trod_int Tryz.underlying3 h3
  obtain ⟨a, q4, _, w4⟩ := DataW.trod_int Tryz.underlying3 h4
  obtain ⟨c, q5, _, w5⟩ := DataW.trod_int Tryz.underlying3 h5
  obtain ⟨D, q, l, rfl, hq, hm, hr⟩ := bytes_trod (c := c6) h6
  obtain rfl : c0 = .int .i64 k := List.head_eq_of_cons_eq q0
  obtain rfl : c1 = .int .u64 v := List.head_eq_of_cons_eq q1
  obtain rfl : c2 = .int .u64 t := List.head_eq_of_cons_eq q2
  obtain rfl : c3 = .int .i64 s := List.head_eq_of_cons_eq q3
  obtain rfl : c4 = .int .i64 a := List.head_eq_of_cons_eq q4
  obtain rfl : c5 = .int .i64 c := List.head_eq_of_cons_eq q5
  unfold maxLen at hm
  exact ⟨⟨⟨k, v, t, s, a, c, l⟩, D, l.length, q⟩, rfl, ⟨rfl, hq, by show l.length ≤ _; omega, hr, (u64_wf9 w1).1, (u64_wf9 w2).1⟩⟩
structure CameO (W : World) (A : Option Addr) (n q : Nat) (l : List OpC) : Prop where
 len : l.length = n
 cap : n ≤ q
 big : n ≤ 9223372036854775807
 nil : A = none → q = 0
 row : RowN opE W A l
 each : ∀ x ∈ l, OpCa W x
set_option maxRecDepth 100000 in
theorem ops_trod9 {W : World} {c : Value} {fuel : Nat} {x : DataW H × List MemPlace} (h : DataW.trod enc Tryz.prog W 0 (fun _ => true) true fuel 31 [c] = some x) : ∃ A n q l, c = .slice A n q ∧ CameO W A n q l := by
 rcases DataW.trod_slice Tryz.underlying31 h with ⟨h0, _⟩ | ⟨ad, len, cap, elems, rest, n0, _, h0, _, _, hlc, hcm, hel, hget, _, _⟩
 ·obtain rfl : c = .slice none 0 0 := List.head_eq_of_cons_eq h0
  exact ⟨none, 0, 0, [], rfl, rfl, Nat.le_refl _, Nat.zero_le _, fun _ => rfl, RowN.nil, by simp⟩
 ·obtain rfl : c = .slice (some ad) len cap := List.head_eq_of_cons_eq h0
  have hco : Tryz.prog.cellsOf 43 = 7 := by kernel_rfl
  rw [hco] at hget
  have hone : ∀ i, i < len → ∃ cs, W.cells? 0 (ad.add (i * 7)) 7 = some cs ∧ ∃ z, cs = opE.cs z ∧ OpCa W z := fun i hi => by
   obtain ⟨y, hy⟩ := got9 hel i hi
   have h1 := hget i hi
   rw [hy] at h1
   obtain ⟨cs, hcs, ht⟩ := Option.bind_eq_some_iff.1 h1
   obtain ⟨_, hlen, _⟩ := World.cells?_some hcs
   exact ⟨cs, hcs, op_trod9 hlen ht⟩
  have hsp : 0 < len → ∃ b o, ad = ⟨b, o, none⟩ ∧ b < W.heap.size := fun hpos => by
   obtain ⟨cs, hcs, _⟩ := hone 0 hpos
   obtain ⟨_, hlen, hc⟩ := World.cells?_some hcs
   have hlt := World.cells?_block hcs (by decide)
   obtain ⟨b, o, sp⟩ := ad
   obtain ⟨c0, hc0⟩ := got9 hlen 0 (by decide)
   have g0 := hc 0 (by decide)
   rw [hc0] at g0
   have hspot : sp = none := by simpa [Addr.add] using World.cell?_spot g0
   subst hspot
   rw [Go.ChangeShapes.block_add] at hlt
   exact ⟨b, o, rfl, hlt⟩
  have hex : ∃ f : Nat → OpC, ∀ i, i < len → W.cells? 0 (ad.add (i * 7)) 7 = some (opE.cs (f i)) ∧ OpCa W (f i) := by
   refine ⟨fun i => if h : i < len then Classical.choose (Classical.choose_spec (hone i h)).2 else ⟨⟨0, 0, 0, 0, 0, 0, []⟩, none, 0, 0⟩, fun i hi => ?_⟩
   simp only [dif_pos hi]
   have h1 := (Classical.choose_spec (hone i hi)).1
   have h2 := Classical.choose_spec (Classical.choose_spec (hone i hi)).2
   rw [h2.1] at h1
   exact ⟨h1, h2.2⟩
  obtain ⟨f, hf⟩ := hex
  refine ⟨some ad, len, cap, (List.range len).map f, rfl, by simp, hlc, by unfold maxLen at hcm; omega, fun h => by (cases h), ⟨fun _ _ => trivial, fun hne => ?_⟩, fun x hx => ?_⟩
  ·have hpos : 0 < len := by
    rcases Nat.eq_zero_or_pos len with h | h
    ·subst h; simp at hne
    ·exact h
   obtain ⟨b, o, rfl, hlt⟩ := hsp hpos
   refine ⟨b, o, rfl, hlt, fun j a hj i u hu => ?_⟩
   have hjl : j < len := by
    have := (List.getElem?_eq_some_iff.1 hj).1
    simpa using this
   rw [List.getElem?_map, List.getElem?_range hjl] at hj
   simp only [Option.map_some, Option.some.injEq] at hj
   subst hj
   obtain ⟨_, hlen, hc⟩ := World.cells?_some (hf j hjl).1
   have hi : i < 7 := by
    have := (List.getElem?_eq_some_iff.1 hu).1
    rwa [hlen] at this
   have h1 := hc i hi
   rw [add_plain, add_plain] at h1
   exact h1.trans hu
  ·obtain ⟨j, hj, rfl⟩ := List.mem_map.1 hx
   exact (hf j (List.mem_range.1 hj)).2
set_option maxRecDepth 100000 in
theorem open_ops {W : World} {base : Nat} {v : Value} {d : DataW H} {p : List MemPlace} (hv : Value.okWide Tryz.prog W .any base 31 v) (h : DataW.Trod enc Tryz.prog W 0 (fun _ => true) true 31 v d p) :
  ∃ A n q l, v = .slice A n q ∧ CameO W A n q l := by
 simp only [Value.okWide, Tryz.underlying31, Cell.okWide] at hv
 obtain ⟨fuel, hd⟩ := h
 have hv2 : v.cells.toList = [v] := by cases v <;> simp_all [Cell.ok, Value.cells]
 rw [hv2] at hd
 exact ops_trod9 hd
end
def muchK (l : List OpC) (most : Nat) : Bool := ((l.take (most + 1)).any fun x => decide (9000 < x.n)) || decide (most < l.length)
theorem muchK_no {l : List OpC} {most : Nat} (h : muchK l most = false) : l.length ≤ most ∧ ∀ x ∈ l, x.n ≤ 9000 := by
 unfold muchK at h
 rw [Bool.or_eq_false_iff] at h
 have hl : l.length ≤ most := by have := h.2; simpa using this
 refine ⟨hl, fun x hx => ?_⟩
 have h1 := h.1
 rw [List.take_of_length_le (by omega), List.any_eq_false] at h1
 have := h1 x hx
 simpa using this
set_option maxRecDepth 100000 in
set_option maxHeartbeats 4000000 in
theorem lmuch_any (l : List OpC) (n : Nat) (hn : l.length = n) (most : Nat) (hm : most ≤ 1000) (A : Option Addr) (c : Nat) (w : World) (hr : RowN opE w A l) :
  Calls Tryz.prog 14 #[.slice A n c, .int .i64 (most : Int)] w fun e w' => e = .returned (.bool (muchK l most)) ∧ Gr w w' := by
 have HR := Lib.hid hr
 have HN := Lib.hid hn
 obtain ⟨r, hrr⟩ : ∃ r, r = muchK l most := ⟨_, rfl⟩
 rw [← hrr]
 have HRR := Lib.hid hrr
 clear hr hn hrr
 go_enter Tryz.func14, Tryz.ntmps14
 go_wp2
 go_loopw [5] (fun i wr => ∃ k : Nat, k ≤ n ∧ k ≤ most + 1 ∧ i = .int .i64 (k : Int) ∧ ((l.take k).any fun x => decide (9000 < x.n)) = false ∧ Gr w wr) (fun i _ => n - (intOf i).toNat)
 case atStart => exact ⟨0, Nat.zero_le _, Nat.zero_le _, rfl, rfl, gri⟩
 case round =>
  obtain ⟨k, hk, hk2, rfl, hno, hg⟩ := hrel
  haveI := grc_of hg
  haveI := from_of hg
  have HNO := Lib.hid hno
  have HG := Lib.hid hg
  clear hg hno
  by_cases hlt : k < n
  ·by_cases hle : k ≤ most
   ·obtain ⟨x, hx⟩ : ∃ x, l[k]? = some x := ⟨_, List.getElem?_eq_getElem (by rw [HN.out]; exact hlt)⟩
    obtain ⟨b, p, rfl, hb, hcl⟩ := (HR.out.gr HG.out).at_ (by rintro rfl; have := HN.out; simp at this; omega)
    obtain ⟨c0, c1, c2, c3, c4, c5, c6⟩ := opCells hcl hx
    haveI : Old b wr := ⟨hb⟩
    have HX := Lib.hid hx
    have HM := Lib.hid (fun W => much13_any x.o.k x.o.v x.o.t x.o.s x.o.a x.o.c x.D x.n x.q W)
    have hT : l.take (k + 1) = l.take k ++ [x] := by rw [List.take_add_one, hx]; rfl
    have HT := Lib.hid hT
    clear hcl hx hT
    by_cases hbig : 9000 < x.n
    ·have HE := Lib.hid (show r = true from by
      rw [HRR.out, muchK, Bool.or_eq_true]
      left
      rw [List.any_eq_true]
      exact ⟨x, List.mem_of_getElem? (i := k) (by rw [List.getElem?_take, if_pos (by omega)]; exact HX.out), by simpa using hbig⟩)
     rw [decide_eq_true hbig] at HM
     clear hbig
     go_wp2_with ((go_at_call 45; ((with_reducible refine (HM.out _).mono ?_); rintro _ _ ⟨rfl, g, rfl⟩)))
     go_ret
     exact ⟨by rw [HE.out]; rfl, gri⟩
    ·rw [decide_eq_false hbig] at HM
     have HE := Lib.hid (show ((l.take (k + 1)).any fun x => decide (9000 < x.n)) = false from by
      rw [HT.out, List.any_append, HNO.out]
      simp [decide_eq_false hbig])
     clear hbig
     go_wp2_with ((go_at_call 45; ((with_reducible refine (HM.out _).mono ?_); rintro _ _ ⟨rfl, g, rfl⟩)))
     go_roundw
     case rel => exact ⟨k + 1, hlt, by omega, by go_num, HE.out, gri⟩
     case measure => simp [intOf]; omega
   ·have HE := Lib.hid (show r = true from by
     rw [HRR.out, muchK, Bool.or_eq_true]
     right
     rw [HN.out]
     simp
     omega)
    have h9 : (most : Int) < (n : Int) := by omega
    go_wp2
    go_ret
    exact ⟨by rw [HE.out]; simp [h9], gri⟩
  ·have : k = n := by omega
   subst this
   by_cases hle : k ≤ most
   ·have HE := Lib.hid (show r = false from by
     rw [HRR.out, muchK, Bool.or_eq_false_iff]
     have h1 := HNO.out
     rw [List.take_of_length_le (by rw [HN.out]; omega)] at h1
     refine ⟨by rw [List.take_of_length_le (by rw [HN.out]; omega)]; exact h1, ?_⟩
     rw [HN.out]
     simp
     omega)
    have h9 : ¬ (most : Int) < (k : Int) := by omega
    go_wp2
    go_ret
    exact ⟨by rw [HE.out]; simp [h9], gri⟩
   ·have HE := Lib.hid (show r = true from by
     rw [HRR.out, muchK, Bool.or_eq_true]
     right
     rw [HN.out]
     simp
     omega)
    have h9 : (most : Int) < (k : Int) := by omega
    go_wp2
    go_ret
    exact ⟨by rw [HE.out]; simp [h9], gri⟩
end Go.Proofs.YtipeblmgochdfaaGreat
