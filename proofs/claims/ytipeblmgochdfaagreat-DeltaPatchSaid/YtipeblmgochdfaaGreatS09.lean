/- Device.Part, of a kind that does nothing. Conditions: as XDPa. A region that draws its order, one of whose last operations turns what is old, while operations that read nothing float behind it. Conditions: each step is known. Device.put. Conditions: the device stands in memory. maps.Clone of a volume's blocks. Conditions: the map stands in memory. Device.snap. Conditions: the device stands in memory. -/
import Derived.Test.YtipeblmgochdfaaGreatS08
import Derived.Test.YtipeblmgochdfaaGreatS05
namespace Go.Proofs.YtipeblmgochdfaaGreat
open Go.RowKit
set_option linter.unusedVariables false
set_option linter.unusedSimpArgs false
set_option linter.unnecessarySimpa false
set_option maxRecDepth 100000
set_option maxHeartbeats 4000000 in
theorem part_none (xk xv xt xs xa xc most : Int) (xD : Option Addr) (xn xq : Nat) (lx : Byt) (hxn : lx.length = xn) (base D : Nat) (d : Dev) (w : World) (h : DevAt base w D d) (hbase : base ≤ w.heap.size) (hr : Row bv w xD lx) (hn : xn ≤ 1000000) (he : errK d ⟨xk, xv, xt, xs, xa, xc, lx⟩ = 0) (hf : getK tabF xk = none) :
  Calls Tryz.prog 71 #[.pointer (some ⟨D, 0, none⟩), .agg #[.int .i64 xk, .int .u64 xv, .int .u64 xt, .int .i64 xs, .int .i64 xa, .int .i64 xc, .slice xD xn xq], .int .i64 most] w (PartPost base D d 0 0 [] w) := by
 have HR := Lib.hid (fun W (g : Gr w W) => (refused_any xk xv xt xs xa xc xD xn xq lx hxn base D d W (h.gr g) (hr.gr g) (by omega)))
 rw [he] at HR
 have HH := Lib.hid h
 clear h hr
 go_enter Tryz.func71, Tryz.ntmps71
 unfold tabF at hf
 go_wp2_with (first
  | (go_at_call 90; ((with_reducible refine (HR.out _ gri).mono ?_); rintro _ _ ⟨rfl, g1, rfl⟩))
  | (refine wpList_makeMapK (q := .i64) rfl rfl ?_; intro W9 b9 hm9 hgw hbw; have bO := BlockAt.gr (inferInstance : BlockAt _ w.heap.size #[.int .i64 xk, .int .u64 xv, .int .u64 xt, .int .i64 xs, .int .i64 xa, .int .i64 xc, .slice xD xn xq] 43) hgw; have bA := BlockAt.gr (inferInstance : BlockAt _ (w.heap.size + 1) #[.int .i64 0, .int .i64 0, .slice none 0 0] 97) hgw; have cO0 : W9.cell? ⟨w.heap.size, 0, none⟩ = some (.int .i64 xk) := (@block_cells _ _ 0 _ _ bO).trans rfl; have cO1 : W9.cell? ⟨w.heap.size, 1, none⟩ = some (.int .u64 xv) := (@block_cells _ _ 1 _ _ bO).trans rfl; have cO2 : W9.cell? ⟨w.heap.size, 2, none⟩ = some (.int .u64 xt) := (@block_cells _ _ 2 _ _ bO).trans rfl; have cO3 : W9.cell? ⟨w.heap.size, 3, none⟩ = some (.int .i64 xs) := (@block_cells _ _ 3 _ _ bO).trans rfl; have cO4 : W9.cell? ⟨w.heap.size, 4, none⟩ = some (.int .i64 xa) := (@block_cells _ _ 4 _ _ bO).trans rfl; have cO5 : W9.cell? ⟨w.heap.size, 5, none⟩ = some (.int .i64 xc) := (@block_cells _ _ 5 _ _ bO).trans rfl; have cO6 : W9.cell? ⟨w.heap.size, 6, none⟩ = some (.slice xD xn xq) := (@block_cells _ _ 6 _ _ bO).trans rfl; have oO := bO.old; have oA := bA.old; have HbA := Lib.hid bA; clear bO bA)
  | (refine wpList_insertK rfl _ _ _ rfl 1 (.func (.func 91) #[] #[]) Tryz.underlying182 Tryz.underlying40 hm9 hgw hbw rfl rfl rfl ?_; clear cO0 cO1 cO2 cO3 cO4 cO5 cO6 oO oA HbA; clear hm9 hgw; intro W9 hm9 hgw; have bO := BlockAt.gr (inferInstance : BlockAt _ w.heap.size #[.int .i64 xk, .int .u64 xv, .int .u64 xt, .int .i64 xs, .int .i64 xa, .int .i64 xc, .slice xD xn xq] 43) hgw; have bA := BlockAt.gr (inferInstance : BlockAt _ (w.heap.size + 1) #[.int .i64 0, .int .i64 0, .slice none 0 0] 97) hgw; have cO0 : W9.cell? ⟨w.heap.size, 0, none⟩ = some (.int .i64 xk) := (@block_cells _ _ 0 _ _ bO).trans rfl; have cO1 : W9.cell? ⟨w.heap.size, 1, none⟩ = some (.int .u64 xv) := (@block_cells _ _ 1 _ _ bO).trans rfl; have cO2 : W9.cell? ⟨w.heap.size, 2, none⟩ = some (.int .u64 xt) := (@block_cells _ _ 2 _ _ bO).trans rfl; have cO3 : W9.cell? ⟨w.heap.size, 3, none⟩ = some (.int .i64 xs) := (@block_cells _ _ 3 _ _ bO).trans rfl; have cO4 : W9.cell? ⟨w.heap.size, 4, none⟩ = some (.int .i64 xa) := (@block_cells _ _ 4 _ _ bO).trans rfl; have cO5 : W9.cell? ⟨w.heap.size, 5, none⟩ = some (.int .i64 xc) := (@block_cells _ _ 5 _ _ bO).trans rfl; have cO6 : W9.cell? ⟨w.heap.size, 6, none⟩ = some (.slice xD xn xq) := (@block_cells _ _ 6 _ _ bO).trans rfl; have oO := bO.old; have oA := bA.old; have HbA := Lib.hid bA; clear bO bA)
  | (refine wpList_insertK rfl _ _ _ rfl 2 (.func (.func 92) #[] #[]) Tryz.underlying182 Tryz.underlying40 hm9 hgw hbw rfl rfl rfl ?_; clear cO0 cO1 cO2 cO3 cO4 cO5 cO6 oO oA HbA; clear hm9 hgw; intro W9 hm9 hgw; have bO := BlockAt.gr (inferInstance : BlockAt _ w.heap.size #[.int .i64 xk, .int .u64 xv, .int .u64 xt, .int .i64 xs, .int .i64 xa, .int .i64 xc, .slice xD xn xq] 43) hgw; have bA := BlockAt.gr (inferInstance : BlockAt _ (w.heap.size + 1) #[.int .i64 0, .int .i64 0, .slice none 0 0] 97) hgw; have cO0 : W9.cell? ⟨w.heap.size, 0, none⟩ = some (.int .i64 xk) := (@block_cells _ _ 0 _ _ bO).trans rfl; have cO1 : W9.cell? ⟨w.heap.size, 1, none⟩ = some (.int .u64 xv) := (@block_cells _ _ 1 _ _ bO).trans rfl; have cO2 : W9.cell? ⟨w.heap.size, 2, none⟩ = some (.int .u64 xt) := (@block_cells _ _ 2 _ _ bO).trans rfl; have cO3 : W9.cell? ⟨w.heap.size, 3, none⟩ = some (.int .i64 xs) := (@block_cells _ _ 3 _ _ bO).trans rfl; have cO4 : W9.cell? ⟨w.heap.size, 4, none⟩ = some (.int .i64 xa) := (@block_cells _ _ 4 _ _ bO).trans rfl; have cO5 : W9.cell? ⟨w.heap.size, 5, none⟩ = some (.int .i64 xc) := (@block_cells _ _ 5 _ _ bO).trans rfl; have cO6 : W9.cell? ⟨w.heap.size, 6, none⟩ = some (.slice xD xn xq) := (@block_cells _ _ 6 _ _ bO).trans rfl; have oO := bO.old; have oA := bA.old; have HbA := Lib.hid bA; clear bO bA)
  | (refine wpList_insertK rfl _ _ _ rfl 3 (.func (.func 93) #[] #[]) Tryz.underlying182 Tryz.underlying40 hm9 hgw hbw rfl rfl rfl ?_; clear cO0 cO1 cO2 cO3 cO4 cO5 cO6 oO oA HbA; clear hm9 hgw; intro W9 hm9 hgw; have bO := BlockAt.gr (inferInstance : BlockAt _ w.heap.size #[.int .i64 xk, .int .u64 xv, .int .u64 xt, .int .i64 xs, .int .i64 xa, .int .i64 xc, .slice xD xn xq] 43) hgw; have bA := BlockAt.gr (inferInstance : BlockAt _ (w.heap.size + 1) #[.int .i64 0, .int .i64 0, .slice none 0 0] 97) hgw; have cO0 : W9.cell? ⟨w.heap.size, 0, none⟩ = some (.int .i64 xk) := (@block_cells _ _ 0 _ _ bO).trans rfl; have cO1 : W9.cell? ⟨w.heap.size, 1, none⟩ = some (.int .u64 xv) := (@block_cells _ _ 1 _ _ bO).trans rfl; have cO2 : W9.cell? ⟨w.heap.size, 2, none⟩ = some (.int .u64 xt) := (@block_cells _ _ 2 _ _ bO).trans rfl; have cO3 : W9.cell? ⟨w.heap.size, 3, none⟩ = some (.int .i64 xs) := (@block_cells _ _ 3 _ _ bO).trans rfl; have cO4 : W9.cell? ⟨w.heap.size, 4, none⟩ = some (.int .i64 xa) := (@block_cells _ _ 4 _ _ bO).trans rfl; have cO5 : W9.cell? ⟨w.heap.size, 5, none⟩ = some (.int .i64 xc) := (@block_cells _ _ 5 _ _ bO).trans rfl; have cO6 : W9.cell? ⟨w.heap.size, 6, none⟩ = some (.slice xD xn xq) := (@block_cells _ _ 6 _ _ bO).trans rfl; have oO := bO.old; have oA := bA.old; have HbA := Lib.hid bA; clear bO bA)
  | (refine wpList_insertK rfl _ _ _ rfl 4 (.func (.func 94) #[] #[]) Tryz.underlying182 Tryz.underlying40 hm9 hgw hbw rfl rfl rfl ?_; clear cO0 cO1 cO2 cO3 cO4 cO5 cO6 oO oA HbA; clear hm9 hgw; intro W9 hm9 hgw; have bO := BlockAt.gr (inferInstance : BlockAt _ w.heap.size #[.int .i64 xk, .int .u64 xv, .int .u64 xt, .int .i64 xs, .int .i64 xa, .int .i64 xc, .slice xD xn xq] 43) hgw; have bA := BlockAt.gr (inferInstance : BlockAt _ (w.heap.size + 1) #[.int .i64 0, .int .i64 0, .slice none 0 0] 97) hgw; have cO0 : W9.cell? ⟨w.heap.size, 0, none⟩ = some (.int .i64 xk) := (@block_cells _ _ 0 _ _ bO).trans rfl; have cO1 : W9.cell? ⟨w.heap.size, 1, none⟩ = some (.int .u64 xv) := (@block_cells _ _ 1 _ _ bO).trans rfl; have cO2 : W9.cell? ⟨w.heap.size, 2, none⟩ = some (.int .u64 xt) := (@block_cells _ _ 2 _ _ bO).trans rfl; have cO3 : W9.cell? ⟨w.heap.size, 3, none⟩ = some (.int .i64 xs) := (@block_cells _ _ 3 _ _ bO).trans rfl; have cO4 : W9.cell? ⟨w.heap.size, 4, none⟩ = some (.int .i64 xa) := (@block_cells _ _ 4 _ _ bO).trans rfl; have cO5 : W9.cell? ⟨w.heap.size, 5, none⟩ = some (.int .i64 xc) := (@block_cells _ _ 5 _ _ bO).trans rfl; have cO6 : W9.cell? ⟨w.heap.size, 6, none⟩ = some (.slice xD xn xq) := (@block_cells _ _ 6 _ _ bO).trans rfl; have oO := bO.old; have oA := bA.old; have HbA := Lib.hid bA; clear bO bA)
  | (refine wpList_insertK rfl _ _ _ rfl 5 (.func (.func 95) #[] #[]) Tryz.underlying182 Tryz.underlying40 hm9 hgw hbw rfl rfl rfl ?_; clear cO0 cO1 cO2 cO3 cO4 cO5 cO6 oO oA HbA; clear hm9 hgw; intro W9 hm9 hgw; have bO := BlockAt.gr (inferInstance : BlockAt _ w.heap.size #[.int .i64 xk, .int .u64 xv, .int .u64 xt, .int .i64 xs, .int .i64 xa, .int .i64 xc, .slice xD xn xq] 43) hgw; have bA := BlockAt.gr (inferInstance : BlockAt _ (w.heap.size + 1) #[.int .i64 0, .int .i64 0, .slice none 0 0] 97) hgw; have cO0 : W9.cell? ⟨w.heap.size, 0, none⟩ = some (.int .i64 xk) := (@block_cells _ _ 0 _ _ bO).trans rfl; have cO1 : W9.cell? ⟨w.heap.size, 1, none⟩ = some (.int .u64 xv) := (@block_cells _ _ 1 _ _ bO).trans rfl; have cO2 : W9.cell? ⟨w.heap.size, 2, none⟩ = some (.int .u64 xt) := (@block_cells _ _ 2 _ _ bO).trans rfl; have cO3 : W9.cell? ⟨w.heap.size, 3, none⟩ = some (.int .i64 xs) := (@block_cells _ _ 3 _ _ bO).trans rfl; have cO4 : W9.cell? ⟨w.heap.size, 4, none⟩ = some (.int .i64 xa) := (@block_cells _ _ 4 _ _ bO).trans rfl; have cO5 : W9.cell? ⟨w.heap.size, 5, none⟩ = some (.int .i64 xc) := (@block_cells _ _ 5 _ _ bO).trans rfl; have cO6 : W9.cell? ⟨w.heap.size, 6, none⟩ = some (.slice xD xn xq) := (@block_cells _ _ 6 _ _ bO).trans rfl; have oO := bO.old; have oA := bA.old; have HbA := Lib.hid bA; clear bO bA)
  | (refine wpList_insertK rfl _ _ _ rfl 6 (.func (.func 95) #[] #[]) Tryz.underlying182 Tryz.underlying40 hm9 hgw hbw rfl rfl rfl ?_; clear cO0 cO1 cO2 cO3 cO4 cO5 cO6 oO oA HbA; clear hm9 hgw; intro W9 hm9 hgw; have bO := BlockAt.gr (inferInstance : BlockAt _ w.heap.size #[.int .i64 xk, .int .u64 xv, .int .u64 xt, .int .i64 xs, .int .i64 xa, .int .i64 xc, .slice xD xn xq] 43) hgw; have bA := BlockAt.gr (inferInstance : BlockAt _ (w.heap.size + 1) #[.int .i64 0, .int .i64 0, .slice none 0 0] 97) hgw; have cO0 : W9.cell? ⟨w.heap.size, 0, none⟩ = some (.int .i64 xk) := (@block_cells _ _ 0 _ _ bO).trans rfl; have cO1 : W9.cell? ⟨w.heap.size, 1, none⟩ = some (.int .u64 xv) := (@block_cells _ _ 1 _ _ bO).trans rfl; have cO2 : W9.cell? ⟨w.heap.size, 2, none⟩ = some (.int .u64 xt) := (@block_cells _ _ 2 _ _ bO).trans rfl; have cO3 : W9.cell? ⟨w.heap.size, 3, none⟩ = some (.int .i64 xs) := (@block_cells _ _ 3 _ _ bO).trans rfl; have cO4 : W9.cell? ⟨w.heap.size, 4, none⟩ = some (.int .i64 xa) := (@block_cells _ _ 4 _ _ bO).trans rfl; have cO5 : W9.cell? ⟨w.heap.size, 5, none⟩ = some (.int .i64 xc) := (@block_cells _ _ 5 _ _ bO).trans rfl; have cO6 : W9.cell? ⟨w.heap.size, 6, none⟩ = some (.slice xD xn xq) := (@block_cells _ _ 6 _ _ bO).trans rfl; have oO := bO.old; have oA := bA.old; have HbA := Lib.hid bA; clear bO bA)
  | (refine wpList_insertK rfl _ _ _ rfl 7 (.func (.func 96) #[] #[]) Tryz.underlying182 Tryz.underlying40 hm9 hgw hbw rfl rfl rfl ?_; clear cO0 cO1 cO2 cO3 cO4 cO5 cO6 oO oA HbA; clear hm9 hgw; intro W9 hm9 hgw; have bO := BlockAt.gr (inferInstance : BlockAt _ w.heap.size #[.int .i64 xk, .int .u64 xv, .int .u64 xt, .int .i64 xs, .int .i64 xa, .int .i64 xc, .slice xD xn xq] 43) hgw; have bA := BlockAt.gr (inferInstance : BlockAt _ (w.heap.size + 1) #[.int .i64 0, .int .i64 0, .slice none 0 0] 97) hgw; have cO0 : W9.cell? ⟨w.heap.size, 0, none⟩ = some (.int .i64 xk) := (@block_cells _ _ 0 _ _ bO).trans rfl; have cO1 : W9.cell? ⟨w.heap.size, 1, none⟩ = some (.int .u64 xv) := (@block_cells _ _ 1 _ _ bO).trans rfl; have cO2 : W9.cell? ⟨w.heap.size, 2, none⟩ = some (.int .u64 xt) := (@block_cells _ _ 2 _ _ bO).trans rfl; have cO3 : W9.cell? ⟨w.heap.size, 3, none⟩ = some (.int .i64 xs) := (@block_cells _ _ 3 _ _ bO).trans rfl; have cO4 : W9.cell? ⟨w.heap.size, 4, none⟩ = some (.int .i64 xa) := (@block_cells _ _ 4 _ _ bO).trans rfl; have cO5 : W9.cell? ⟨w.heap.size, 5, none⟩ = some (.int .i64 xc) := (@block_cells _ _ 5 _ _ bO).trans rfl; have cO6 : W9.cell? ⟨w.heap.size, 6, none⟩ = some (.slice xD xn xq) := (@block_cells _ _ 6 _ _ bO).trans rfl; have oO := bO.old; have oA := bA.old; have HbA := Lib.hid bA; clear bO bA)
  | (refine wpList_insertK rfl _ _ _ rfl 9 (.func (.func 97) #[] #[]) Tryz.underlying182 Tryz.underlying40 hm9 hgw hbw rfl rfl rfl ?_; clear cO0 cO1 cO2 cO3 cO4 cO5 cO6 oO oA HbA; clear hm9 hgw; intro W9 hm9 hgw; have bO := BlockAt.gr (inferInstance : BlockAt _ w.heap.size #[.int .i64 xk, .int .u64 xv, .int .u64 xt, .int .i64 xs, .int .i64 xa, .int .i64 xc, .slice xD xn xq] 43) hgw; have bA := BlockAt.gr (inferInstance : BlockAt _ (w.heap.size + 1) #[.int .i64 0, .int .i64 0, .slice none 0 0] 97) hgw; have cO0 : W9.cell? ⟨w.heap.size, 0, none⟩ = some (.int .i64 xk) := (@block_cells _ _ 0 _ _ bO).trans rfl; have cO1 : W9.cell? ⟨w.heap.size, 1, none⟩ = some (.int .u64 xv) := (@block_cells _ _ 1 _ _ bO).trans rfl; have cO2 : W9.cell? ⟨w.heap.size, 2, none⟩ = some (.int .u64 xt) := (@block_cells _ _ 2 _ _ bO).trans rfl; have cO3 : W9.cell? ⟨w.heap.size, 3, none⟩ = some (.int .i64 xs) := (@block_cells _ _ 3 _ _ bO).trans rfl; have cO4 : W9.cell? ⟨w.heap.size, 4, none⟩ = some (.int .i64 xa) := (@block_cells _ _ 4 _ _ bO).trans rfl; have cO5 : W9.cell? ⟨w.heap.size, 5, none⟩ = some (.int .i64 xc) := (@block_cells _ _ 5 _ _ bO).trans rfl; have cO6 : W9.cell? ⟨w.heap.size, 6, none⟩ = some (.slice xD xn xq) := (@block_cells _ _ 6 _ _ bO).trans rfl; have oO := bO.old; have oA := bA.old; have HbA := Lib.hid bA; clear bO bA)
  | (at_lookup; go_loud (refine wpList_lookupK (q := .i64) (b := b9) rfl _ _ rfl xk Tryz.underlying182 Tryz.underlying40 (Tryz.zeroValue181 _) hm9 rfl rfl ?_); go_loud (rw [hf]; have HGW := Lib.hid hgw; clear hgw hbw hm9; have cA0 : W9.cell? ⟨w.heap.size + 1, 0, none⟩ = some (.int .i64 0) := (@block_cells _ _ 0 _ _ HbA.out).trans rfl; have cA1 : W9.cell? ⟨w.heap.size + 1, 1, none⟩ = some (.int .i64 0) := (@block_cells _ _ 1 _ _ HbA.out).trans rfl; have cA2 : W9.cell? ⟨w.heap.size + 1, 2, none⟩ = some (.slice none 0 0) := (@block_cells _ _ 2 _ _ HbA.out).trans rfl; have fA : ∀ o, W9.frozen? ⟨w.heap.size + 1, o, none⟩ = false := fun o => @block_frozen _ _ o _ _ HbA.out)))
 have gW : Gr w W9 := Gr.trans gri HGW.out
 obtain ⟨M3, mb3, hd3⟩ := HH.out
 have bA3 := HbA.out
 exact bodyPost_ret (run_resCell1 rfl _ _ _ _ rfl (ans_block bA3 _ _ _) Tryz.underlying97 rfl (by kernel_rfl)) rfl ⟨none, 0, 0, rfl, OwnN.nil _ _, ans_dev (hd3.gr gW) bA3 (by decide) _ _ _, ans_below (gW.below.mono hbase) (by omega) _ _ _, ck_ans (CK.gr gW) (by omega) _ _ _⟩
structure StG (W : World) where
 e : World → Prop
 c : Bool
 out : c = true → ∀ w, e w → Gr W w
 grow : c = true → ∀ w w', e w → Gr w w' → e w'
section
variable {P : Program} {ops : Array Oper} {md : Region.Mode} {W : World}
def efG (P : Program) (ops : Array Oper) (W : World) (n i : Nat) (K : StG W → Act → Prop) (s : StG W) (a : Act) : Prop :=
 ∃ o, ops[i]? = some o ∧ Region.wanted o (yielded ops a.tmps) = true ∧ ∀ w, s.e w → EffAt P o a w (fun v w' => ∃ s' : StG W, s'.e w' ∧ (i ≠ n → s.c = true → s'.c = true) ∧ K s' (a.put o.dst v))
def feOpG (P : Program) (ops : Array Oper) (W : World) (n i : Nat) (K : StG W → Act → Prop) (s : StG W) (a : Act) : Prop := (s.c = true ∧ clOp P ops W i K s a) ∨ efG P ops W n i K s a
def feG (P : Program) (md : Region.Mode) (ops : Array Oper) (W : World) (n : Nat) (L : StG W → Act → Prop) : Nat → Array Bool → StG W → Act → Prop
 | 0, listed, s, a => Region.ready md ops listed = [] ∧ L s a
 | f + 1, listed, s, a => (Region.ready md ops listed = [] → L s a) ∧ ∀ i ∈ Region.ready md ops listed, feOpG P ops W n i (feG P md ops W n L f (listed.setIfInBounds i true)) s a
theorem feG_any {n : Nat} {L : StG W → Act → Prop} {Q' : Exit → Act → World → Prop} (hL : ∀ (s : StG W) a w, s.e w → L s a → Q' .normal a w) :
  ∀ (f : Nat) (listed : Array Bool) (s : StG W) (a : Act) (w : World), s.e w → feG P md ops W n L f listed s a → wpAny P md ops Q' f listed a w
 | 0, listed, s, a, w, hw, h => ⟨h.1, hL _ _ _ hw h.2⟩
 | f + 1, listed, s, a, w, hw, h => by
  refine ⟨fun h0 => hL _ _ _ hw (h.1 h0), fun i hi => ?_⟩
  unfold wpOp
  rcases h.2 i hi with ⟨hsc, o, ho, v, hv, hk⟩ | ⟨o, ho, hg, hs⟩
  ·simp only [ho]
   rcases hv with ⟨hw1, hc⟩ | ⟨hw1, rfl⟩
   ·simp only [hw1, if_true]
    refine .inl ?_
    obtain ⟨gw, rfl⟩ := s.out hsc _ hw
    have h3 := hc gw
    unfold calmAt at h3
    unfold Oper.wp
    generalize (execOp a.eval o).run P (grown W gw) = r at *
    cases r with
    | ok nx w' =>
     cases nx <;> simp only [calmUpon] at h3 <;> simp only [Oper.upon]
     case value u => obtain ⟨e1, e2⟩ := h3; rw [e1, e2]; exact feG_any hL f _ _ _ _ hw hk
     case skip => obtain ⟨e1, e2⟩ := h3; rw [e1, ← e2]; exact feG_any hL f _ _ _ _ hw hk
     case enter f' args =>
      obtain ⟨e1, hc'⟩ := h3
      rw [e1]
      exact hc'.mono fun e w'' ⟨he, hw''⟩ => by subst he; exact feG_any hL f _ _ _ _ (s.grow hsc _ _ hw hw'') hk
    | halt x w' => simp only [calmUpon] at h3
   ·simp only [hw1, Bool.false_eq_true, if_false]; exact feG_any hL f _ _ _ _ hw hk
  ·simp only [ho, hg, if_true]
   refine .inl ?_
   have h3 := hs w hw
   unfold EffAt at h3
   unfold Oper.wp
   generalize (execOp a.eval o).run P w = r at *
   cases r with
   | ok nx w' =>
    cases nx <;> simp only [effUpon] at h3 <;> simp only [Oper.upon]
    case value u => obtain ⟨s', hi', _, hk⟩ := h3; exact feG_any hL f _ _ _ _ hi' hk
    case skip => obtain ⟨s', hi', _, hk⟩ := h3; exact feG_any hL f _ _ _ _ hi' hk
    case enter f' args => exact h3.mono fun e w'' ⟨v, he, s', hi', _, hk⟩ => by subst he; exact feG_any hL f _ _ _ _ hi' hk
   | halt x w' => simp only [effUpon] at h3
theorem feOpG_put {n j : Nat} {oi oj : Oper} {v : Value} (hj : ops[j]? = some oj) (hjn : j ≠ n) (hap : oi.apart ops oj = true)
  (hsi : ∀ cs b, oi.op ≠ .select cs b) (hsj : ∀ cs b, oj.op ≠ .select cs b) {K : StG W → Act → Prop} {s : StG W} {a : Act} (hsc : s.c = true)
  (hy : CalmOp P ops W oi v a) (h : feOpG P ops W n j K s (a.put oi.dst v)) :
  feOpG P ops W n j (fun s' a' => s'.c = true ∧ CalmOp P ops W oi v a' ∧ K s' (a'.put oi.dst v)) s a := by
 obtain ⟨p1, p2, p3⟩ := Oper.apart_spec hap
 rcases h with ⟨_, o, ho, u, hu, hk⟩ | ⟨o, ho, hg, hs⟩
 ·obtain rfl : o = oj := Option.some.inj (ho.symm.trans hj)
  exact .inl ⟨hsc, o, hj, u, hu.unput hsj p1, hsc, hy.put hsi p3, by rw [← Act.put_comm a v u p2]; exact hk⟩
 ·obtain rfl : o = oj := Option.some.inj (ho.symm.trans hj)
  refine .inr ⟨o, hj, by rw [wanted_put o a oi.dst v p1] at hg; exact hg, fun w hw => ?_⟩
  have h3 := hs w hw
  unfold EffAt at *
  rw [execOp_put o hsj a oi.dst v p1] at h3
  exact effUpon_mono (fun u w' ⟨s', h1, h4, h2⟩ => ⟨s', h1, h4, h4 hjn hsc, hy.put hsi p3, by rw [← Act.put_comm a v u p2]; exact h2⟩) _ h3
theorem feOpG_mono {n i : Nat} {K K' : StG W → Act → Prop} {s : StG W} {a : Act} (h : ∀ s a, K s a → K' s a) (hh : feOpG P ops W n i K s a) : feOpG P ops W n i K' s a :=
 hh.imp (fun ⟨hc, o, ho, v, hv, hk⟩ => ⟨hc, o, ho, v, hv, h _ _ hk⟩) (fun ⟨o, ho, hg, hs⟩ => ⟨o, ho, hg, fun w hw => effUpon_mono (fun v w' ⟨s', h1, h4, h2⟩ => ⟨s', h1, h4, h _ _ h2⟩) _ (hs w hw)⟩)
def waitsB (md : Region.Mode) (ops : Array Oper) (n i : Nat) : Bool := match ops[n]? with
 | some o => o.after.any fun e => Region.binds md e && e.on == i
 | none => false
theorem feG_first {n i : Nat} {oi : Oper} {v : Value} {L : StG W → Act → Prop} (hi : ops[i]? = some oi) (hsel : ∀ (j : Nat) (o : Oper) cs b, ops[j]? = some o → o.op ≠ .select cs b) (hw : waitsB md ops n i = true) :
  ∀ (f : Nat) (listed : Array Bool) (s : StG W) (a : Act), s.c = true →
   (∀ j oj, ops[j]? = some oj → j ≠ i → listed.getD j true = false → (∀ e ∈ oj.after, Region.binds md e = true → e.on ≠ i) → oi.apart ops oj = true) →
   i ∈ Region.ready md ops listed → CalmOp P ops W oi v a →
   feG P md ops W n L f (listed.setIfInBounds i true) s (a.put oi.dst v) → feG P md ops W n L (f + 1) listed s a := by
 intro f
 induction f with
 | zero =>
  intro listed s a hsc _ hr hy H
  refine ⟨(fun h => by rw [h] at hr; cases hr), fun j hj => ?_⟩
  by_cases hji : j = i
  ·subst hji; exact .inl ⟨hsc, oi, hi, v, hy, H⟩
  ·have := ready_mono hj hji
   rw [H.1] at this
   cases this
 | succ f ih =>
  intro listed s a hsc hfree hr hy H
  have hun := (mem_ready.1 hr).1
  refine ⟨(fun h => by rw [h] at hr; cases hr), fun j hj => ?_⟩
  by_cases hji : j = i
  ·subst hji; exact .inl ⟨hsc, oi, hi, v, hy, H⟩
  have h1 := H.2 j (ready_mono hj hji)
  obtain ⟨hjun, oj, hoj, hall⟩ := mem_ready.1 hj
  have hnot : ∀ e ∈ oj.after, Region.binds md e = true → e.on ≠ i := fun e he hb heq => by
   have h1 := hall e he hb
   rw [heq, getD_both hun] at h1
   cases h1
  have hjn : j ≠ n := by
   rintro rfl
   unfold waitsB at hw
   rw [hoj] at hw
   obtain ⟨e, he, hb⟩ := Array.any_eq_true'.1 hw
   simp only [Bool.and_eq_true, beq_iff_eq] at hb
   exact hnot e he hb.1 hb.2
  have h2 := feOpG_put hoj hjn (hfree j oj hoj hji hjun hnot) (fun cs b => hsel i oi cs b hi) (fun cs b => hsel j oj cs b hoj) hsc hy h1
  have hfree' : ∀ k ok, ops[k]? = some ok → k ≠ i → (listed.setIfInBounds j true).getD k true = false →
    (∀ e ∈ ok.after, Region.binds md e = true → e.on ≠ i) → oi.apart ops ok = true := fun k ok hk hki hu hno => by
   refine hfree k ok hk hki ?_ hno
   by_cases hjk : j = k
   ·subst hjk; exact hjun
   ·rw [getD_set_ne true hjk] at hu; exact hu
  refine feOpG_mono (fun s' a' h3 => ih (listed.setIfInBounds j true) s' a' h3.1 hfree' (ready_mono hr (Ne.symm hji)) h3.2.1 ?_) h2
  rw [Array.setIfInBounds_comm _ _ hji]
  exact h3.2.2
end
section
variable {P : Program} {md : Region.Mode} {W : World} {l : List Oper} {L : StG W → Act → Prop}
theorem feG_lex {n : Nat} (hsel : Region.noSelect l.toArray = true) (m : Nat) :
  ∀ (qs : List Nat) (listed : Array Bool) (s : StG W) (a : Act), s.c = true → qs.all (waitsB md l.toArray n) = true → freeAll md l.toArray qs listed = true → wpCalm P l.toArray W (fun a' => feG P md l.toArray W n L m (listAll qs listed) s a') (pick l qs) a →
   feG P md l.toArray W n L (qs.length + m) listed s a
 | [], listed, s, a, _, _, hB, h => by
  rw [List.length_nil, Nat.zero_add]
  exact h
 | k :: r, listed, s, a, hsc, hq, hB, h => by
  simp only [freeAll, Bool.and_eq_true] at hB
  obtain ⟨⟨hr, hf⟩, hB'⟩ := hB
  simp only [List.all_cons, Bool.and_eq_true] at hq
  have hr' : k ∈ Region.ready md l.toArray listed := by simpa using hr
  obtain ⟨_, o, ho, _⟩ := mem_ready.1 hr'
  have ho' : l[k]? = some o := by simpa using ho
  rw [pick_cons ho'] at h
  rw [show (k :: r).length + m = (r.length + m) + 1 by simp; omega]
  unfold wpCalm at h
  by_cases hw : Region.wanted o (yielded l.toArray a.tmps) = true
  ·simp only [hw, if_true] at h
   obtain ⟨v, hv, hk⟩ := h
   exact feG_first ho (Region.noSelect_spec hsel) hq.1 _ listed s a hsc (Region.free_spec ho hf) hr' (.inl ⟨hw, hv⟩) (feG_lex hsel m r _ _ _ hsc hq.2 hB' hk)
  ·simp only [hw] at h
   exact feG_first ho (Region.noSelect_spec hsel) hq.1 _ listed s a hsc (Region.free_spec ho hf) hr' (.inr ⟨by simpa using hw, rfl⟩) (feG_lex hsel m r _ _ _ hsc hq.2 hB' h)
def treeGB (md : Region.Mode) (ops : Array Oper) (qs : List Nat) (m n : Nat) : Bool :=
 Region.noSelect ops && decide (qs.length + m = ops.size) && qs.all (waitsB md ops n) && freeAll md ops qs (Array.replicate ops.size false)
theorem wp_region_treeG {id : Nat} {Q : Exit → Act → World → Prop} {a : Act} {w : World} (s : StG W) (hsc : s.c = true) (hw : s.e w.drew) (qs : List Nat) (m n : Nat) (hm : P.follows .mixedOrders = true) (hB : treeGB .any l.toArray qs m n = true)
  (h : wpCalm P l.toArray W (fun a' => feG P .any l.toArray W n (fun s a3 => ∀ w', s.e w' → Q .normal a3 w') m (listAll qs (Array.replicate l.toArray.size false)) s a') (pick l qs) a) : (Code.region id l.toArray true).wp P Q a w := by
 simp only [treeGB, Bool.and_eq_true, decide_eq_true_eq] at hB
 obtain ⟨⟨⟨hsel, hlen⟩, hq⟩, hfree⟩ := hB
 have H := feG_lex (md := .any) (P := P) (W := W) hsel m qs _ s a hsc hq hfree h
 refine wp_region_any hm ?_
 have := feG_any (Q' := Q) (fun s a' w' hw' (hL : ∀ w', s.e w' → Q .normal a' w') => hL w' hw') _ _ _ _ _ hw H
 rw [hlen] at this
 exact this
section
variable {ops : Array Oper} {f n : Nat} {listed : Array Bool} {s : StG W} {a : Act}
theorem fg_eff {K : StG W → Act → Prop} {i : Nat} {o : Oper} (ho : ops[i]? = some o) (hg : o.guard = none) (h : ∀ w, s.e w → EffAt P o a w (fun v w' => ∃ s' : StG W, s'.e w' ∧ (i ≠ n → s.c = true → s'.c = true) ∧ K s' (a.put o.dst v))) : feOpG P ops W n i K s a :=
 .inr ⟨o, ho, by simp [Region.wanted, hg], h⟩
theorem fg_effD {K : StG W → Act → Prop} {i : Nat} {o : Oper} {d : Tmp} (ho : ops[i]? = some o) (hg : o.guard = none) (hd : o.dst = some d) (h : ∀ w, s.e w → EffAt P o a w (fun v w' => ∃ s' : StG W, s'.e w' ∧ (i ≠ n → s.c = true → s'.c = true) ∧ K s' (a.put (some d) v))) : feOpG P ops W n i K s a :=
 fg_eff ho hg fun w hw => by rw [hd]; exact h w hw
theorem fg_effN {K : StG W → Act → Prop} {i : Nat} {o : Oper} (ho : ops[i]? = some o) (hg : o.guard = none) (hd : o.dst = none) (h : ∀ w, s.e w → EffAt P o a w (fun v w' => ∃ s' : StG W, s'.e w' ∧ (i ≠ n → s.c = true → s'.c = true) ∧ K s' a)) : feOpG P ops W n i K s a :=
 fg_eff ho hg fun w hw => by rw [hd]; exact h w hw
theorem effAt_updK {o : Oper} {w W' : World} {K : Value → World → Prop} {t : TypeId} {m k v : Operand} {m' k' v' : Value} (ho : o.op = .mapUpdate t m k v) (hm : a.eval m = m') (hk : a.eval k = k') (hv : a.eval v = v') (hr : (Instr.mapUpdate t m' k' v').run P w = .ok () W') (h : K undef W') : EffAt P o a w K := by
 unfold EffAt
 simp [execOp, ho, hm, hk, hv, hr, Result.andThen, effUpon]
 exact h
theorem fg_one (i : Nat) (hr : Region.ready md ops listed = [i]) (h : feOpG P ops W n i (feG P md ops W n L f (listed.setIfInBounds i true)) s a) : feG P md ops W n L (f + 1) listed s a :=
 ⟨fun h0 => by (rw [hr] at h0; cases h0), fun k hk => by (rw [hr] at hk; obtain rfl : k = i := by simpa using hk); exact h⟩
theorem fg_two (i j : Nat) (hr : Region.ready md ops listed = [i, j]) (hi : feOpG P ops W n i (feG P md ops W n L f (listed.setIfInBounds i true)) s a) (hj : feOpG P ops W n j (feG P md ops W n L f (listed.setIfInBounds j true)) s a) : feG P md ops W n L (f + 1) listed s a :=
 ⟨fun h0 => by (rw [hr] at h0; cases h0), fun k hk => by
  rw [hr] at hk
  rcases List.mem_cons.1 hk with rfl | hk
  ·exact hi
  ·obtain rfl : k = j := by simpa using hk
   exact hj⟩
theorem fg_end (hr : Region.ready md ops listed = []) (h : L s a) : feG P md ops W n L 0 listed s a := ⟨hr, h⟩
theorem fg_pure {K : StG W → Act → Prop} {i : Nat} {o : Oper} {d : Tmp} (v : Value) (ho : ops[i]? = some o) (hg : o.guard = none) (hd : o.dst = some d) (hv : ∀ w, (execOp a.eval o).run P w = .ok (.value v) w) (h : K s (a.put (some d) v)) : feOpG P ops W n i K s a :=
 fg_effD ho hg hd fun w hw => by
  unfold EffAt
  rw [hv w]
  exact ⟨s, hw, fun _ hc => hc, h⟩
end
end
set_option maxRecDepth 100000
def fullC (most : Int) (n : Nat) : Int := if most < n then 8 else 0
def fullD (most : Int) (n : Nat) : Int := if most < n then max most 0 else 0
set_option maxHeartbeats 8000000 in
theorem put_5 (xv xt xs xa xc most : Int) (xD : Option Addr) (xn xq : Nat) (hn : xn ≤ 1000000) (base D : Nat) (d : Dev) (w : World) (h : DevAt base w D d) (hbase : base ≤ w.heap.size) (x : VolM) (hv : getK d xv = some x) (a0 : 0 ≤ xa) (a1 : xa ≤ 1048576) (hq : xn ≤ xq) (lx : Byt) (hxn : lx.length = xn) (hr : Row bv w xD lx) (n0 : 64 ≤ xn) (n1 : xn % 64 = 0) (n2 : xn ≤ 2048) (hfit : ¬ 4 * x.1 < xa + (xn : Int) / 64) :
  Calls Tryz.prog 95 #[.pointer (some ⟨D, 0, none⟩), .agg #[.int .i64 5, .int .u64 xv, .int .u64 xt, .int .i64 xs, .int .i64 xa, .int .i64 xc, .slice xD xn xq], .int .i64 most] w (OpPost base D (putK d xv (x.1, putL xa.toNat lx x.2 ((spans xa.toNat (xn / 64)).take most.toNat))) (fullC most (spans xa.toNat (xn / 64)).length) (fullD most (spans xa.toNat (xn / 64)).length) w) := by
 obtain ⟨M, mb, h⟩ := h
 haveI := h.blk
 have x0 : w.cell? ⟨D, 0, none⟩ = some (.map (some M)) := (@block_cells _ _ 0 _ _ h.blk).trans rfl
 haveI : Old D w := h.blk.old
 have HD := Lib.hid h
 have hlk := look_vol1 h xv _ hv
 simp only [volV] at hlk
 have hx := h.ok.vols _ ((getK_mem h.ok.sort).1 hv)
 have hx0 := hx.s0
 have hx1 := hx.s1
 simp only at hx0 hx1
 have HX := Lib.hid hx
 have HV := Lib.hid hv
 clear h hv hx
 obtain ⟨an, rfl⟩ : ∃ n : Nat, xa = n := ⟨xa.toNat, by omega⟩
 rw [Int.toNat_natCast]
 obtain ⟨C, hC⟩ : ∃ C, xn / 64 = C := ⟨_, rfl⟩
 rw [hC]
 have hCx : (xn : Int) / 64 = (C : Int) := by omega
 rw [hCx] at hfit
 have HSp : Hid (∀ W, Calls Tryz.prog 119 #[.int .i64 (an : Int), .int .i64 ((xn : Int) / 64)] W fun e w' => ∃ v, e = .returned v ∧ OwnN spE W.heap.size w' v (spans an C) ∧ Gr W w') := Lib.hid (fun W => by rw [hCx]; exact split_any an C (by omega) (by omega) (by omega) W)
 obtain ⟨B, p, rfl, hBl, hcell⟩ := hr.at_ (by rintro rfl; simp at hxn; omega)
 have HC2 := Lib.hid hcell
 haveI : Old B w := ⟨hBl⟩
 have hCn : C * 64 = xn := by omega
 have hC1 : 1 ≤ C := by omega
 have hC2 : C ≤ 1024 := by omega
 clear hcell hr hCx hC
 obtain ⟨L, hL⟩ : ∃ L, spans an C = L := ⟨_, rfl⟩
 have hLa : ∀ s ∈ L, s.f < s.t ∧ s.t ≤ 4 ∧ an ≤ 4 * s.b + s.f ∧ 4 * s.b + s.t ≤ an + C := by rw [← hL]; exact spans_all
 have hLn : L.length ≤ C := by rw [← hL]; exact spans_len an C
 have hLne : L ≠ [] := by rw [← hL, spans_cons an C (by omega)]; simp
 rw [hL] at HSp ⊢
 have HLA := Lib.hid hLa
 clear hL hLa
 go_enter Tryz.func95, Tryz.ntmps95
 go_wp2
 refine wp_region_all [0, 1, 2, 3, 4, 5, 6, 7, 8, 9] [10, 11] [12, 13] (by kernel_rfl) (by kernel_rfl) ?_
 simp only [pick, List.drop, List.take, List.nil_append, List.cons_append]
 repeat (refine wpCalm_step (fun K hK => ?_); go_simp; first | (refine hK _ ?_; clear hK K) | (apply Exists.intro; refine ⟨fun _ => ?_, hK _ ?_⟩; ((go_at_call 116; exact part_5 _ _ _ _ _ _ _ _ (by omega) _)); clear hK K))
 refine wpCalm_nil ?_
 refine ⟨_, _, _, allocOp_alloc rfl rfl Tryz.zeroValue115, fun b1_0 hb1_0 nb1_0 => ?_⟩
 refine ⟨_, _, _, allocOp_alloc rfl rfl Tryz.zeroValue210, fun b1_1 hb1_1 nb1_1 => ?_⟩
 have db1_1_0 : b1_0 ≠ b1_1 := nb1_1 (b1_0, _, _) List.mem_cons_self
 simp only [Act.put, List.setIfInBounds_toArray, List.set]
 refine ⟨_, _, _, b1_0, #[.int .i64 0, .map none], _, #[.int .i64 x.1, .map (some (mb xv))], rfl, rfl, rfl, (List.mem_cons_of_mem _ List.mem_cons_self), ?hu, hb1_0, rfl, rfl, rfl, rfl, [(b1_0, #[.int .i64 x.1, .map (some (mb xv))], 115), (b1_1, #[.int .i64 0, .int .i64 0], 210)], ?hs, ?_⟩
 case hu =>
  intro z hz e
  rcases List.mem_cons.1 hz with rfl | hz
  ·exact absurd e db1_1_0.symm
  rcases List.mem_cons.1 hz with rfl | hz
  ·rfl
  cases hz
 case hs =>
  intro z
  constructor
  ·intro hz
   rcases List.mem_cons.1 hz with rfl | hz
   ·exact .inl rfl
   rcases List.mem_cons.1 hz with rfl | hz
   ·exact .inr ⟨List.mem_cons_self, db1_1_0.symm⟩
   cases hz
  ·rintro (rfl | ⟨hz, hne⟩)
   ·exact List.mem_cons_self
   rcases List.mem_cons.1 hz with rfl | hz
   ·exact (List.mem_cons_of_mem _ List.mem_cons_self)
   rcases List.mem_cons.1 hz with rfl | hz
   ·exact absurd rfl hne
   cases hz
 refine ⟨_, _, _, b1_1, #[.int .i64 0, .int .i64 0], _, #[.int .i64 (an : Int), .int .i64 ((xn : Int) / 64)], rfl, rfl, rfl, (List.mem_cons_of_mem _ List.mem_cons_self), ?hu, hb1_1, rfl, rfl, rfl, rfl, [(b1_1, #[.int .i64 (an : Int), .int .i64 ((xn : Int) / 64)], 210), (b1_0, #[.int .i64 x.1, .map (some (mb xv))], 115)], ?hs, ?_⟩
 case hu =>
  intro z hz e
  rcases List.mem_cons.1 hz with rfl | hz
  ·exact absurd e db1_1_0
  rcases List.mem_cons.1 hz with rfl | hz
  ·rfl
  cases hz
 case hs =>
  intro z
  constructor
  ·intro hz
   rcases List.mem_cons.1 hz with rfl | hz
   ·exact .inl rfl
   rcases List.mem_cons.1 hz with rfl | hz
   ·exact .inr ⟨List.mem_cons_self, db1_1_0⟩
   cases hz
  ·rintro (rfl | ⟨hz, hne⟩)
   ·exact List.mem_cons_self
   rcases List.mem_cons.1 hz with rfl | hz
   ·exact (List.mem_cons_of_mem _ List.mem_cons_self)
   rcases List.mem_cons.1 hz with rfl | hz
   ·exact absurd rfl hne
   cases hz
 intro w1 hw1
 have cb1_1 : ∀ o, w1.cell? ⟨b1_1, o, none⟩ = (#[.int .i64 (an : Int), .int .i64 ((xn : Int) / 64)] : Array Value)[o]? := mix_cell hw1 List.mem_cons_self
 haveI kb1_1 : BlockAt w1 b1_1 #[.int .i64 (an : Int), .int .i64 ((xn : Int) / 64)] 210 := ⟨hw1.2 _ List.mem_cons_self⟩
 have fb1_1 : ∀ o, w1.frozen? ⟨b1_1, o, none⟩ = false := mix_frozen hw1 List.mem_cons_self
 have ob1_1 : Old b1_1 w1 := mix_old hw1 List.mem_cons_self
 have cb1_0 : ∀ o, w1.cell? ⟨b1_0, o, none⟩ = (#[.int .i64 x.1, .map (some (mb xv))] : Array Value)[o]? := mix_cell hw1 (List.mem_cons_of_mem _ List.mem_cons_self)
 haveI kb1_0 : BlockAt w1 b1_0 #[.int .i64 x.1, .map (some (mb xv))] 115 := ⟨hw1.2 _ (List.mem_cons_of_mem _ List.mem_cons_self)⟩
 have fb1_0 : ∀ o, w1.frozen? ⟨b1_0, o, none⟩ = false := mix_frozen hw1 (List.mem_cons_of_mem _ List.mem_cons_self)
 have ob1_0 : Old b1_0 w1 := mix_old hw1 (List.mem_cons_of_mem _ List.mem_cons_self)
 have qb1_0 := @fresh_ne _ _ hb1_0
 have rb1_0 := @fresh_en _ _ hb1_0
 have lb1_0 := fresh_le hb1_0 w.heap.size
 have qb1_1 := @fresh_ne _ _ hb1_1
 have rb1_1 := @fresh_en _ _ hb1_1
 have lb1_1 := fresh_le hb1_1 w.heap.size
 have eb1_1_0 : ¬ b1_1 = b1_0 := fun e => db1_1_0 e.symm
 obtain ⟨⟨g1, rfl⟩, hbs⟩ := hw1
 clear hbs nb1_0 nb1_1
 have hMl : M < w.heap.size := HD.out.all.lt
 go_wp2_with ((go_at_call 119; ((with_reducible refine (HSp.out _).mono ?_))))
 rintro _ W1 ⟨vS, rfl, hoS, hgS⟩
 have hgW : Gr w W1 := Gr.trans gri hgS
 have KA := Lib.hid (BlockAt.gr (inferInstance : BlockAt _ (w.heap.size + 1) _ _) hgS)
 have K0 := Lib.hid (BlockAt.gr (inferInstance : BlockAt _ b1_0 _ _) hgS)
 have K1 := Lib.hid (BlockAt.gr (inferInstance : BlockAt _ b1_1 _ _) hgS)
 obtain ⟨gS, cS, rfl, hbS, hgl, _, _, hclS, _⟩ := hoS.cells spIs hLne
 have hBl1 : B < W1.heap.size := Nat.lt_of_lt_of_le hBl hgW.below.size
 have HDT : Hid (∀ (j : Nat) u, lx[j]? = some u → W1.cell? ⟨B, p + j, none⟩ = some (bv u)) := Lib.hid (fun j u hj => (hgW.below.cell (p := ⟨B, p + j, none⟩) hBl).trans (HC2.out j u hj))
 have G1 := Lib.hid hgW
 have HCL := Lib.hid hclS
 have HML := Lib.hid hMl
 clear hoS hgS hclS hgW hMl
 clear ob1_0 ob1_1 cb1_0 cb1_1 fb1_0 fb1_1 kb1_0 kb1_1
 go_wp2
 go_loopw [37] (fun i wr => ∃ k : Nat, k ≤ L.length ∧ i = .int .i64 k ∧ CK W1 wr ∧ DevIn base wr D M mb (putK d xv (x.1, putL an lx x.2 (L.take k))) ∧ Below base w wr ∧ (k = 0 ∨ (k : Int) ≤ most)) (fun i _ => L.length - intOf i |>.toNat)
 case atStart => exact ⟨0, Nat.zero_le _, rfl, CK.refl _, by rw [List.take_zero]; show DevIn base W1 D M mb (putK d xv (x.1, x.2)); rw [putK_own HD.out.ok.sort (x := (x.1, x.2)) HV.out]; exact HD.out.gr G1.out, G1.out.below.mono hbase, .inl rfl⟩
 case round =>
  obtain ⟨k, hk, rfl, hck, hd, hb, hkm⟩ := hrel
  haveI kA := hck.block KA.out
  haveI k0 := hck.block K0.out
  haveI k1 := hck.block K1.out
  have y01 : wr.cell? ⟨b1_0, 1, none⟩ = some (.map (some (mb xv))) := (@block_cells _ _ 1 _ _ k0).trans rfl
  have y10 : wr.cell? ⟨b1_1, 0, none⟩ = some (.int .i64 (an : Int)) := (@block_cells _ _ 0 _ _ k1).trans rfl
  have HCK := Lib.hid hck
  have HDk := Lib.hid hd
  have HB := Lib.hid hb
  have HKM := Lib.hid hkm
  clear hck hd hb hkm
  by_cases hlt : k < L.length
  ·obtain ⟨s, hs⟩ : ∃ s, L[k]? = some s := ⟨_, List.getElem?_eq_getElem hlt⟩
   have hsa := HLA.out s (List.mem_of_getElem? hs)
   obtain ⟨sb, sf, st⟩ := s
   simp only at hsa
   have s0 : wr.cell? ⟨gS, k * 3, none⟩ = some (.int .i64 (sb : Int)) := HCK.out.cell (by have := HCL.out k _ hs 0 _ rfl; rwa [Nat.zero_add] at this)
   have s1 : wr.cell? ⟨gS, k * 3 + 1, none⟩ = some (.int .i64 (sf : Int)) := HCK.out.cell (by have := HCL.out k _ hs 1 _ rfl; rwa [Nat.zero_add] at this)
   have s2 : wr.cell? ⟨gS, k * 3 + 2, none⟩ = some (.int .i64 (st : Int)) := HCK.out.cell (by have := HCL.out k _ hs 2 _ rfl; rwa [Nat.zero_add] at this)
   haveI : Old gS wr := ⟨Nat.lt_of_lt_of_le hgl HCK.out.size⟩
   haveI o0 := k0.old
   haveI o1 := k1.old
   have HS := Lib.hid hs
   have hsf := hsa.1
   have hst := hsa.2.1
   have hsl := hsa.2.2.1
   have hsr := hsa.2.2.2
   clear hsa hs
   by_cases hmo : most ≤ (k : Int)
   ·have z0 : wr.cell? ⟨w.heap.size + 1, 0, none⟩ = some (.int .i64 0) := (@block_cells _ _ 0 _ _ kA).trans rfl
    have z1 : wr.cell? ⟨w.heap.size + 1, 1, none⟩ = some (.int .i64 0) := (@block_cells _ _ 1 _ _ kA).trans rfl
    have z2 : wr.cell? ⟨w.heap.size + 1, 2, none⟩ = some (.slice none 0 0) := (@block_cells _ _ 2 _ _ kA).trans rfl
    haveI oA := kA.old
    have f0 : ∀ o, wr.frozen? ⟨w.heap.size + 1, o, none⟩ = false := fun o => @block_frozen _ _ o _ _ kA
    go_wp2
    ·have e1 : fullC most L.length = 8 := if_pos (by omega)
     have e2 : fullD most L.length = 0 := by unfold fullD; rw [if_pos (by omega)]; omega
     have e3 : most.toNat = k := by have := HKM.out; omega
     rw [e1, e2, e3]
     have gA : Gr wr (wr.alloc (.cells #[.int .i64 (sb : Int), .int .i64 (sf : Int), .int .i64 (st : Int)] 146)) := gri
     exact bodyPost_ret (run_resCell1 rfl _ _ _ _ rfl (ans_block (BlockAt.gr kA gA) _ _ _) Tryz.underlying97 rfl (by kernel_rfl)) rfl ⟨rfl, ans_dev (HDk.out.gr gA) (BlockAt.gr kA gA) (by decide) _ _ _, ans_below (HB.out.trans (gA.below.mono (Nat.le_trans hbase HB.out.size))) (by omega) _ _ _, ck_ans (((CK.gr G1.out).trans HCK.out).trans (CK.gr gA)) (by omega) _ _ _⟩
    ·have e1 : fullC most L.length = 8 := if_pos (by omega)
     have e2 : fullD most L.length = most := by unfold fullD; rw [if_pos (by omega)]; omega
     have e3 : most.toNat = k := by have := HKM.out; omega
     rw [e1, e2, e3]
     have gA : Gr wr (wr.alloc (.cells #[.int .i64 (sb : Int), .int .i64 (sf : Int), .int .i64 (st : Int)] 146)) := gri
     exact bodyPost_ret (run_resCell1 rfl _ _ _ _ rfl (ans_block (BlockAt.gr kA gA) _ _ _) Tryz.underlying97 rfl (by kernel_rfl)) rfl ⟨rfl, ans_dev (HDk.out.gr gA) (BlockAt.gr kA gA) (by decide) _ _ _, ans_below (HB.out.trans (gA.below.mono (Nat.le_trans hbase HB.out.size))) (by omega) _ _ _, ck_ans (((CK.gr G1.out).trans HCK.out).trans (CK.gr gA)) (by omega) _ _ _⟩
   ·have hvk : getK (putK d xv (x.1, putL an lx x.2 (L.take k))) xv = some (x.1, putL an lx x.2 (L.take k)) := getK_put_self HD.out.ok.sort _ _
    have hmk : MapAt .i64 wr (mb xv) (encK bkV (putL an lx x.2 (L.take k))) := HDk.out.vol _ ((getK_mem HDk.out.ok.sort).1 hvk)
    have hlb := look_blk hmk sb
    obtain ⟨m, hme⟩ : ∃ m, putL an lx x.2 (L.take k) = m := ⟨_, rfl⟩
    rw [hme] at hvk hmk hlb
    have hokm : VolOk (x.1, m) := by rw [← hme]; exact putL_ok _ HX.out (fun s hs => by have := HLA.out s (List.mem_of_mem_take hs); exact ⟨this.1, this.2.1, by omega⟩)
    have hl0 : (blkM m sb).length = 256 := blkM_len hokm.sort hokm.len sb
    have hsg : (segK ⟨sb, sf, st⟩ an lx).length = 64 * (st - sf) := by simp [segK, hxn]; omega
    have HVk := Lib.hid hvk
    have HMk := Lib.hid hmk
    have HME := Lib.hid hme
    have HOm := Lib.hid hokm
    have HSG := Lib.hid hsg
    have HL0 := Lib.hid hl0
    clear hvk hmk hme hokm hsg hl0
    obtain ⟨X, hX⟩ : ∃ X, mergeB (blkM m sb) sf (segK ⟨sb, sf, st⟩ an lx) = X := ⟨_, rfl⟩
    have HX' := Lib.hid hX
    clear hX
    have hput : putL an lx x.2 (L.take (k + 1)) = putK m sb X := by
     have e := HME.out
     have e2 := HX'.out
     subst e
     rw [List.take_add_one, HS.out]
     simp only [putL, List.foldl_append, Option.toList, List.foldl_cons, List.foldl_nil]
     simp only [putS]
     rw [← e2]
     rfl
    have hnext : Hid (∀ w4 w5, Gr (wr.alloc (.cells #[.int .i64 (sb : Int), .int .i64 (sf : Int), .int .i64 (st : Int)] 146)) w4 → MapAt .i64 w5 (mb xv) (encK bkV (putK m sb X)) → OnlyB w4 w5 (mb xv) → CK W1 w5 ∧ DevIn base w5 D M mb (putK d xv (x.1, putL an lx x.2 (L.take (k + 1)))) ∧ Below base w w5) := Lib.hid fun w4 w5 h4 hm5 ho5 => by
     have g4 : Gr wr w4 := Gr.trans gri h4
     have hm4 := HMk.out.gr g4
     have e := HDk.out
     rw [HME.out] at e
     have hd2 := (e.gr g4).inner xv _ HVk.out (putK m sb X) hm5 ho5 (by rw [← hput]; exact putL_ok _ HX.out (fun s hs => by have := HLA.out s (List.mem_of_mem_take hs); exact ⟨this.1, this.2.1, by omega⟩))
     rw [putK_putK _ _ _ _ HD.out.ok.sort] at hd2
     rw [hput]
     exact ⟨HCK.out.trans ((CK.gr g4).trans (CK.only hm4 ho5)), hd2, ho5.below (HD.out.bV (xv, x) ((getK_mem HD.out.ok.sort).1 HV.out)) hm4.lt (HB.out.trans (g4.below.mono (Nat.le_trans hbase HB.out.size)))⟩
    clear hput
    go_wp2
    refine wp_region_treeG ⟨fun w' => Gr (wr.alloc (.cells #[.int .i64 (sb : Int), .int .i64 (sf : Int), .int .i64 (st : Int)] 146)) w', true, fun _ _ h => h, fun _ _ _ h g => h.trans g⟩ rfl (Gr.of ((Below.refl _ _).drew)) [0, 1, 2, 3, 4, 5, 6, 7, 8, 9, 10, 11, 12, 13, 14] 6 20 (by kernel_rfl) (by kernel_rfl) ?_
    simp only [pick, List.drop, List.take, List.nil_append, List.cons_append]
    repeat (refine wpCalm_step (fun K hK => ?_); go_simp; first | (refine hK _ ?_; clear hK K) | (apply Exists.intro; refine ⟨fun _ => ?_, hK _ ?_⟩; (skip); clear hK K))
    refine wpCalm_nil ?_
    have hsne : segK ⟨sb, sf, st⟩ an lx ≠ [] := by
     intro e
     have := HSG.out
     rw [e] at this
     simp at this
     omega
    refine fg_one 15 (by kernel_rfl) ?_
    refine fg_effD rfl rfl rfl (fun w1 hw1 => effAt_call' 121 #[.agg #[.int .i64 (sb : Int), .int .i64 (sf : Int), .int .i64 (st : Int)], .int .i64 (an : Int), .slice (some ⟨B, p, none⟩) xn xq] (by go_simp) ((data_any sb sf st an xn xq B p lx w1 (by omega) hsf hst hsl (by omega) (by omega) (by omega) (by simp [hxn]) (by omega) ?hBw ?hcw).mono fun e w2 hc => ?_))
    case hBw => exact Nat.lt_of_lt_of_le hBl1 (Nat.le_trans HCK.out.size (Gr.below (Gr.trans gri hw1)).size)
    case hcw => exact fun j u hj => (CK.gr (Gr.trans gri hw1)).cell (HCK.out.cell (HDT.out j u hj))
    obtain ⟨v1, rfl, ho1, hg1⟩ := hc
    obtain ⟨A1, c1, rfl, hbA, hA1, hx1, hy1, hcl1, hz1⟩ := ho1.cells bIs hsne
    refine ⟨_, rfl, ⟨fun w2 => Gr (wr.alloc (.cells #[.int .i64 (sb : Int), .int .i64 (sf : Int), .int .i64 (st : Int)] 146)) w2 ∧ A1 < w2.heap.size ∧ ∀ (j : Nat) u, (segK ⟨sb, sf, st⟩ an lx)[j]? = some u → w2.cell? ⟨A1, 0 + j, none⟩ = some (bv u), true, fun _ _ h => h.1, fun _ _ _ h g => ⟨h.1.trans g, Nat.lt_of_lt_of_le h.2.1 g.below.size, fun j u hj => (g.below.cell (p := ⟨A1, 0 + j, none⟩) h.2.1).trans (h.2.2 j u hj)⟩⟩, ⟨Gr.trans hw1 hg1, hA1, fun j u hj => by have := hcl1 j u hj 0 _ rfl; simpa [bE] using this⟩, fun _ _ => rfl, ?_⟩
    rw [HSG.out]
    clear ho1 hg1 hw1 hA1 hcl1 hbA hx1 hy1 hz1 w2 w1
    simp only [Act.put, List.setIfInBounds_toArray, List.set]
    refine fg_one 16 (by kernel_rfl) ?_
    refine fg_effD rfl rfl rfl (fun w1 hw1 => effAt_call' 120 #[.agg (bkC (blkM m sb)), .int .i64 (sf : Int), .slice (some ⟨A1, 0, none⟩) (64 * (st - sf)) c1] (by go_simp) ((merge_any (blkM m sb) (segK ⟨sb, sf, st⟩ an lx) sf (64 * (st - sf)) c1 A1 0 w1 HL0.out (by omega) HSG.out (by omega) (by omega) (by omega) hw1.2.1 hw1.2.2).mono fun e w2 hc => ?_))
    obtain ⟨rfl, hg1⟩ := hc
    refine ⟨_, rfl, ⟨fun w2 => Gr (wr.alloc (.cells #[.int .i64 (sb : Int), .int .i64 (sf : Int), .int .i64 (st : Int)] 146)) w2, true, fun _ _ h => h, fun _ _ _ h g => h.trans g⟩, Gr.trans hw1.1 hg1, fun _ _ => rfl, ?_⟩
    rw [HX'.out]
    clear hg1 hw1 w2 w1
    simp only [Act.put, List.setIfInBounds_toArray, List.set]
    refine fg_one 17 (by kernel_rfl) ?_
    refine fg_pure (.tuple #[.agg (bkC X), .int .i64 0]) rfl rfl rfl (fun w => by go_simp) ?_
    simp only [Act.put, List.setIfInBounds_toArray, List.set]
    refine fg_two 18 19 (by kernel_rfl) ?_ ?_
    ·refine fg_pure (.agg (bkC X)) rfl rfl rfl (fun w => by go_simp) ?_
     simp only [Act.put, List.setIfInBounds_toArray, List.set]
     refine fg_two 19 20 (by kernel_rfl) ?_ ?_
     ·refine fg_pure (.int .i64 0) rfl rfl rfl (fun w => by go_simp) ?_
      simp only [Act.put, List.setIfInBounds_toArray, List.set]
      refine fg_one 20 (by kernel_rfl) ?_
      refine fg_effN rfl rfl rfl (fun w1 hw1 => ?_)
      obtain ⟨W', hrun, h1, h2⟩ := map_update (P := Tryz.prog) Tryz.underlying113 Tryz.underlying3 (HMk.out.gr (Gr.trans gri hw1)) (sb : Int) (.agg (bkC X))
      refine effAt_updK rfl rfl rfl rfl hrun ?_
      refine ⟨⟨fun w2 => ∃ w1, Gr (wr.alloc (.cells #[.int .i64 (sb : Int), .int .i64 (sf : Int), .int .i64 (st : Int)] 146)) w1 ∧ MapAt .i64 w2 (mb xv) (encK bkV (putK m sb X)) ∧ OnlyB w1 w2 (mb xv), false, fun e => Bool.noConfusion e, fun e => Bool.noConfusion e⟩, ⟨w1, hw1, by rw [← putK_enc]; exact h1, h2⟩, fun e => absurd rfl e, ?_⟩
      clear h1 h2 hrun W' hw1 w1
      refine fg_end (by kernel_rfl) (fun w5 hw5 => ?_)
      obtain ⟨w4, hw4, hm5, ho5⟩ := hw5
      rename_i Kd hKd
      refine (show Kd _ _ from hKd _ _ ?_)
      have hn5 := hnext.out _ _ hw4 hm5 ho5
      clear hw4 hm5 ho5
      go_wp2
      go_roundw
      case rel => exact ⟨k + 1, by omega, by congr 1, hn5.1, hn5.2.1, hn5.2.2, .inr (by omega)⟩
      case measure => simp [intOf]; omega
     ·refine fg_effN rfl rfl rfl (fun w1 hw1 => ?_)
      obtain ⟨W', hrun, h1, h2⟩ := map_update (P := Tryz.prog) Tryz.underlying113 Tryz.underlying3 (HMk.out.gr (Gr.trans gri hw1)) (sb : Int) (.agg (bkC X))
      refine effAt_updK rfl rfl rfl rfl hrun ?_
      refine ⟨⟨fun w2 => ∃ w1, Gr (wr.alloc (.cells #[.int .i64 (sb : Int), .int .i64 (sf : Int), .int .i64 (st : Int)] 146)) w1 ∧ MapAt .i64 w2 (mb xv) (encK bkV (putK m sb X)) ∧ OnlyB w1 w2 (mb xv), false, fun e => Bool.noConfusion e, fun e => Bool.noConfusion e⟩, ⟨w1, hw1, by rw [← putK_enc]; exact h1, h2⟩, fun e => absurd rfl e, ?_⟩
      clear h1 h2 hrun W' hw1 w1
      refine fg_one 19 (by kernel_rfl) ?_
      refine fg_pure (.int .i64 0) rfl rfl rfl (fun w => by go_simp) ?_
      simp only [Act.put, List.setIfInBounds_toArray, List.set]
      refine fg_end (by kernel_rfl) (fun w5 hw5 => ?_)
      obtain ⟨w4, hw4, hm5, ho5⟩ := hw5
      rename_i Kd hKd
      refine (show Kd _ _ from hKd _ _ ?_)
      have hn5 := hnext.out _ _ hw4 hm5 ho5
      clear hw4 hm5 ho5
      go_wp2
      go_roundw
      case rel => exact ⟨k + 1, by omega, by congr 1, hn5.1, hn5.2.1, hn5.2.2, .inr (by omega)⟩
      case measure => simp [intOf]; omega
    ·refine fg_pure (.int .i64 0) rfl rfl rfl (fun w => by go_simp) ?_
     simp only [Act.put, List.setIfInBounds_toArray, List.set]
     refine fg_one 18 (by kernel_rfl) ?_
     refine fg_pure (.agg (bkC X)) rfl rfl rfl (fun w => by go_simp) ?_
     simp only [Act.put, List.setIfInBounds_toArray, List.set]
     refine fg_one 20 (by kernel_rfl) ?_
     refine fg_effN rfl rfl rfl (fun w1 hw1 => ?_)
     obtain ⟨W', hrun, h1, h2⟩ := map_update (P := Tryz.prog) Tryz.underlying113 Tryz.underlying3 (HMk.out.gr (Gr.trans gri hw1)) (sb : Int) (.agg (bkC X))
     refine effAt_updK rfl rfl rfl rfl hrun ?_
     refine ⟨⟨fun w2 => ∃ w1, Gr (wr.alloc (.cells #[.int .i64 (sb : Int), .int .i64 (sf : Int), .int .i64 (st : Int)] 146)) w1 ∧ MapAt .i64 w2 (mb xv) (encK bkV (putK m sb X)) ∧ OnlyB w1 w2 (mb xv), false, fun e => Bool.noConfusion e, fun e => Bool.noConfusion e⟩, ⟨w1, hw1, by rw [← putK_enc]; exact h1, h2⟩, fun e => absurd rfl e, ?_⟩
     clear h1 h2 hrun W' hw1 w1
     refine fg_end (by kernel_rfl) (fun w5 hw5 => ?_)
     obtain ⟨w4, hw4, hm5, ho5⟩ := hw5
     rename_i Kd hKd
     refine (show Kd _ _ from hKd _ _ ?_)
     have hn5 := hnext.out _ _ hw4 hm5 ho5
     clear hw4 hm5 ho5
     go_wp2
     go_roundw
     case rel => exact ⟨k + 1, by omega, by congr 1, hn5.1, hn5.2.1, hn5.2.2, .inr (by omega)⟩
     case measure => simp [intOf]; omega
  ·have z0 : wr.cell? ⟨w.heap.size + 1, 0, none⟩ = some (.int .i64 0) := (@block_cells _ _ 0 _ _ kA).trans rfl
   have z1 : wr.cell? ⟨w.heap.size + 1, 1, none⟩ = some (.int .i64 0) := (@block_cells _ _ 1 _ _ kA).trans rfl
   have z2 : wr.cell? ⟨w.heap.size + 1, 2, none⟩ = some (.slice none 0 0) := (@block_cells _ _ 2 _ _ kA).trans rfl
   haveI oA := kA.old
   have f0 : ∀ o, wr.frozen? ⟨w.heap.size + 1, o, none⟩ = false := fun o => @block_frozen _ _ o _ _ kA
   go_wp2
   have hkL : k = L.length := by omega
   have hL0 : 0 < L.length := by cases L with | nil => exact absurd rfl hLne | cons _ _ => simp
   have hkm : (k : Int) ≤ most := by have := HKM.out; omega
   have e1 : fullC most L.length = 0 := if_neg (by omega)
   have e2 : fullD most L.length = 0 := if_neg (by omega)
   have e3 : L.take most.toNat = L.take k := by rw [List.take_of_length_le (by omega), List.take_of_length_le (by omega)]
   rw [e1, e2, e3]
   exact bodyPost_ret (run_resCell1 rfl _ _ _ _ rfl (ans_block kA _ _ _) Tryz.underlying97 rfl (by kernel_rfl)) rfl ⟨rfl, ans_dev HDk.out kA (by decide) _ _ _, ans_below HB.out (by omega) _ _ _, ck_ans ((CK.gr G1.out).trans HCK.out) (by omega) _ _ _⟩
set_option maxHeartbeats 8000000 in
theorem put_6 (xv xt xs xa xc most : Int) (xD : Option Addr) (xn xq : Nat) (hn : xn ≤ 1000000) (base D : Nat) (d : Dev) (w : World) (h : DevAt base w D d) (hbase : base ≤ w.heap.size) (x : VolM) (hv : getK d xv = some x) (a0 : 0 ≤ xa) (a1 : xa ≤ 1048576) (c0 : 1 ≤ xc) (c1 : xc ≤ 1024) (hfit : ¬ 4 * x.1 < xa + xc) :
  Calls Tryz.prog 95 #[.pointer (some ⟨D, 0, none⟩), .agg #[.int .i64 6, .int .u64 xv, .int .u64 xt, .int .i64 xs, .int .i64 xa, .int .i64 xc, .slice xD xn xq], .int .i64 most] w (OpPost base D (putK d xv (x.1, putL xa.toNat (List.replicate (xc.toNat * 64) 0) x.2 ((spans xa.toNat xc.toNat).take most.toNat))) (fullC most (spans xa.toNat xc.toNat).length) (fullD most (spans xa.toNat xc.toNat).length) w) := by
 obtain ⟨M, mb, h⟩ := h
 haveI := h.blk
 have x0 : w.cell? ⟨D, 0, none⟩ = some (.map (some M)) := (@block_cells _ _ 0 _ _ h.blk).trans rfl
 haveI : Old D w := h.blk.old
 have HD := Lib.hid h
 have hlk := look_vol1 h xv _ hv
 simp only [volV] at hlk
 have hx := h.ok.vols _ ((getK_mem h.ok.sort).1 hv)
 have hx0 := hx.s0
 have hx1 := hx.s1
 simp only at hx0 hx1
 have HX := Lib.hid hx
 have HV := Lib.hid hv
 clear h hv hx
 obtain ⟨an, rfl⟩ : ∃ n : Nat, xa = n := ⟨xa.toNat, by omega⟩
 rw [Int.toNat_natCast]
 obtain ⟨C, rfl⟩ : ∃ n : Nat, xc = n := ⟨xc.toNat, by omega⟩
 rw [Int.toNat_natCast]
 have HSp : Hid (∀ W, Calls Tryz.prog 119 #[.int .i64 (an : Int), .int .i64 (C : Int)] W fun e w' => ∃ v, e = .returned v ∧ OwnN spE W.heap.size w' v (spans an C) ∧ Gr W w') := Lib.hid (fun W => split_any an C (by omega) (by omega) (by omega) W)
 have hmk := fun W => makeB C (by omega) W
 have hC1 : 1 ≤ C := by omega
 have hC2 : C ≤ 1024 := by omega
 obtain ⟨L, hL⟩ : ∃ L, spans an C = L := ⟨_, rfl⟩
 have hLa : ∀ s ∈ L, s.f < s.t ∧ s.t ≤ 4 ∧ an ≤ 4 * s.b + s.f ∧ 4 * s.b + s.t ≤ an + C := by rw [← hL]; exact spans_all
 have hLn : L.length ≤ C := by rw [← hL]; exact spans_len an C
 have hLne : L ≠ [] := by rw [← hL, spans_cons an C (by omega)]; simp
 rw [hL] at HSp ⊢
 have HLA := Lib.hid hLa
 clear hL hLa
 go_enter Tryz.func95, Tryz.ntmps95
 go_wp2
 refine wp_region_all [0, 1, 2, 3, 4, 5, 6, 7, 8, 9] [10, 11] [12, 13] (by kernel_rfl) (by kernel_rfl) ?_
 simp only [pick, List.drop, List.take, List.nil_append, List.cons_append]
 repeat (refine wpCalm_step (fun K hK => ?_); go_simp; first | (refine hK _ ?_; clear hK K) | (apply Exists.intro; refine ⟨fun _ => ?_, hK _ ?_⟩; ((go_at_call 116; exact part_6 _ _ _ _ _ _ _ _ (by omega) _)); clear hK K))
 refine wpCalm_nil ?_
 refine ⟨_, _, _, allocOp_alloc rfl rfl Tryz.zeroValue115, fun b1_0 hb1_0 nb1_0 => ?_⟩
 refine ⟨_, _, _, allocOp_alloc rfl rfl Tryz.zeroValue210, fun b1_1 hb1_1 nb1_1 => ?_⟩
 have db1_1_0 : b1_0 ≠ b1_1 := nb1_1 (b1_0, _, _) List.mem_cons_self
 simp only [Act.put, List.setIfInBounds_toArray, List.set]
 refine ⟨_, _, _, b1_0, #[.int .i64 0, .map none], _, #[.int .i64 x.1, .map (some (mb xv))], rfl, rfl, rfl, (List.mem_cons_of_mem _ List.mem_cons_self), ?hu, hb1_0, rfl, rfl, rfl, rfl, [(b1_0, #[.int .i64 x.1, .map (some (mb xv))], 115), (b1_1, #[.int .i64 0, .int .i64 0], 210)], ?hs, ?_⟩
 case hu =>
  intro z hz e
  rcases List.mem_cons.1 hz with rfl | hz
  ·exact absurd e db1_1_0.symm
  rcases List.mem_cons.1 hz with rfl | hz
  ·rfl
  cases hz
 case hs =>
  intro z
  constructor
  ·intro hz
   rcases List.mem_cons.1 hz with rfl | hz
   ·exact .inl rfl
   rcases List.mem_cons.1 hz with rfl | hz
   ·exact .inr ⟨List.mem_cons_self, db1_1_0.symm⟩
   cases hz
  ·rintro (rfl | ⟨hz, hne⟩)
   ·exact List.mem_cons_self
   rcases List.mem_cons.1 hz with rfl | hz
   ·exact (List.mem_cons_of_mem _ List.mem_cons_self)
   rcases List.mem_cons.1 hz with rfl | hz
   ·exact absurd rfl hne
   cases hz
 refine ⟨_, _, _, b1_1, #[.int .i64 0, .int .i64 0], _, #[.int .i64 (an : Int), .int .i64 ((C : Int))], rfl, rfl, rfl, (List.mem_cons_of_mem _ List.mem_cons_self), ?hu, hb1_1, rfl, rfl, rfl, rfl, [(b1_1, #[.int .i64 (an : Int), .int .i64 ((C : Int))], 210), (b1_0, #[.int .i64 x.1, .map (some (mb xv))], 115)], ?hs, ?_⟩
 case hu =>
  intro z hz e
  rcases List.mem_cons.1 hz with rfl | hz
  ·exact absurd e db1_1_0
  rcases List.mem_cons.1 hz with rfl | hz
  ·rfl
  cases hz
 case hs =>
  intro z
  constructor
  ·intro hz
   rcases List.mem_cons.1 hz with rfl | hz
   ·exact .inl rfl
   rcases List.mem_cons.1 hz with rfl | hz
   ·exact .inr ⟨List.mem_cons_self, db1_1_0⟩
   cases hz
  ·rintro (rfl | ⟨hz, hne⟩)
   ·exact List.mem_cons_self
   rcases List.mem_cons.1 hz with rfl | hz
   ·exact (List.mem_cons_of_mem _ List.mem_cons_self)
   rcases List.mem_cons.1 hz with rfl | hz
   ·exact absurd rfl hne
   cases hz
 intro w1 hw1
 have cb1_1 : ∀ o, w1.cell? ⟨b1_1, o, none⟩ = (#[.int .i64 (an : Int), .int .i64 ((C : Int))] : Array Value)[o]? := mix_cell hw1 List.mem_cons_self
 haveI kb1_1 : BlockAt w1 b1_1 #[.int .i64 (an : Int), .int .i64 ((C : Int))] 210 := ⟨hw1.2 _ List.mem_cons_self⟩
 have fb1_1 : ∀ o, w1.frozen? ⟨b1_1, o, none⟩ = false := mix_frozen hw1 List.mem_cons_self
 have ob1_1 : Old b1_1 w1 := mix_old hw1 List.mem_cons_self
 have cb1_0 : ∀ o, w1.cell? ⟨b1_0, o, none⟩ = (#[.int .i64 x.1, .map (some (mb xv))] : Array Value)[o]? := mix_cell hw1 (List.mem_cons_of_mem _ List.mem_cons_self)
 haveI kb1_0 : BlockAt w1 b1_0 #[.int .i64 x.1, .map (some (mb xv))] 115 := ⟨hw1.2 _ (List.mem_cons_of_mem _ List.mem_cons_self)⟩
 have fb1_0 : ∀ o, w1.frozen? ⟨b1_0, o, none⟩ = false := mix_frozen hw1 (List.mem_cons_of_mem _ List.mem_cons_self)
 have ob1_0 : Old b1_0 w1 := mix_old hw1 (List.mem_cons_of_mem _ List.mem_cons_self)
 have qb1_0 := @fresh_ne _ _ hb1_0
 have rb1_0 := @fresh_en _ _ hb1_0
 have lb1_0 := fresh_le hb1_0 w.heap.size
 have qb1_1 := @fresh_ne _ _ hb1_1
 have rb1_1 := @fresh_en _ _ hb1_1
 have lb1_1 := fresh_le hb1_1 w.heap.size
 have eb1_1_0 : ¬ b1_1 = b1_0 := fun e => db1_1_0 e.symm
 obtain ⟨⟨g1, rfl⟩, hbs⟩ := hw1
 clear hbs nb1_0 nb1_1
 have hMl : M < w.heap.size := HD.out.all.lt
 go_wp2_with ((go_at_call 119; ((with_reducible refine (HSp.out _).mono ?_))))
 rintro _ W1 ⟨vS, rfl, hoS, hgS⟩
 have hgW : Gr w W1 := Gr.trans gri hgS
 have KA := Lib.hid (BlockAt.gr (inferInstance : BlockAt _ (w.heap.size + 1) _ _) hgS)
 have K0 := Lib.hid (BlockAt.gr (inferInstance : BlockAt _ b1_0 _ _) hgS)
 have K1 := Lib.hid (BlockAt.gr (inferInstance : BlockAt _ b1_1 _ _) hgS)
 have hBB := BlockAt.gr (blockAt_new (grown ((w.alloc (.cells #[.int .i64 6, .int .u64 xv, .int .u64 xt, .int .i64 xs, .int .i64 (an : Int), .int .i64 (C : Int), .slice xD xn xq] 43)).alloc (.cells #[.int .i64 0, .int .i64 0, .slice none 0 0] 97)) g1) (bkC (List.replicate (C * 64) 0)) 5 _) hgS
 obtain ⟨B, hBe⟩ : ∃ B, (grown ((w.alloc (.cells #[.int .i64 6, .int .u64 xv, .int .u64 xt, .int .i64 xs, .int .i64 (an : Int), .int .i64 (C : Int), .slice xD xn xq] 43)).alloc (.cells #[.int .i64 0, .int .i64 0, .slice none 0 0] 97)) g1).heap.size = B := ⟨_, rfl⟩
 rw [hBe] at hBB ⊢
 obtain ⟨gS, cS, rfl, hbS, hgl, _, _, hclS, _⟩ := hoS.cells spIs hLne
 have hBl1 : B < W1.heap.size := hBB.lt
 have HDT : Hid (∀ (j : Nat) u, (List.replicate (C * 64) 0)[j]? = some u → W1.cell? ⟨B, 0 + j, none⟩ = some (bv u)) := Lib.hid (fun j u hj => by rw [@block_cells _ _ _ _ _ hBB]; simpa using bkC_at hj)
 have G1 := Lib.hid hgW
 have HCL := Lib.hid hclS
 have HML := Lib.hid hMl
 clear hoS hgS hclS hgW hMl
 clear ob1_0 ob1_1 cb1_0 cb1_1 fb1_0 fb1_1 kb1_0 kb1_1
 go_wp2
 go_loopw [37] (fun i wr => ∃ k : Nat, k ≤ L.length ∧ i = .int .i64 k ∧ CK W1 wr ∧ DevIn base wr D M mb (putK d xv (x.1, putL an (List.replicate (C * 64) 0) x.2 (L.take k))) ∧ Below base w wr ∧ (k = 0 ∨ (k : Int) ≤ most)) (fun i _ => L.length - intOf i |>.toNat)
 case atStart => exact ⟨0, Nat.zero_le _, rfl, CK.refl _, by rw [List.take_zero]; show DevIn base W1 D M mb (putK d xv (x.1, x.2)); rw [putK_own HD.out.ok.sort (x := (x.1, x.2)) HV.out]; exact HD.out.gr G1.out, G1.out.below.mono hbase, .inl rfl⟩
 case round =>
  obtain ⟨k, hk, rfl, hck, hd, hb, hkm⟩ := hrel
  haveI kA := hck.block KA.out
  haveI k0 := hck.block K0.out
  haveI k1 := hck.block K1.out
  have y01 : wr.cell? ⟨b1_0, 1, none⟩ = some (.map (some (mb xv))) := (@block_cells _ _ 1 _ _ k0).trans rfl
  have y10 : wr.cell? ⟨b1_1, 0, none⟩ = some (.int .i64 (an : Int)) := (@block_cells _ _ 0 _ _ k1).trans rfl
  have HCK := Lib.hid hck
  have HDk := Lib.hid hd
  have HB := Lib.hid hb
  have HKM := Lib.hid hkm
  clear hck hd hb hkm
  by_cases hlt : k < L.length
  ·obtain ⟨s, hs⟩ : ∃ s, L[k]? = some s := ⟨_, List.getElem?_eq_getElem hlt⟩
   have hsa := HLA.out s (List.mem_of_getElem? hs)
   obtain ⟨sb, sf, st⟩ := s
   simp only at hsa
   have s0 : wr.cell? ⟨gS, k * 3, none⟩ = some (.int .i64 (sb : Int)) := HCK.out.cell (by have := HCL.out k _ hs 0 _ rfl; rwa [Nat.zero_add] at this)
   have s1 : wr.cell? ⟨gS, k * 3 + 1, none⟩ = some (.int .i64 (sf : Int)) := HCK.out.cell (by have := HCL.out k _ hs 1 _ rfl; rwa [Nat.zero_add] at this)
   have s2 : wr.cell? ⟨gS, k * 3 + 2, none⟩ = some (.int .i64 (st : Int)) := HCK.out.cell (by have := HCL.out k _ hs 2 _ rfl; rwa [Nat.zero_add] at this)
   haveI : Old gS wr := ⟨Nat.lt_of_lt_of_le hgl HCK.out.size⟩
   haveI o0 := k0.old
   haveI o1 := k1.old
   have HS := Lib.hid hs
   have hsf := hsa.1
   have hst := hsa.2.1
   have hsl := hsa.2.2.1
   have hsr := hsa.2.2.2
   clear hsa hs
   by_cases hmo : most ≤ (k : Int)
   ·have z0 : wr.cell? ⟨w.heap.size + 1, 0, none⟩ = some (.int .i64 0) := (@block_cells _ _ 0 _ _ kA).trans rfl
    have z1 : wr.cell? ⟨w.heap.size + 1, 1, none⟩ = some (.int .i64 0) := (@block_cells _ _ 1 _ _ kA).trans rfl
    have z2 : wr.cell? ⟨w.heap.size + 1, 2, none⟩ = some (.slice none 0 0) := (@block_cells _ _ 2 _ _ kA).trans rfl
    haveI oA := kA.old
    have f0 : ∀ o, wr.frozen? ⟨w.heap.size + 1, o, none⟩ = false := fun o => @block_frozen _ _ o _ _ kA
    go_wp2
    ·have e1 : fullC most L.length = 8 := if_pos (by omega)
     have e2 : fullD most L.length = 0 := by unfold fullD; rw [if_pos (by omega)]; omega
     have e3 : most.toNat = k := by have := HKM.out; omega
     rw [e1, e2, e3]
     have gA : Gr wr (wr.alloc (.cells #[.int .i64 (sb : Int), .int .i64 (sf : Int), .int .i64 (st : Int)] 146)) := gri
     exact bodyPost_ret (run_resCell1 rfl _ _ _ _ rfl (ans_block (BlockAt.gr kA gA) _ _ _) Tryz.underlying97 rfl (by kernel_rfl)) rfl ⟨rfl, ans_dev (HDk.out.gr gA) (BlockAt.gr kA gA) (by decide) _ _ _, ans_below (HB.out.trans (gA.below.mono (Nat.le_trans hbase HB.out.size))) (by omega) _ _ _, ck_ans (((CK.gr G1.out).trans HCK.out).trans (CK.gr gA)) (by omega) _ _ _⟩
    ·have e1 : fullC most L.length = 8 := if_pos (by omega)
     have e2 : fullD most L.length = most := by unfold fullD; rw [if_pos (by omega)]; omega
     have e3 : most.toNat = k := by have := HKM.out; omega
     rw [e1, e2, e3]
     have gA : Gr wr (wr.alloc (.cells #[.int .i64 (sb : Int), .int .i64 (sf : Int), .int .i64 (st : Int)] 146)) := gri
     exact bodyPost_ret (run_resCell1 rfl _ _ _ _ rfl (ans_block (BlockAt.gr kA gA) _ _ _) Tryz.underlying97 rfl (by kernel_rfl)) rfl ⟨rfl, ans_dev (HDk.out.gr gA) (BlockAt.gr kA gA) (by decide) _ _ _, ans_below (HB.out.trans (gA.below.mono (Nat.le_trans hbase HB.out.size))) (by omega) _ _ _, ck_ans (((CK.gr G1.out).trans HCK.out).trans (CK.gr gA)) (by omega) _ _ _⟩
   ·have hvk : getK (putK d xv (x.1, putL an (List.replicate (C * 64) 0) x.2 (L.take k))) xv = some (x.1, putL an (List.replicate (C * 64) 0) x.2 (L.take k)) := getK_put_self HD.out.ok.sort _ _
    have hmk : MapAt .i64 wr (mb xv) (encK bkV (putL an (List.replicate (C * 64) 0) x.2 (L.take k))) := HDk.out.vol _ ((getK_mem HDk.out.ok.sort).1 hvk)
    have hlb := look_blk hmk sb
    obtain ⟨m, hme⟩ : ∃ m, putL an (List.replicate (C * 64) 0) x.2 (L.take k) = m := ⟨_, rfl⟩
    rw [hme] at hvk hmk hlb
    have hokm : VolOk (x.1, m) := by rw [← hme]; exact putL_ok _ HX.out (fun s hs => by have := HLA.out s (List.mem_of_mem_take hs); exact ⟨this.1, this.2.1, by omega⟩)
    have hl0 : (blkM m sb).length = 256 := blkM_len hokm.sort hokm.len sb
    have hsg : (segK ⟨sb, sf, st⟩ an (List.replicate (C * 64) 0)).length = 64 * (st - sf) := by simp [segK, List.length_replicate]; omega
    have HVk := Lib.hid hvk
    have HMk := Lib.hid hmk
    have HME := Lib.hid hme
    have HOm := Lib.hid hokm
    have HSG := Lib.hid hsg
    have HL0 := Lib.hid hl0
    clear hvk hmk hme hokm hsg hl0
    obtain ⟨X, hX⟩ : ∃ X, mergeB (blkM m sb) sf (segK ⟨sb, sf, st⟩ an (List.replicate (C * 64) 0)) = X := ⟨_, rfl⟩
    have HX' := Lib.hid hX
    clear hX
    have hput : putL an (List.replicate (C * 64) 0) x.2 (L.take (k + 1)) = putK m sb X := by
     have e := HME.out
     have e2 := HX'.out
     subst e
     rw [List.take_add_one, HS.out]
     simp only [putL, List.foldl_append, Option.toList, List.foldl_cons, List.foldl_nil]
     simp only [putS]
     rw [← e2]
     rfl
    have hnext : Hid (∀ w4 w5, Gr (wr.alloc (.cells #[.int .i64 (sb : Int), .int .i64 (sf : Int), .int .i64 (st : Int)] 146)) w4 → MapAt .i64 w5 (mb xv) (encK bkV (putK m sb X)) → OnlyB w4 w5 (mb xv) → CK W1 w5 ∧ DevIn base w5 D M mb (putK d xv (x.1, putL an (List.replicate (C * 64) 0) x.2 (L.take (k + 1)))) ∧ Below base w w5) := Lib.hid fun w4 w5 h4 hm5 ho5 => by
     have g4 : Gr wr w4 := Gr.trans gri h4
     have hm4 := HMk.out.gr g4
     have e := HDk.out
     rw [HME.out] at e
     have hd2 := (e.gr g4).inner xv _ HVk.out (putK m sb X) hm5 ho5 (by rw [← hput]; exact putL_ok _ HX.out (fun s hs => by have := HLA.out s (List.mem_of_mem_take hs); exact ⟨this.1, this.2.1, by omega⟩))
     rw [putK_putK _ _ _ _ HD.out.ok.sort] at hd2
     rw [hput]
     exact ⟨HCK.out.trans ((CK.gr g4).trans (CK.only hm4 ho5)), hd2, ho5.below (HD.out.bV (xv, x) ((getK_mem HD.out.ok.sort).1 HV.out)) hm4.lt (HB.out.trans (g4.below.mono (Nat.le_trans hbase HB.out.size)))⟩
    clear hput
    go_wp2
    refine wp_region_treeG ⟨fun w' => Gr (wr.alloc (.cells #[.int .i64 (sb : Int), .int .i64 (sf : Int), .int .i64 (st : Int)] 146)) w', true, fun _ _ h => h, fun _ _ _ h g => h.trans g⟩ rfl (Gr.of ((Below.refl _ _).drew)) [0, 1, 2, 3, 4, 5, 6, 7, 8, 9, 10, 11, 12, 13, 14] 6 20 (by kernel_rfl) (by kernel_rfl) ?_
    simp only [pick, List.drop, List.take, List.nil_append, List.cons_append]
    repeat (refine wpCalm_step (fun K hK => ?_); go_simp; first | (refine hK _ ?_; clear hK K) | (apply Exists.intro; refine ⟨fun _ => ?_, hK _ ?_⟩; (skip); clear hK K))
    refine wpCalm_nil ?_
    have hsne : segK ⟨sb, sf, st⟩ an (List.replicate (C * 64) 0) ≠ [] := by
     intro e
     have := HSG.out
     rw [e] at this
     simp at this
     omega
    refine fg_one 15 (by kernel_rfl) ?_
    refine fg_effD rfl rfl rfl (fun w1 hw1 => effAt_call' 121 #[.agg #[.int .i64 (sb : Int), .int .i64 (sf : Int), .int .i64 (st : Int)], .int .i64 (an : Int), .slice (some ⟨B, 0, none⟩) (C * 64) (C * 64)] (by go_simp) ((data_any sb sf st an (C * 64) (C * 64) B 0 (List.replicate (C * 64) 0) w1 (by omega) hsf hst hsl (by omega) (by omega) (by omega) (by simp [List.length_replicate]) (by omega) ?hBw ?hcw).mono fun e w2 hc => ?_))
    case hBw => exact Nat.lt_of_lt_of_le hBl1 (Nat.le_trans HCK.out.size (Gr.below (Gr.trans gri hw1)).size)
    case hcw => exact fun j u hj => (CK.gr (Gr.trans gri hw1)).cell (HCK.out.cell (HDT.out j u hj))
    obtain ⟨v1, rfl, ho1, hg1⟩ := hc
    obtain ⟨A1, c1, rfl, hbA, hA1, hx1, hy1, hcl1, hz1⟩ := ho1.cells bIs hsne
    refine ⟨_, rfl, ⟨fun w2 => Gr (wr.alloc (.cells #[.int .i64 (sb : Int), .int .i64 (sf : Int), .int .i64 (st : Int)] 146)) w2 ∧ A1 < w2.heap.size ∧ ∀ (j : Nat) u, (segK ⟨sb, sf, st⟩ an (List.replicate (C * 64) 0))[j]? = some u → w2.cell? ⟨A1, 0 + j, none⟩ = some (bv u), true, fun _ _ h => h.1, fun _ _ _ h g => ⟨h.1.trans g, Nat.lt_of_lt_of_le h.2.1 g.below.size, fun j u hj => (g.below.cell (p := ⟨A1, 0 + j, none⟩) h.2.1).trans (h.2.2 j u hj)⟩⟩, ⟨Gr.trans hw1 hg1, hA1, fun j u hj => by have := hcl1 j u hj 0 _ rfl; simpa [bE] using this⟩, fun _ _ => rfl, ?_⟩
    rw [HSG.out]
    clear ho1 hg1 hw1 hA1 hcl1 hbA hx1 hy1 hz1 w2 w1
    simp only [Act.put, List.setIfInBounds_toArray, List.set]
    refine fg_one 16 (by kernel_rfl) ?_
    refine fg_effD rfl rfl rfl (fun w1 hw1 => effAt_call' 120 #[.agg (bkC (blkM m sb)), .int .i64 (sf : Int), .slice (some ⟨A1, 0, none⟩) (64 * (st - sf)) c1] (by go_simp) ((merge_any (blkM m sb) (segK ⟨sb, sf, st⟩ an (List.replicate (C * 64) 0)) sf (64 * (st - sf)) c1 A1 0 w1 HL0.out (by omega) HSG.out (by omega) (by omega) (by omega) hw1.2.1 hw1.2.2).mono fun e w2 hc => ?_))
    obtain ⟨rfl, hg1⟩ := hc
    refine ⟨_, rfl, ⟨fun w2 => Gr (wr.alloc (.cells #[.int .i64 (sb : Int), .int .i64 (sf : Int), .int .i64 (st : Int)] 146)) w2, true, fun _ _ h => h, fun _ _ _ h g => h.trans g⟩, Gr.trans hw1.1 hg1, fun _ _ => rfl, ?_⟩
    rw [HX'.out]
    clear hg1 hw1 w2 w1
    simp only [Act.put, List.setIfInBounds_toArray, List.set]
    refine fg_one 17 (by kernel_rfl) ?_
    refine fg_pure (.tuple #[.agg (bkC X), .int .i64 0]) rfl rfl rfl (fun w => by go_simp) ?_
    simp only [Act.put, List.setIfInBounds_toArray, List.set]
    refine fg_two 18 19 (by kernel_rfl) ?_ ?_
    ·refine fg_pure (.agg (bkC X)) rfl rfl rfl (fun w => by go_simp) ?_
     simp only [Act.put, List.setIfInBounds_toArray, List.set]
     refine fg_two 19 20 (by kernel_rfl) ?_ ?_
     ·refine fg_pure (.int .i64 0) rfl rfl rfl (fun w => by go_simp) ?_
      simp only [Act.put, List.setIfInBounds_toArray, List.set]
      refine fg_one 20 (by kernel_rfl) ?_
      refine fg_effN rfl rfl rfl (fun w1 hw1 => ?_)
      obtain ⟨W', hrun, h1, h2⟩ := map_update (P := Tryz.prog) Tryz.underlying113 Tryz.underlying3 (HMk.out.gr (Gr.trans gri hw1)) (sb : Int) (.agg (bkC X))
      refine effAt_updK rfl rfl rfl rfl hrun ?_
      refine ⟨⟨fun w2 => ∃ w1, Gr (wr.alloc (.cells #[.int .i64 (sb : Int), .int .i64 (sf : Int), .int .i64 (st : Int)] 146)) w1 ∧ MapAt .i64 w2 (mb xv) (encK bkV (putK m sb X)) ∧ OnlyB w1 w2 (mb xv), false, fun e => Bool.noConfusion e, fun e => Bool.noConfusion e⟩, ⟨w1, hw1, by rw [← putK_enc]; exact h1, h2⟩, fun e => absurd rfl e, ?_⟩
      clear h1 h2 hrun W' hw1 w1
      refine fg_end (by kernel_rfl) (fun w5 hw5 => ?_)
      obtain ⟨w4, hw4, hm5, ho5⟩ := hw5
      rename_i Kd hKd
      refine (show Kd _ _ from hKd _ _ ?_)
      have hn5 := hnext.out _ _ hw4 hm5 ho5
      clear hw4 hm5 ho5
      go_wp2
      go_roundw
      case rel => exact ⟨k + 1, by omega, by congr 1, hn5.1, hn5.2.1, hn5.2.2, .inr (by omega)⟩
      case measure => simp [intOf]; omega
     ·refine fg_effN rfl rfl rfl (fun w1 hw1 => ?_)
      obtain ⟨W', hrun, h1, h2⟩ := map_update (P := Tryz.prog) Tryz.underlying113 Tryz.underlying3 (HMk.out.gr (Gr.trans gri hw1)) (sb : Int) (.agg (bkC X))
      refine effAt_updK rfl rfl rfl rfl hrun ?_
      refine ⟨⟨fun w2 => ∃ w1, Gr (wr.alloc (.cells #[.int .i64 (sb : Int), .int .i64 (sf : Int), .int .i64 (st : Int)] 146)) w1 ∧ MapAt .i64 w2 (mb xv) (encK bkV (putK m sb X)) ∧ OnlyB w1 w2 (mb xv), false, fun e => Bool.noConfusion e, fun e => Bool.noConfusion e⟩, ⟨w1, hw1, by rw [← putK_enc]; exact h1, h2⟩, fun e => absurd rfl e, ?_⟩
      clear h1 h2 hrun W' hw1 w1
      refine fg_one 19 (by kernel_rfl) ?_
      refine fg_pure (.int .i64 0) rfl rfl rfl (fun w => by go_simp) ?_
      simp only [Act.put, List.setIfInBounds_toArray, List.set]
      refine fg_end (by kernel_rfl) (fun w5 hw5 => ?_)
      obtain ⟨w4, hw4, hm5, ho5⟩ := hw5
      rename_i Kd hKd
      refine (show Kd _ _ from hKd _ _ ?_)
      have hn5 := hnext.out _ _ hw4 hm5 ho5
      clear hw4 hm5 ho5
      go_wp2
      go_roundw
      case rel => exact ⟨k + 1, by omega, by congr 1, hn5.1, hn5.2.1, hn5.2.2, .inr (by omega)⟩
      case measure => simp [intOf]; omega
    ·refine fg_pure (.int .i64 0) rfl rfl rfl (fun w => by go_simp) ?_
     simp only [Act.put, List.setIfInBounds_toArray, List.set]
     refine fg_one 18 (by kernel_rfl) ?_
     refine fg_pure (.agg (bkC X)) rfl rfl rfl (fun w => by go_simp) ?_
     simp only [Act.put, List.setIfInBounds_toArray, List.set]
     refine fg_one 20 (by kernel_rfl) ?_
     refine fg_effN rfl rfl rfl (fun w1 hw1 => ?_)
     obtain ⟨W', hrun, h1, h2⟩ := map_update (P := Tryz.prog) Tryz.underlying113 Tryz.underlying3 (HMk.out.gr (Gr.trans gri hw1)) (sb : Int) (.agg (bkC X))
     refine effAt_updK rfl rfl rfl rfl hrun ?_
     refine ⟨⟨fun w2 => ∃ w1, Gr (wr.alloc (.cells #[.int .i64 (sb : Int), .int .i64 (sf : Int), .int .i64 (st : Int)] 146)) w1 ∧ MapAt .i64 w2 (mb xv) (encK bkV (putK m sb X)) ∧ OnlyB w1 w2 (mb xv), false, fun e => Bool.noConfusion e, fun e => Bool.noConfusion e⟩, ⟨w1, hw1, by rw [← putK_enc]; exact h1, h2⟩, fun e => absurd rfl e, ?_⟩
     clear h1 h2 hrun W' hw1 w1
     refine fg_end (by kernel_rfl) (fun w5 hw5 => ?_)
     obtain ⟨w4, hw4, hm5, ho5⟩ := hw5
     rename_i Kd hKd
     refine (show Kd _ _ from hKd _ _ ?_)
     have hn5 := hnext.out _ _ hw4 hm5 ho5
     clear hw4 hm5 ho5
     go_wp2
     go_roundw
     case rel => exact ⟨k + 1, by omega, by congr 1, hn5.1, hn5.2.1, hn5.2.2, .inr (by omega)⟩
     case measure => simp [intOf]; omega
  ·have z0 : wr.cell? ⟨w.heap.size + 1, 0, none⟩ = some (.int .i64 0) := (@block_cells _ _ 0 _ _ kA).trans rfl
   have z1 : wr.cell? ⟨w.heap.size + 1, 1, none⟩ = some (.int .i64 0) := (@block_cells _ _ 1 _ _ kA).trans rfl
   have z2 : wr.cell? ⟨w.heap.size + 1, 2, none⟩ = some (.slice none 0 0) := (@block_cells _ _ 2 _ _ kA).trans rfl
   haveI oA := kA.old
   have f0 : ∀ o, wr.frozen? ⟨w.heap.size + 1, o, none⟩ = false := fun o => @block_frozen _ _ o _ _ kA
   go_wp2
   have hkL : k = L.length := by omega
   have hL0 : 0 < L.length := by cases L with | nil => exact absurd rfl hLne | cons _ _ => simp
   have hkm : (k : Int) ≤ most := by have := HKM.out; omega
   have e1 : fullC most L.length = 0 := if_neg (by omega)
   have e2 : fullD most L.length = 0 := if_neg (by omega)
   have e3 : L.take most.toNat = L.take k := by rw [List.take_of_length_le (by omega), List.take_of_length_le (by omega)]
   rw [e1, e2, e3]
   exact bodyPost_ret (run_resCell1 rfl _ _ _ _ rfl (ans_block kA _ _ _) Tryz.underlying97 rfl (by kernel_rfl)) rfl ⟨rfl, ans_dev HDk.out kA (by decide) _ _ _, ans_below HB.out (by omega) _ _ _, ck_ans ((CK.gr G1.out).trans HCK.out) (by omega) _ _ _⟩
set_option maxRecDepth 100000
@[go_sem] theorem eqMapB (m : Option Nat) (w : World) : (binOp .eql 113 (.map m) (.map none)).run Tryz.prog w = .ok (.bool m.isNone) w := by
 have := run_eql_map_nil (P := Tryz.prog) w 113 _ _ m Tryz.underlying113
 simpa using this
@[go_sem] theorem taMapB (m : Option Nat) (w : World) : (Instr.typeAssert (.iface 113 (.map m)) 20 113 false).run Tryz.prog w = .ok (.map m) w := by kernel_rfl
theorem cloneMap_any (b : Nat) (L : List (Int × Value)) (w : World) (h : MapAt .i64 w b L) : Calls Tryz.prog 70 #[.map (some b)] w fun e w' => e = .returned (.map (some w.heap.size)) ∧ MapAt .i64 w' w.heap.size L ∧ Gr w w' := by
 obtain ⟨h1, h2⟩ := map_clone (P := Tryz.prog) h 113
 have hc := run_callFunc_extern Tryz.func89 (by kernel_rfl) (by kernel_rfl) (by kernel_rfl) (e := Extern.MapsClone.clone) (by kernel_rfl) #[.iface 113 (.map (some b))] w
 rw [h1] at hc
 simp only [Result.andThen] at hc
 have hg : Gr w (w.alloc (w.heap[b]?.getD default)) := Gr.of (below_alloc (Below.refl _ _) _)
 generalize w.alloc (w.heap[b]?.getD default) = W2 at *
 have H := Lib.hid h2
 have HG := Lib.hid hg
 clear h1 h2 hg
 go_enter Tryz.func70, Tryz.ntmps70
 go_wp2
 go_ret
 exact ⟨rfl, H.out, HG.out⟩
set_option maxRecDepth 100000
set_option maxHeartbeats 4000000 in
theorem snap_any (xv xt xs xa xc most : Int) (xD : Option Addr) (xn xq : Nat) (hn : xn ≤ 1000000) (base D : Nat) (d : Dev) (w : World) (h : DevAt base w D d) (hbase : base ≤ w.heap.size) (x : VolM) (hv : getK d xv = some x) (hok : DevOk (putK d xt x)) :
  Calls Tryz.prog 94 #[.pointer (some ⟨D, 0, none⟩), .agg #[.int .i64 4, .int .u64 xv, .int .u64 xt, .int .i64 xs, .int .i64 xa, .int .i64 xc, .slice xD xn xq], .int .i64 most] w (OpPost base D (putK d xt x) 0 0 w) := by
 obtain ⟨M, mb, h⟩ := h
 haveI := h.blk
 have x0 : w.cell? ⟨D, 0, none⟩ = some (.map (some M)) := (@block_cells _ _ 0 _ _ h.blk).trans rfl
 haveI : Old D w := h.blk.old
 have HD := Lib.hid h
 have HOK := Lib.hid hok
 have hlk := look_vol1 h xv _ hv
 simp only [volV] at hlk
 have HM := Lib.hid (h.vol _ ((getK_mem h.ok.sort).1 hv))
 clear h hok hv
 go_enter Tryz.func94, Tryz.ntmps94
 go_wp2
 refine wp_region_all [0, 1, 2, 3, 4, 5, 6, 7, 8, 9] [10, 11] [12, 13] (by kernel_rfl) (by kernel_rfl) ?_
 simp only [pick, List.drop, List.take, List.nil_append, List.cons_append]
 repeat (refine wpCalm_step (fun K hK => ?_); go_simp; first | (refine hK _ ?_; clear hK K) | (apply Exists.intro; refine ⟨fun _ => ?_, hK _ ?_⟩; ((go_at_call 116; exact part_4 _ _ _ _ _ _ _ _ (by omega) _)); clear hK K))
 refine wpCalm_nil ?_
 refine ⟨_, _, _, allocOp_alloc rfl rfl Tryz.zeroValue115, fun b1_0 hb1_0 nb1_0 => ?_⟩
 refine ⟨_, _, _, allocOp_alloc rfl rfl Tryz.zeroValue208, fun b1_1 hb1_1 nb1_1 => ?_⟩
 have db1_1_0 : b1_0 ≠ b1_1 := nb1_1 (b1_0, _, _) List.mem_cons_self
 simp only [Act.put, List.setIfInBounds_toArray, List.set]
 refine ⟨_, _, _, b1_0, #[.int .i64 0, .map none], _, #[.int .i64 x.1, .map (some (mb xv))], rfl, rfl, rfl, (List.mem_cons_of_mem _ List.mem_cons_self), ?hu, hb1_0, rfl, rfl, rfl, rfl, [(b1_0, #[.int .i64 x.1, .map (some (mb xv))], 115), (b1_1, #[.int .u64 0, .int .u64 0], 208)], ?hs, ?_⟩
 case hu =>
  intro z hz e
  rcases List.mem_cons.1 hz with rfl | hz
  ·exact absurd e db1_1_0.symm
  rcases List.mem_cons.1 hz with rfl | hz
  ·rfl
  cases hz
 case hs =>
  intro z
  constructor
  ·intro hz
   rcases List.mem_cons.1 hz with rfl | hz
   ·exact .inl rfl
   rcases List.mem_cons.1 hz with rfl | hz
   ·exact .inr ⟨List.mem_cons_self, db1_1_0.symm⟩
   cases hz
  ·rintro (rfl | ⟨hz, hne⟩)
   ·exact List.mem_cons_self
   rcases List.mem_cons.1 hz with rfl | hz
   ·exact (List.mem_cons_of_mem _ List.mem_cons_self)
   rcases List.mem_cons.1 hz with rfl | hz
   ·exact absurd rfl hne
   cases hz
 refine ⟨_, _, _, b1_1, #[.int .u64 0, .int .u64 0], _, #[.int .u64 xv, .int .u64 xt], rfl, rfl, rfl, (List.mem_cons_of_mem _ List.mem_cons_self), ?hu, hb1_1, rfl, rfl, rfl, rfl, [(b1_1, #[.int .u64 xv, .int .u64 xt], 208), (b1_0, #[.int .i64 x.1, .map (some (mb xv))], 115)], ?hs, ?_⟩
 case hu =>
  intro z hz e
  rcases List.mem_cons.1 hz with rfl | hz
  ·exact absurd e db1_1_0
  rcases List.mem_cons.1 hz with rfl | hz
  ·rfl
  cases hz
 case hs =>
  intro z
  constructor
  ·intro hz
   rcases List.mem_cons.1 hz with rfl | hz
   ·exact .inl rfl
   rcases List.mem_cons.1 hz with rfl | hz
   ·exact .inr ⟨List.mem_cons_self, db1_1_0⟩
   cases hz
  ·rintro (rfl | ⟨hz, hne⟩)
   ·exact List.mem_cons_self
   rcases List.mem_cons.1 hz with rfl | hz
   ·exact (List.mem_cons_of_mem _ List.mem_cons_self)
   rcases List.mem_cons.1 hz with rfl | hz
   ·exact absurd rfl hne
   cases hz
 intro w1 hw1
 have cb1_1 : ∀ o, w1.cell? ⟨b1_1, o, none⟩ = (#[.int .u64 xv, .int .u64 xt] : Array Value)[o]? := mix_cell hw1 List.mem_cons_self
 have fb1_1 : ∀ o, w1.frozen? ⟨b1_1, o, none⟩ = false := mix_frozen hw1 List.mem_cons_self
 have ob1_1 : Old b1_1 w1 := mix_old hw1 List.mem_cons_self
 have cb1_0 : ∀ o, w1.cell? ⟨b1_0, o, none⟩ = (#[.int .i64 x.1, .map (some (mb xv))] : Array Value)[o]? := mix_cell hw1 (List.mem_cons_of_mem _ List.mem_cons_self)
 have fb1_0 : ∀ o, w1.frozen? ⟨b1_0, o, none⟩ = false := mix_frozen hw1 (List.mem_cons_of_mem _ List.mem_cons_self)
 have ob1_0 : Old b1_0 w1 := mix_old hw1 (List.mem_cons_of_mem _ List.mem_cons_self)
 have qb1_0 := @fresh_ne _ _ hb1_0
 have rb1_0 := @fresh_en _ _ hb1_0
 have lb1_0 := fresh_le hb1_0 w.heap.size
 have qb1_1 := @fresh_ne _ _ hb1_1
 have rb1_1 := @fresh_en _ _ hb1_1
 have lb1_1 := fresh_le hb1_1 w.heap.size
 have eb1_1_0 : ¬ b1_1 = b1_0 := fun e => db1_1_0 e.symm
 obtain ⟨⟨g1, rfl⟩, hbs⟩ := hw1
 clear hbs nb1_0 nb1_1
 go_wp2
 refine wp_region_treeT (inCls_ghost _) (Cls.none _) ⟨Gr.of ((Below.refl _ _).drew), trivial⟩ [0, 1, 2, 3, 4, 5, 6, 7, 8, 9] 2 12 (by kernel_rfl) (by kernel_rfl) ?_
 simp only [pick, List.drop, List.take, List.nil_append, List.cons_append]
 repeat (refine wpCalm_step (fun K hK => ?_); go_simp; first | (refine hK _ ?_; clear hK K) | (apply Exists.intro; refine ⟨fun _ => ?_, hK _ ?_⟩; (skip); clear hK K))
 refine wpCalm_nil ?_
 have hMl : M < w.heap.size := HD.out.all.lt
 refine ft_eff 10 (by kernel_rfl) (by omega) rfl rfl fun w1 hw1 => effAt_call' 70 #[.map (some (mb xv))] (by go_simp) ((cloneMap_any (mb xv) _ w1 (HM.out.gr (Gr.trans gri hw1.1))).mono fun e w2 hc => ⟨_, hc.1, ?_⟩)
 obtain ⟨he9, hc, hg⟩ := hc
 refine ⟨⟨fun w2 => MapAt .i64 w2 w1.heap.size (encK bkV x.2), fun a b h g => h.gr g⟩, ⟨hw1.1.trans hg, hc⟩, ?_⟩
 have hsz := hw1.1.below.size
 have hb0 : w.heap.size ≤ w1.heap.size := Nat.le_trans (inferInstance : From w _).le hsz
 generalize w1.heap.size = b at *
 clear he9 hc hg w2 e hw1 w1
 simp only [Act.put, List.setIfInBounds_toArray, List.set]
 refine ft_calm 11 (.agg #[.int .i64 x.1, .map (some b)]) (by kernel_rfl) (by omega) rfl rfl (fun g => by unfold calmAt; go_simp) ?_
 simp only [Act.put, List.setIfInBounds_toArray, List.set]
 refine ft_end ⟨by kernel_rfl, fun w2 hw2 => ?_⟩
 try simp only [List.drop_succ_cons, List.drop_zero]
 have g2 : Gr w w2 := Gr.trans gri hw2.1
 refine wpList_updateK rfl _ _ _ rfl xt _ Tryz.underlying99 Tryz.underlying28 (HD.out.all.gr g2) rfl rfl rfl fun W' h1 h2 => ?_
 have HD' := HD.out.put g2 xt x b hw2.2 (.inl hb0) h1 h2 HOK.out hbase
 haveI hB1 : BlockAt W' (w.heap.size + 1) #[.int .i64 0, .int .i64 0, .slice none 0 0] 97 := h2.blockAt (BlockAt.gr (inferInstance : BlockAt _ (w.heap.size + 1) _ _) hw2.1) (by omega)
 have hck := (CK.gr g2).trans (CK.only (HD.out.all.gr g2) h2)
 have hbel : Below base w W' := h2.below HD.out.bM (Nat.lt_of_lt_of_le hMl g2.below.size) (g2.below.mono hbase)
 have z0 : W'.cell? ⟨w.heap.size + 1, 0, none⟩ = some (.int .i64 0) := (@block_cells _ _ 0 _ _ hB1).trans rfl
 have z1 : W'.cell? ⟨w.heap.size + 1, 1, none⟩ = some (.int .i64 0) := (@block_cells _ _ 1 _ _ hB1).trans rfl
 have z2 : W'.cell? ⟨w.heap.size + 1, 2, none⟩ = some (.slice none 0 0) := (@block_cells _ _ 2 _ _ hB1).trans rfl
 have f0 : ∀ o, W'.frozen? ⟨w.heap.size + 1, o, none⟩ = false := fun o => @block_frozen _ _ o _ _ hB1
 have HN := Lib.hid HD'
 have HB := Lib.hid hbel
 have HCK := Lib.hid hck
 clear HD' hbel hck
 clear h1 h2 hw2 g2 hsz hMl hb0
 simp only [Act.put]
 go_wp2
 exact bodyPost_ret (run_resCell1 rfl _ _ _ _ rfl (ans_block hB1 _ _ _) Tryz.underlying97 rfl (by kernel_rfl)) rfl ⟨rfl, ans_dev HN.out hB1 (by decide) _ _ _, ans_below HB.out (by omega) _ _ _, ck_ans HCK.out (by omega) _ _ _⟩
end Go.Proofs.YtipeblmgochdfaaGreat
