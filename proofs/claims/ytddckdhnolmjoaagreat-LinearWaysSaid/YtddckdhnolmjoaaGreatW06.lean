/- A region that draws its order, one of whose last operations turns what is old, while operations that read nothing float behind .. -/
import Derived.Test.YtddckdhnolmjoaaGreatW05
import Derived.LoopTactic
import Derived.Test.YtddckdhnolmjoaaGreatW01
import Derived.Maps.RangeWalk
set_option linter.unusedVariables false
set_option linter.unusedSimpArgs false
set_option linter.unnecessarySimpa false
set_option maxRecDepth 100000
set_option maxHeartbeats 8000000
namespace Go.Proofs.YtddckdhnolmjoaaGreat
open Go.RowKit
structure StG (W : World) where
 e : World → Prop
 c : Bool
 out : c = true → ∀ w, e w → Gr W w
 grow : c = true → ∀ w w', e w → Gr w w' → e w'
section
variable {P : Program} {ops : Array Oper} {md : Region.Mode} {W : World}
def efG (P : Program) (ops : Array Oper) (W : World) (n i : Nat) (K : StG W → Act → Prop) (s : StG W) (a : Act) : Prop :=
 ∃ o, ops[i]? = some o ∧ Region.wanted o (yielded ops a.tmps) = true ∧ ∀ w, s.e w → EffAt P o a w (fun v w' => ∃ s' : StG W, s'.e w' ∧ (i ≠ n → s.c = true → s'.c = true) ∧ K s' (a.put o.dst v))
def feOpG (P : Program) (ops : Array Oper) (W : World) (n i : Nat) (K : StG W → Act → Prop) (s : StG W) (a : Act) : Prop := (s.c = true ∧ clOp P ops W i K s a) ∨ efG P ops W n i K s a
def feG (P : Program) (md : Region.Mode) (ops : Array Oper) (W : World) (n : Nat) (L : StG W → Act → Prop) : Nat → Array Bool → StG W → Act → Prop
 | 0, listed, s, a => Region.ready md ops listed = [] ∧ L s a
 | f + 1, listed, s, a => (Region.ready md ops listed = [] → L s a) ∧ ∀ i ∈ Region.ready md ops listed, feOpG P ops W n i (feG P md ops W n L f (listed.setIfInBounds i true)) s a
theorem feG_any {n : Nat} {L : StG W → Act → Prop} {Q' : Exit → Act → World → Prop} (hL : ∀ (s : StG W) a w, s.e w → L s a → Q' .normal a w) :
  ∀ (f : Nat) (listed : Array Bool) (s : StG W) (a : Act) (w : World), s.e w → feG P md ops W n L f listed s a → wpAny P md ops Q' f listed a w
 | 0, listed, s, a, w, hw, h => ⟨h.1, hL _ _ _ hw h.2⟩
 | f + 1, listed, s, a, w, hw, h => by
  refine ⟨fun h0 => hL _ _ _ hw (h.1 h0), fun i hi => ?_⟩
  unfold wpOp
  rcases h.2 i hi with ⟨hsc, o, ho, v, hv, hk⟩ | ⟨o, ho, hg, hs⟩
  ·simp only [ho]
   rcases hv with ⟨hw1, hc⟩ | ⟨hw1, rfl⟩
   ·simp only [hw1, if_true]
    refine .inl ?_
    obtain ⟨gw, rfl⟩ := s.out hsc _ hw
    have h3 := hc gw
    unfold calmAt at h3
    unfold Oper.wp
    generalize (execOp a.eval o).run P (grown W gw) = r at *
    cases r with
    | ok nx w' =>
     cases nx <;> simp only [calmUpon] at h3 <;> simp only [Oper.upon]
     case value u => obtain ⟨e1, e2⟩ := h3; rw [e1, e2]; exact feG_any hL f _ _ _ _ hw hk
     case skip => obtain ⟨e1, e2⟩ := h3; rw [e1, ← e2]; exact feG_any hL f _ _ _ _ hw hk
     case enter f' args =>
      obtain ⟨e1, hc'⟩ := h3
      rw [e1]
      exact hc'.mono fun e w'' ⟨he, hw''⟩ => by subst he; exact feG_any hL f _ _ _ _ (s.grow hsc _ _ hw hw'') hk
    | halt x w' => simp only [calmUpon] at h3
   ·simp only [hw1, Bool.false_eq_true, if_false]; exact feG_any hL f _ _ _ _ hw hk
  ·simp only [ho, hg, if_true]
   refine .inl ?_
   have h3 := hs w hw
   unfold EffAt at h3
   unfold Oper.wp
   generalize (execOp a.eval o).run P w = r at *
   cases r with
   | ok nx w' =>
    cases nx <;> simp only [effUpon] at h3 <;> simp only [Oper.upon]
    case value u => obtain ⟨s', hi', _, hk⟩ := h3; exact feG_any hL f _ _ _ _ hi' hk
    case skip => obtain ⟨s', hi', _, hk⟩ := h3; exact feG_any hL f _ _ _ _ hi' hk
    case enter f' args => exact h3.mono fun e w'' ⟨v, he, s', hi', _, hk⟩ => by subst he; exact feG_any hL f _ _ _ _ hi' hk
   | halt x w' => simp only [effUpon] at h3
theorem feOpG_put {n j : Nat} {oi oj : Oper} {v : Value} (hj : ops[j]? = some oj) (hjn : j ≠ n) (hap : oi.apart ops oj = true)
  (hsi : ∀ cs b, oi.op ≠ .select cs b) (hsj : ∀ cs b, oj.op ≠ .select cs b) {K : StG W → Act → Prop} {s : StG W} {a : Act} (hsc : s.c = true)
  (hy : CalmOp P ops W oi v a) (h : feOpG P ops W n j K s (a.put oi.dst v)) :
  feOpG P ops W n j (fun s' a' => s'.c = true ∧ CalmOp P ops W oi v a' ∧ K s' (a'.put oi.dst v)) s a := by
 obtain ⟨p1, p2, p3⟩ := Oper.apart_spec hap
 rcases h with ⟨_, o, ho, u, hu, hk⟩ | ⟨o, ho, hg, hs⟩
 ·obtain rfl : o = oj := Option.some.inj (ho.symm.trans hj)
  exact .inl ⟨hsc, o, hj, u, hu.unput hsj p1, hsc, hy.put hsi p3, by rw [← Act.put_comm a v u p2]; exact hk⟩
 ·obtain rfl : o = oj := Option.some.inj (ho.symm.trans hj)
  refine .inr ⟨o, hj, by rw [wanted_put o a oi.dst v p1] at hg; exact hg, fun w hw => ?_⟩
  have h3 := hs w hw
  unfold EffAt at *
  rw [execOp_put o hsj a oi.dst v p1] at h3
  exact effUpon_mono (fun u w' ⟨s', h1, h4, h2⟩ => ⟨s', h1, h4, h4 hjn hsc, hy.put hsi p3, by rw [← Act.put_comm a v u p2]; exact h2⟩) _ h3
theorem feOpG_mono {n i : Nat} {K K' : StG W → Act → Prop} {s : StG W} {a : Act} (h : ∀ s a, K s a → K' s a) (hh : feOpG P ops W n i K s a) : feOpG P ops W n i K' s a :=
 hh.imp (fun ⟨hc, o, ho, v, hv, hk⟩ => ⟨hc, o, ho, v, hv, h _ _ hk⟩) (fun ⟨o, ho, hg, hs⟩ => ⟨o, ho, hg, fun w hw => effUpon_mono (fun v w' ⟨s', h1, h4, h2⟩ => ⟨s', h1, h4, h _ _ h2⟩) _ (hs w hw)⟩)
def waitsB (md : Region.Mode) (ops : Array Oper) (n i : Nat) : Bool := match ops[n]? with
 | some o => o.after.any fun e => Region.binds md e && e.on == i
 | none => false
theorem feG_first {n i : Nat} {oi : Oper} {v : Value} {L : StG W → Act → Prop} (hi : ops[i]? = some oi) (hsel : ∀ (j : Nat) (o : Oper) cs b, ops[j]? = some o → o.op ≠ .select cs b) (hw : waitsB md ops n i = true) :
  ∀ (f : Nat) (listed : Array Bool) (s : StG W) (a : Act), s.c = true →
   (∀ j oj, ops[j]? = some oj → j ≠ i → listed.getD j true = false → (∀ e ∈ oj.after, Region.binds md e = true → e.on ≠ i) → oi.apart ops oj = true) →
   i ∈ Region.ready md ops listed → CalmOp P ops W oi v a →
   feG P md ops W n L f (listed.setIfInBounds i true) s (a.put oi.dst v) → feG P md ops W n L (f + 1) listed s a := by
 intro f
 induction f with
 | zero =>
  intro listed s a hsc _ hr hy H
  refine ⟨(fun h => by rw [h] at hr; cases hr), fun j hj => ?_⟩
  by_cases hji : j = i
  ·subst hji; exact .inl ⟨hsc, oi, hi, v, hy, H⟩
  ·have := ready_mono hj hji
   rw [H.1] at this
   cases this
 | succ f ih =>
  intro listed s a hsc hfree hr hy H
  have hun := (mem_ready.1 hr).1
  refine ⟨(fun h => by rw [h] at hr; cases hr), fun j hj => ?_⟩
  by_cases hji : j = i
  ·subst hji; exact .inl ⟨hsc, oi, hi, v, hy, H⟩
  have h1 := H.2 j (ready_mono hj hji)
  obtain ⟨hjun, oj, hoj, hall⟩ := mem_ready.1 hj
  have hnot : ∀ e ∈ oj.after, Region.binds md e = true → e.on ≠ i := fun e he hb heq => by
   have h1 := hall e he hb
   rw [heq, getD_both hun] at h1
   cases h1
  have hjn : j ≠ n := by
   rintro rfl
   unfold waitsB at hw
   rw [hoj] at hw
   obtain ⟨e, he, hb⟩ := Array.any_eq_true'.1 hw
   simp only [Bool.and_eq_true, beq_iff_eq] at hb
   exact hnot e he hb.1 hb.2
  have h2 := feOpG_put hoj hjn (hfree j oj hoj hji hjun hnot) (fun cs b => hsel i oi cs b hi) (fun cs b => hsel j oj cs b hoj) hsc hy h1
  have hfree' : ∀ k ok, ops[k]? = some ok → k ≠ i → (listed.setIfInBounds j true).getD k true = false →
    (∀ e ∈ ok.after, Region.binds md e = true → e.on ≠ i) → oi.apart ops ok = true := fun k ok hk hki hu hno => by
   refine hfree k ok hk hki ?_ hno
   by_cases hjk : j = k
   ·subst hjk; exact hjun
   ·rw [getD_set_ne true hjk] at hu; exact hu
  refine feOpG_mono (fun s' a' h3 => ih (listed.setIfInBounds j true) s' a' h3.1 hfree' (ready_mono hr (Ne.symm hji)) h3.2.1 ?_) h2
  rw [Array.setIfInBounds_comm _ _ hji]
  exact h3.2.2
end
section
variable {P : Program} {md : Region.Mode} {W : World} {l : List Oper} {L : StG W → Act → Prop}
theorem feG_lex {n : Nat} (hsel : Region.noSelect l.toArray = true) (m : Nat) :
  ∀ (qs : List Nat) (listed : Array Bool) (s : StG W) (a : Act), s.c = true → qs.all (waitsB md l.toArray n) = true → freeAll md l.toArray qs listed = true → wpCalm P l.toArray W (fun a' => feG P md l.toArray W n L m (listAll qs listed) s a') (pick l qs) a →
   feG P md l.toArray W n L (qs.length + m) listed s a
 | [], listed, s, a, _, _, hB, h => by
  rw [List.length_nil, Nat.zero_add]
  exact h
 | k :: r, listed, s, a, hsc, hq, hB, h => by
  simp only [freeAll, Bool.and_eq_true] at hB
  obtain ⟨⟨hr, hf⟩, hB'⟩ := hB
  simp only [List.all_cons, Bool.and_eq_true] at hq
  have hr' : k ∈ Region.ready md l.toArray listed := by simpa using hr
  obtain ⟨_, o, ho, _⟩ := mem_ready.1 hr'
  have ho' : l[k]? = some o := by simpa using ho
  rw [pick_cons ho'] at h
  rw [show (k :: r).length + m = (r.length + m) + 1 by simp; omega]
  unfold wpCalm at h
  by_cases hw : Region.wanted o (yielded l.toArray a.tmps) = true
  ·simp only [hw, if_true] at h
   obtain ⟨v, hv, hk⟩ := h
   exact feG_first ho (Region.noSelect_spec hsel) hq.1 _ listed s a hsc (Region.free_spec ho hf) hr' (.inl ⟨hw, hv⟩) (feG_lex hsel m r _ _ _ hsc hq.2 hB' hk)
  ·simp only [hw] at h
   exact feG_first ho (Region.noSelect_spec hsel) hq.1 _ listed s a hsc (Region.free_spec ho hf) hr' (.inr ⟨by simpa using hw, rfl⟩) (feG_lex hsel m r _ _ _ hsc hq.2 hB' h)
def treeGB (md : Region.Mode) (ops : Array Oper) (qs : List Nat) (m n : Nat) : Bool :=
 Region.noSelect ops && decide (qs.length + m = ops.size) && qs.all (waitsB md ops n) && freeAll md ops qs (Array.replicate ops.size false)
theorem wp_region_treeG {id : Nat} {Q : Exit → Act → World → Prop} {a : Act} {w : World} (s : StG W) (hsc : s.c = true) (hw : s.e w.drew) (qs : List Nat) (m n : Nat) (hm : P.follows .mixedOrders = true) (hB : treeGB .any l.toArray qs m n = true)
  (h : wpCalm P l.toArray W (fun a' => feG P .any l.toArray W n (fun s a3 => ∀ w', s.e w' → Q .normal a3 w') m (listAll qs (Array.replicate l.toArray.size false)) s a') (pick l qs) a) : (Code.region id l.toArray true).wp P Q a w := by
 simp only [treeGB, Bool.and_eq_true, decide_eq_true_eq] at hB
 obtain ⟨⟨⟨hsel, hlen⟩, hq⟩, hfree⟩ := hB
 have H := feG_lex (md := .any) (P := P) (W := W) hsel m qs _ s a hsc hq hfree h
 refine wp_region_any hm ?_
 have := feG_any (Q' := Q) (fun s a' w' hw' (hL : ∀ w', s.e w' → Q .normal a' w') => hL w' hw') _ _ _ _ _ hw H
 rw [hlen] at this
 exact this
section
variable {ops : Array Oper} {f n : Nat} {listed : Array Bool} {s : StG W} {a : Act}
theorem fg_eff {K : StG W → Act → Prop} {i : Nat} {o : Oper} (ho : ops[i]? = some o) (hg : o.guard = none) (h : ∀ w, s.e w → EffAt P o a w (fun v w' => ∃ s' : StG W, s'.e w' ∧ (i ≠ n → s.c = true → s'.c = true) ∧ K s' (a.put o.dst v))) : feOpG P ops W n i K s a :=
 .inr ⟨o, ho, by simp [Region.wanted, hg], h⟩
theorem fg_effD {K : StG W → Act → Prop} {i : Nat} {o : Oper} {d : Tmp} (ho : ops[i]? = some o) (hg : o.guard = none) (hd : o.dst = some d) (h : ∀ w, s.e w → EffAt P o a w (fun v w' => ∃ s' : StG W, s'.e w' ∧ (i ≠ n → s.c = true → s'.c = true) ∧ K s' (a.put (some d) v))) : feOpG P ops W n i K s a :=
 fg_eff ho hg fun w hw => by rw [hd]; exact h w hw
theorem fg_effN {K : StG W → Act → Prop} {i : Nat} {o : Oper} (ho : ops[i]? = some o) (hg : o.guard = none) (hd : o.dst = none) (h : ∀ w, s.e w → EffAt P o a w (fun v w' => ∃ s' : StG W, s'.e w' ∧ (i ≠ n → s.c = true → s'.c = true) ∧ K s' a)) : feOpG P ops W n i K s a :=
 fg_eff ho hg fun w hw => by rw [hd]; exact h w hw
theorem effAt_updK {o : Oper} {w W' : World} {K : Value → World → Prop} {t : TypeId} {m k v : Operand} {m' k' v' : Value} (ho : o.op = .mapUpdate t m k v) (hm : a.eval m = m') (hk : a.eval k = k') (hv : a.eval v = v') (hr : (Instr.mapUpdate t m' k' v').run P w = .ok () W') (h : K undef W') : EffAt P o a w K := by
 unfold EffAt
 simp [execOp, ho, hm, hk, hv, hr, Result.andThen, effUpon]
 exact h
theorem fg_one (i : Nat) (hr : Region.ready md ops listed = [i]) (h : feOpG P ops W n i (feG P md ops W n L f (listed.setIfInBounds i true)) s a) : feG P md ops W n L (f + 1) listed s a :=
 ⟨fun h0 => by (rw [hr] at h0; cases h0), fun k hk => by (rw [hr] at hk; obtain rfl : k = i := by simpa using hk); exact h⟩
theorem fg_two (i j : Nat) (hr : Region.ready md ops listed = [i, j]) (hi : feOpG P ops W n i (feG P md ops W n L f (listed.setIfInBounds i true)) s a) (hj : feOpG P ops W n j (feG P md ops W n L f (listed.setIfInBounds j true)) s a) : feG P md ops W n L (f + 1) listed s a :=
 ⟨fun h0 => by (rw [hr] at h0; cases h0), fun k hk => by
  rw [hr] at hk
  rcases List.mem_cons.1 hk with rfl | hk
  ·exact hi
  ·obtain rfl : k = j := by simpa using hk
   exact hj⟩
theorem fg_end (hr : Region.ready md ops listed = []) (h : L s a) : feG P md ops W n L 0 listed s a := ⟨hr, h⟩
theorem fg_pure {K : StG W → Act → Prop} {i : Nat} {o : Oper} {d : Tmp} (v : Value) (ho : ops[i]? = some o) (hg : o.guard = none) (hd : o.dst = some d) (hv : ∀ w, (execOp a.eval o).run P w = .ok (.value v) w) (h : K s (a.put (some d) v)) : feOpG P ops W n i K s a :=
 fg_effD ho hg hd fun w hw => by
  unfold EffAt
  rw [hv w]
  exact ⟨s, hw, fun _ hc => hc, h⟩
end
end
def fullC (most : Int) (n : Nat) : Int := if most < n then 8 else 0
def fullD (most : Int) (n : Nat) : Int := if most < n then max most 0 else 0
theorem put_5 (xv xt xs xa xc most : Int) (xD : Option Addr) (xn xq : Nat) (hn : xn ≤ 1000000) (base D : Nat) (d : Dev) (w : World) (h : DevAt base w D d) (hbase : base ≤ w.heap.size) (x : VolM) (hv : getK d xv = some x) (a0 : 0 ≤ xa) (a1 : xa ≤ 1048576) (hq : xn ≤ xq) (lx : Byt) (hxn : lx.length = xn) (hr : Row bv w xD lx) (n0 : 64 ≤ xn) (n1 : xn % 64 = 0) (n2 : xn ≤ 2048) (hfit : ¬ 4 * x.1 < xa + (xn : Int) / 64) :
  Calls Tryz.prog 42 #[.pointer (some ⟨D, 0, none⟩), .agg #[.int .i64 5, .int .u64 xv, .int .u64 xt, .int .i64 xs, .int .i64 xa, .int .i64 xc, .slice xD xn xq], .int .i64 most] w (OpPost base D (putK d xv (x.1, putL xa.toNat lx x.2 ((spans xa.toNat (xn / 64)).take most.toNat))) (fullC most (spans xa.toNat (xn / 64)).length) (fullD most (spans xa.toNat (xn / 64)).length) w) := by
 obtain ⟨M, mb, h⟩ := h
 haveI := h.blk
 have x0 : w.cell? ⟨D, 0, none⟩ = some (.map (some M)) := (bc 0 h.blk).trans rfl
 haveI : Old D w := h.blk.old
 have HD := hd_ h
 have hlk := look_vol1 h xv _ hv
 simp only [volV] at hlk
 have hx := h.ok.vols _ ((getK_mem h.ok.sort).1 hv)
 have hx0 := hx.s0
 have hx1 := hx.s1
 simp only at hx0 hx1
 have HX := hd_ hx
 have HV := hd_ hv
 clear h hv hx
 obtain ⟨an, rfl⟩ : ∃ n : Nat, xa = n := ⟨xa.toNat, by omega⟩
 rw [Int.toNat_natCast]
 obtain ⟨C, hC⟩ : ∃ C, xn / 64 = C := ⟨_, rfl⟩
 rw [hC]
 have hCx : (xn : Int) / 64 = (C : Int) := by omega
 rw [hCx] at hfit
 have HSp : Hid (∀ W, Calls Tryz.prog 74 #[.int .i64 (an : Int), .int .i64 ((xn : Int) / 64)] W fun e w' => ∃ v, e = .returned v ∧ OwnN spE W.heap.size w' v (spans an C) ∧ Gr W w') := hd_ (fun W => by rw [hCx]; exact split_any an C (by omega) (by omega) (by omega) W)
 obtain ⟨B, p, rfl, hBl, hcell⟩ := hr.at_ (by rintro rfl; simp at hxn; omega)
 have HC2 := hd_ hcell
 haveI : Old B w := ⟨hBl⟩
 have hCn : C * 64 = xn := by omega
 have hC1 : 1 ≤ C := by omega
 have hC2 : C ≤ 1024 := by omega
 clear hcell hr hCx hC
 obtain ⟨L, hL⟩ : ∃ L, spans an C = L := ⟨_, rfl⟩
 have hLa : ∀ s ∈ L, s.f < s.t ∧ s.t ≤ 4 ∧ an ≤ 4 * s.b + s.f ∧ 4 * s.b + s.t ≤ an + C := by rw [← hL]; exact spans_all
 have hLn : L.length ≤ C := by rw [← hL]; exact spans_len an C
 have hLne : L ≠ [] := by rw [← hL, spans_cons an C (by omega)]; simp
 rw [hL] at HSp ⊢
 have HLA := hd_ hLa
 clear hL hLa
 go_enter Tryz.func42, Tryz.ntmps42
 go_wp2
 refine wp_region_all [0, 1, 2, 3, 4, 5, 6, 7, 8, 9] [10, 11] [12, 13] (by kernel_rfl) (by kernel_rfl) ?_
 simp only [pick, List.drop, List.take, List.nil_append, List.cons_append]
 repeat (refine wpCalm_step (fun K hK => ?_); go_simp; first | (refine hK _ ?_; clear hK K) | (apply Exists.intro; refine ⟨fun _ => ?_, hK _ ?_⟩; ((go_at_call 71; exact part_5 _ _ _ _ _ _ _ _ (by omega) _)); clear hK K))
 refine wpCalm_nil ?_
 refine ⟨_, _, _, allocOp_alloc rfl rfl Tryz.zeroValue64, fun b1_0 hb1_0 nb1_0 => ?_⟩
 refine ⟨_, _, _, allocOp_alloc rfl rfl Tryz.zeroValue148, fun b1_1 hb1_1 nb1_1 => ?_⟩
 have db1_1_0 : b1_0 ≠ b1_1 := nb1_1 (b1_0, _, _) mcs
 simp only [Act.put, stA, List.set]
 refine ⟨_, _, _, b1_0, #[.int .i64 0, .map none], _, #[.int .i64 x.1, .map (some (mb xv))], rfl, rfl, rfl, (List.mem_cons_of_mem _ mcs), ?hu, hb1_0, rfl, rfl, rfl, rfl, [(b1_0, #[.int .i64 x.1, .map (some (mb xv))], 64), (b1_1, #[.int .i64 0, .int .i64 0], 148)], ?hs, ?_⟩
 case hu =>
  intro z hz e
  rcases List.mem_cons.1 hz with rfl | hz
  ·exact absurd e db1_1_0.symm
  rcases List.mem_cons.1 hz with rfl | hz
  ·rfl
  cases hz
 case hs =>
  intro z
  constructor
  ·intro hz
   rcases List.mem_cons.1 hz with rfl | hz
   ·exact .inl rfl
   rcases List.mem_cons.1 hz with rfl | hz
   ·exact .inr ⟨mcs, db1_1_0.symm⟩
   cases hz
  ·rintro (rfl | ⟨hz, hne⟩)
   ·exact mcs
   rcases List.mem_cons.1 hz with rfl | hz
   ·exact (List.mem_cons_of_mem _ mcs)
   rcases List.mem_cons.1 hz with rfl | hz
   ·exact absurd rfl hne
   cases hz
 refine ⟨_, _, _, b1_1, #[.int .i64 0, .int .i64 0], _, #[.int .i64 (an : Int), .int .i64 ((xn : Int) / 64)], rfl, rfl, rfl, (List.mem_cons_of_mem _ mcs), ?hu, hb1_1, rfl, rfl, rfl, rfl, [(b1_1, #[.int .i64 (an : Int), .int .i64 ((xn : Int) / 64)], 148), (b1_0, #[.int .i64 x.1, .map (some (mb xv))], 64)], ?hs, ?_⟩
 case hu =>
  intro z hz e
  rcases List.mem_cons.1 hz with rfl | hz
  ·exact absurd e db1_1_0
  rcases List.mem_cons.1 hz with rfl | hz
  ·rfl
  cases hz
 case hs =>
  intro z
  constructor
  ·intro hz
   rcases List.mem_cons.1 hz with rfl | hz
   ·exact .inl rfl
   rcases List.mem_cons.1 hz with rfl | hz
   ·exact .inr ⟨mcs, db1_1_0⟩
   cases hz
  ·rintro (rfl | ⟨hz, hne⟩)
   ·exact mcs
   rcases List.mem_cons.1 hz with rfl | hz
   ·exact (List.mem_cons_of_mem _ mcs)
   rcases List.mem_cons.1 hz with rfl | hz
   ·exact absurd rfl hne
   cases hz
 intro w1 hw1
 have cb1_1 : ∀ o, w1.cell? ⟨b1_1, o, none⟩ = (#[.int .i64 (an : Int), .int .i64 ((xn : Int) / 64)] : Array Value)[o]? := mix_cell hw1 mcs
 haveI kb1_1 : BlockAt w1 b1_1 #[.int .i64 (an : Int), .int .i64 ((xn : Int) / 64)] 148 := ⟨hw1.2 _ mcs⟩
 have fb1_1 : ∀ o, w1.frozen? ⟨b1_1, o, none⟩ = false := mix_frozen hw1 mcs
 have ob1_1 : Old b1_1 w1 := mix_old hw1 mcs
 have cb1_0 : ∀ o, w1.cell? ⟨b1_0, o, none⟩ = (#[.int .i64 x.1, .map (some (mb xv))] : Array Value)[o]? := mix_cell hw1 (List.mem_cons_of_mem _ mcs)
 haveI kb1_0 : BlockAt w1 b1_0 #[.int .i64 x.1, .map (some (mb xv))] 64 := ⟨hw1.2 _ (List.mem_cons_of_mem _ mcs)⟩
 have fb1_0 : ∀ o, w1.frozen? ⟨b1_0, o, none⟩ = false := mix_frozen hw1 (List.mem_cons_of_mem _ mcs)
 have ob1_0 : Old b1_0 w1 := mix_old hw1 (List.mem_cons_of_mem _ mcs)
 have qb1_0 := @fresh_ne _ _ hb1_0
 have rb1_0 := @fresh_en _ _ hb1_0
 have lb1_0 := fresh_le hb1_0 w.heap.size
 have qb1_1 := @fresh_ne _ _ hb1_1
 have rb1_1 := @fresh_en _ _ hb1_1
 have lb1_1 := fresh_le hb1_1 w.heap.size
 have eb1_1_0 : ¬ b1_1 = b1_0 := fun e => db1_1_0 e.symm
 obtain ⟨⟨g1, rfl⟩, hbs⟩ := hw1
 clear hbs nb1_0 nb1_1
 have hMl : M < w.heap.size := HD.out.all.lt
 go_wp2_with ((go_at_call 74; ((with_reducible refine (HSp.out _).mono ?_))))
 rintro _ W1 ⟨vS, rfl, hoS, hgS⟩
 have hgW : Gr w W1 := Gr.trans gri hgS
 have KA := hd_ (BlockAt.gr (inferInstance : BlockAt _ (w.heap.size + 1) _ _) hgS)
 have K0 := hd_ (BlockAt.gr (inferInstance : BlockAt _ b1_0 _ _) hgS)
 have K1 := hd_ (BlockAt.gr (inferInstance : BlockAt _ b1_1 _ _) hgS)
 obtain ⟨gS, cS, rfl, hbS, hgl, _, _, hclS, _⟩ := hoS.cells spIs hLne
 have hBl1 : B < W1.heap.size := Nat.lt_of_lt_of_le hBl hgW.below.size
 have HDT : Hid (∀ (j : Nat) u, lx[j]? = some u → W1.cell? ⟨B, p + j, none⟩ = some (bv u)) := hd_ (fun j u hj => (hgW.below.cell (p := ⟨B, p + j, none⟩) hBl).trans (HC2.out j u hj))
 have G1 := hd_ hgW
 have HCL := hd_ hclS
 have HML := hd_ hMl
 clear hoS hgS hclS hgW hMl
 clear ob1_0 ob1_1 cb1_0 cb1_1 fb1_0 fb1_1 kb1_0 kb1_1
 go_wp2
 go_loopw [37] (fun i wr => ∃ k : Nat, k ≤ L.length ∧ i = .int .i64 k ∧ CK W1 wr ∧ DevIn base wr D M mb (putK d xv (x.1, putL an lx x.2 (L.take k))) ∧ Below base w wr ∧ (k = 0 ∨ (k : Int) ≤ most)) (fun i _ => L.length - intOf i |>.toNat)
 case atStart => exact ⟨0, Nat.zero_le _, rfl, CK.refl _, by rw [List.take_zero]; show DevIn base W1 D M mb (putK d xv (x.1, x.2)); rw [putK_own HD.out.ok.sort (x := (x.1, x.2)) HV.out]; exact HD.out.gr G1.out, G1.out.below.mono hbase, .inl rfl⟩
 case round =>
  obtain ⟨k, hk, rfl, hck, hd, hb, hkm⟩ := hrel
  haveI kA := hck.block KA.out
  haveI k0 := hck.block K0.out
  haveI k1 := hck.block K1.out
  have y01 : wr.cell? ⟨b1_0, 1, none⟩ = some (.map (some (mb xv))) := (bc 1 k0).trans rfl
  have y10 : wr.cell? ⟨b1_1, 0, none⟩ = some (.int .i64 (an : Int)) := (bc 0 k1).trans rfl
  have HCK := hd_ hck
  have HDk := hd_ hd
  have HB := hd_ hb
  have HKM := hd_ hkm
  clear hck hd hb hkm
  by_cases hlt : k < L.length
  ·obtain ⟨s, hs⟩ : ∃ s, L[k]? = some s := ⟨_, List.getElem?_eq_getElem hlt⟩
   have hsa := HLA.out s (List.mem_of_getElem? hs)
   obtain ⟨sb, sf, st⟩ := s
   simp only at hsa
   have s0 : wr.cell? ⟨gS, k * 3, none⟩ = some (.int .i64 (sb : Int)) := HCK.out.cell (by have := HCL.out k _ hs 0 _ rfl; rwa [Nat.zero_add] at this)
   have s1 : wr.cell? ⟨gS, k * 3 + 1, none⟩ = some (.int .i64 (sf : Int)) := HCK.out.cell (by have := HCL.out k _ hs 1 _ rfl; rwa [Nat.zero_add] at this)
   have s2 : wr.cell? ⟨gS, k * 3 + 2, none⟩ = some (.int .i64 (st : Int)) := HCK.out.cell (by have := HCL.out k _ hs 2 _ rfl; rwa [Nat.zero_add] at this)
   haveI : Old gS wr := ⟨Nat.lt_of_lt_of_le hgl HCK.out.size⟩
   haveI o0 := k0.old
   haveI o1 := k1.old
   have HS := hd_ hs
   have hsf := hsa.1
   have hst := hsa.2.1
   have hsl := hsa.2.2.1
   have hsr := hsa.2.2.2
   clear hsa hs
   by_cases hmo : most ≤ (k : Int)
   ·have z0 : wr.cell? ⟨w.heap.size + 1, 0, none⟩ = some (.int .i64 0) := (bc 0 kA).trans rfl
    have z1 : wr.cell? ⟨w.heap.size + 1, 1, none⟩ = some (.int .i64 0) := (bc 1 kA).trans rfl
    have z2 : wr.cell? ⟨w.heap.size + 1, 2, none⟩ = some (.slice none 0 0) := (bc 2 kA).trans rfl
    haveI oA := kA.old
    have f0 : ∀ o, wr.frozen? ⟨w.heap.size + 1, o, none⟩ = false := fun o => @block_frozen _ _ o _ _ kA
    go_wp2
    ·have e1 : fullC most L.length = 8 := if_pos (by omega)
     have e2 : fullD most L.length = 0 := by unfold fullD; rw [if_pos (by omega)]; omega
     have e3 : most.toNat = k := by have := HKM.out; omega
     rw [e1, e2, e3]
     have gA : Gr wr (wr.alloc (.cells #[.int .i64 (sb : Int), .int .i64 (sf : Int), .int .i64 (st : Int)] 107)) := gri
     exact bodyPost_ret (run_resCell1 rfl _ _ _ _ rfl (ans_block (BlockAt.gr kA gA) _ _ _) Tryz.underlying38 rfl (by kernel_rfl)) rfl ⟨rfl, ans_dev (HDk.out.gr gA) (BlockAt.gr kA gA) (by decide) _ _ _, ans_below (HB.out.trans (gA.below.mono (Nat.le_trans hbase HB.out.size))) (by omega) _ _ _, ck_ans (((CK.gr G1.out).trans HCK.out).trans (CK.gr gA)) (by omega) _ _ _⟩
    ·have e1 : fullC most L.length = 8 := if_pos (by omega)
     have e2 : fullD most L.length = most := by unfold fullD; rw [if_pos (by omega)]; omega
     have e3 : most.toNat = k := by have := HKM.out; omega
     rw [e1, e2, e3]
     have gA : Gr wr (wr.alloc (.cells #[.int .i64 (sb : Int), .int .i64 (sf : Int), .int .i64 (st : Int)] 107)) := gri
     exact bodyPost_ret (run_resCell1 rfl _ _ _ _ rfl (ans_block (BlockAt.gr kA gA) _ _ _) Tryz.underlying38 rfl (by kernel_rfl)) rfl ⟨rfl, ans_dev (HDk.out.gr gA) (BlockAt.gr kA gA) (by decide) _ _ _, ans_below (HB.out.trans (gA.below.mono (Nat.le_trans hbase HB.out.size))) (by omega) _ _ _, ck_ans (((CK.gr G1.out).trans HCK.out).trans (CK.gr gA)) (by omega) _ _ _⟩
   ·have hvk : getK (putK d xv (x.1, putL an lx x.2 (L.take k))) xv = some (x.1, putL an lx x.2 (L.take k)) := getK_put_self HD.out.ok.sort _ _
    have hmk : MapAt .i64 wr (mb xv) (encK bkV (putL an lx x.2 (L.take k))) := HDk.out.vol _ ((getK_mem HDk.out.ok.sort).1 hvk)
    have hlb := look_blk hmk sb
    obtain ⟨m, hme⟩ : ∃ m, putL an lx x.2 (L.take k) = m := ⟨_, rfl⟩
    rw [hme] at hvk hmk hlb
    have hokm : VolOk (x.1, m) := by rw [← hme]; exact putL_ok _ HX.out (fun s hs => by have := HLA.out s (List.mem_of_mem_take hs); exact ⟨this.1, this.2.1, by omega⟩)
    have hl0 : (blkM m sb).length = 256 := blkM_len hokm.sort hokm.len sb
    have hsg : (segK ⟨sb, sf, st⟩ an lx).length = 64 * (st - sf) := by simp [segK, hxn]; omega
    have HVk := hd_ hvk
    have HMk := hd_ hmk
    have HME := hd_ hme
    have HOm := hd_ hokm
    have HSG := hd_ hsg
    have HL0 := hd_ hl0
    clear hvk hmk hme hokm hsg hl0
    obtain ⟨X, hX⟩ : ∃ X, mergeB (blkM m sb) sf (segK ⟨sb, sf, st⟩ an lx) = X := ⟨_, rfl⟩
    have HX' := hd_ hX
    clear hX
    have hput : putL an lx x.2 (L.take (k + 1)) = putK m sb X := by
     have e := HME.out
     have e2 := HX'.out
     subst e
     rw [List.take_add_one, HS.out]
     simp only [putL, List.foldl_append, Option.toList, List.foldl_cons, List.foldl_nil]
     simp only [putS]
     rw [← e2]
     rfl
    have hnext : Hid (∀ w4 w5, Gr (wr.alloc (.cells #[.int .i64 (sb : Int), .int .i64 (sf : Int), .int .i64 (st : Int)] 107)) w4 → MapAt .i64 w5 (mb xv) (encK bkV (putK m sb X)) → OnlyB w4 w5 (mb xv) → CK W1 w5 ∧ DevIn base w5 D M mb (putK d xv (x.1, putL an lx x.2 (L.take (k + 1)))) ∧ Below base w w5) := hd_ fun w4 w5 h4 hm5 ho5 => by
     have g4 : Gr wr w4 := Gr.trans gri h4
     have hm4 := HMk.out.gr g4
     have e := HDk.out
     rw [HME.out] at e
     have hd2 := (e.gr g4).inner xv _ HVk.out (putK m sb X) hm5 ho5 (by rw [← hput]; exact putL_ok _ HX.out (fun s hs => by have := HLA.out s (List.mem_of_mem_take hs); exact ⟨this.1, this.2.1, by omega⟩))
     rw [putK_putK _ _ _ _ HD.out.ok.sort] at hd2
     rw [hput]
     exact ⟨HCK.out.trans ((CK.gr g4).trans (CK.only hm4 ho5)), hd2, ho5.below (HD.out.bV (xv, x) ((getK_mem HD.out.ok.sort).1 HV.out)) hm4.lt (HB.out.trans (g4.below.mono (Nat.le_trans hbase HB.out.size)))⟩
    clear hput
    go_wp2
    refine wp_region_treeG ⟨fun w' => Gr (wr.alloc (.cells #[.int .i64 (sb : Int), .int .i64 (sf : Int), .int .i64 (st : Int)] 107)) w', true, fun _ _ h => h, fun _ _ _ h g => h.trans g⟩ rfl (Gr.of ((Below.refl _ _).drew)) [0, 1, 2, 3, 4, 5, 6, 7, 8, 9, 10, 11, 12, 13, 14] 6 20 (by kernel_rfl) (by kernel_rfl) ?_
    simp only [pick, List.drop, List.take, List.nil_append, List.cons_append]
    repeat (refine wpCalm_step (fun K hK => ?_); go_simp; first | (refine hK _ ?_; clear hK K) | (apply Exists.intro; refine ⟨fun _ => ?_, hK _ ?_⟩; (skip); clear hK K))
    refine wpCalm_nil ?_
    have hsne : segK ⟨sb, sf, st⟩ an lx ≠ [] := by
     intro e
     have := HSG.out
     rw [e] at this
     simp at this
     omega
    refine fg_one 15 (by kernel_rfl) ?_
    refine fg_effD rfl rfl rfl (fun w1 hw1 => effAt_call' 76 #[.agg #[.int .i64 (sb : Int), .int .i64 (sf : Int), .int .i64 (st : Int)], .int .i64 (an : Int), .slice (some ⟨B, p, none⟩) xn xq] (by go_simp) ((data_any sb sf st an xn xq B p lx w1 (by omega) hsf hst hsl (by omega) (by omega) (by omega) (by simp [hxn]) (by omega) ?hBw ?hcw).mono fun e w2 hc => ?_))
    case hBw => exact Nat.lt_of_lt_of_le hBl1 (Nat.le_trans HCK.out.size (Gr.below (Gr.trans gri hw1)).size)
    case hcw => exact fun j u hj => (CK.gr (Gr.trans gri hw1)).cell (HCK.out.cell (HDT.out j u hj))
    obtain ⟨v1, rfl, ho1, hg1⟩ := hc
    obtain ⟨A1, c1, rfl, hbA, hA1, hx1, hy1, hcl1, hz1⟩ := ho1.cells bIs hsne
    refine ⟨_, rfl, ⟨fun w2 => Gr (wr.alloc (.cells #[.int .i64 (sb : Int), .int .i64 (sf : Int), .int .i64 (st : Int)] 107)) w2 ∧ A1 < w2.heap.size ∧ ∀ (j : Nat) u, (segK ⟨sb, sf, st⟩ an lx)[j]? = some u → w2.cell? ⟨A1, 0 + j, none⟩ = some (bv u), true, fun _ _ h => h.1, fun _ _ _ h g => ⟨h.1.trans g, Nat.lt_of_lt_of_le h.2.1 g.below.size, fun j u hj => (g.below.cell (p := ⟨A1, 0 + j, none⟩) h.2.1).trans (h.2.2 j u hj)⟩⟩, ⟨Gr.trans hw1 hg1, hA1, fun j u hj => by have := hcl1 j u hj 0 _ rfl; simpa [bE] using this⟩, fun _ _ => rfl, ?_⟩
    rw [HSG.out]
    clear ho1 hg1 hw1 hA1 hcl1 hbA hx1 hy1 hz1 w2 w1
    simp only [Act.put, stA, List.set]
    refine fg_one 16 (by kernel_rfl) ?_
    refine fg_effD rfl rfl rfl (fun w1 hw1 => effAt_call' 75 #[.agg (bkC (blkM m sb)), .int .i64 (sf : Int), .slice (some ⟨A1, 0, none⟩) (64 * (st - sf)) c1] (by go_simp) ((merge_any (blkM m sb) (segK ⟨sb, sf, st⟩ an lx) sf (64 * (st - sf)) c1 A1 0 w1 HL0.out (by omega) HSG.out (by omega) (by omega) (by omega) hw1.2.1 hw1.2.2).mono fun e w2 hc => ?_))
    obtain ⟨rfl, hg1⟩ := hc
    refine ⟨_, rfl, ⟨fun w2 => Gr (wr.alloc (.cells #[.int .i64 (sb : Int), .int .i64 (sf : Int), .int .i64 (st : Int)] 107)) w2, true, fun _ _ h => h, fun _ _ _ h g => h.trans g⟩, Gr.trans hw1.1 hg1, fun _ _ => rfl, ?_⟩
    rw [HX'.out]
    clear hg1 hw1 w2 w1
    simp only [Act.put, stA, List.set]
    refine fg_one 17 (by kernel_rfl) ?_
    refine fg_pure (.tuple #[.agg (bkC X), .int .i64 0]) rfl rfl rfl (fun w => by go_simp) ?_
    simp only [Act.put, stA, List.set]
    refine fg_two 18 19 (by kernel_rfl) ?_ ?_
    ·refine fg_pure (.agg (bkC X)) rfl rfl rfl (fun w => by go_simp) ?_
     simp only [Act.put, stA, List.set]
     refine fg_two 19 20 (by kernel_rfl) ?_ ?_
     ·refine fg_pure (.int .i64 0) rfl rfl rfl (fun w => by go_simp) ?_
      simp only [Act.put, stA, List.set]
      refine fg_one 20 (by kernel_rfl) ?_
      refine fg_effN rfl rfl rfl (fun w1 hw1 => ?_)
      obtain ⟨W', hrun, h1, h2⟩ := map_update (P := Tryz.prog) Tryz.underlying62 Tryz.underlying3 (HMk.out.gr (Gr.trans gri hw1)) (sb : Int) (.agg (bkC X))
      refine effAt_updK rfl rfl rfl rfl hrun ?_
      refine ⟨⟨fun w2 => ∃ w1, Gr (wr.alloc (.cells #[.int .i64 (sb : Int), .int .i64 (sf : Int), .int .i64 (st : Int)] 107)) w1 ∧ MapAt .i64 w2 (mb xv) (encK bkV (putK m sb X)) ∧ OnlyB w1 w2 (mb xv), false, fun e => Bool.noConfusion e, fun e => Bool.noConfusion e⟩, ⟨w1, hw1, by rw [← putK_enc]; exact h1, h2⟩, fun e => absurd rfl e, ?_⟩
      clear h1 h2 hrun W' hw1 w1
      refine fg_end (by kernel_rfl) (fun w5 hw5 => ?_)
      obtain ⟨w4, hw4, hm5, ho5⟩ := hw5
      rename_i Kd hKd
      refine (show Kd _ _ from hKd _ _ ?_)
      have hn5 := hnext.out _ _ hw4 hm5 ho5
      clear hw4 hm5 ho5
      go_wp2
      go_roundw
      case rel => exact ⟨k + 1, by omega, by congr 1, hn5.1, hn5.2.1, hn5.2.2, .inr (by omega)⟩
      case measure => simp [intOf]; omega
     ·refine fg_effN rfl rfl rfl (fun w1 hw1 => ?_)
      obtain ⟨W', hrun, h1, h2⟩ := map_update (P := Tryz.prog) Tryz.underlying62 Tryz.underlying3 (HMk.out.gr (Gr.trans gri hw1)) (sb : Int) (.agg (bkC X))
      refine effAt_updK rfl rfl rfl rfl hrun ?_
      refine ⟨⟨fun w2 => ∃ w1, Gr (wr.alloc (.cells #[.int .i64 (sb : Int), .int .i64 (sf : Int), .int .i64 (st : Int)] 107)) w1 ∧ MapAt .i64 w2 (mb xv) (encK bkV (putK m sb X)) ∧ OnlyB w1 w2 (mb xv), false, fun e => Bool.noConfusion e, fun e => Bool.noConfusion e⟩, ⟨w1, hw1, by rw [← putK_enc]; exact h1, h2⟩, fun e => absurd rfl e, ?_⟩
      clear h1 h2 hrun W' hw1 w1
      refine fg_one 19 (by kernel_rfl) ?_
      refine fg_pure (.int .i64 0) rfl rfl rfl (fun w => by go_simp) ?_
      simp only [Act.put, stA, List.set]
      refine fg_end (by kernel_rfl) (fun w5 hw5 => ?_)
      obtain ⟨w4, hw4, hm5, ho5⟩ := hw5
      rename_i Kd hKd
      refine (show Kd _ _ from hKd _ _ ?_)
      have hn5 := hnext.out _ _ hw4 hm5 ho5
      clear hw4 hm5 ho5
      go_wp2
      go_roundw
      case rel => exact ⟨k + 1, by omega, by congr 1, hn5.1, hn5.2.1, hn5.2.2, .inr (by omega)⟩
      case measure => simp [intOf]; omega
    ·refine fg_pure (.int .i64 0) rfl rfl rfl (fun w => by go_simp) ?_
     simp only [Act.put, stA, List.set]
     refine fg_one 18 (by kernel_rfl) ?_
     refine fg_pure (.agg (bkC X)) rfl rfl rfl (fun w => by go_simp) ?_
     simp only [Act.put, stA, List.set]
     refine fg_one 20 (by kernel_rfl) ?_
     refine fg_effN rfl rfl rfl (fun w1 hw1 => ?_)
     obtain ⟨W', hrun, h1, h2⟩ := map_update (P := Tryz.prog) Tryz.underlying62 Tryz.underlying3 (HMk.out.gr (Gr.trans gri hw1)) (sb : Int) (.agg (bkC X))
     refine effAt_updK rfl rfl rfl rfl hrun ?_
     refine ⟨⟨fun w2 => ∃ w1, Gr (wr.alloc (.cells #[.int .i64 (sb : Int), .int .i64 (sf : Int), .int .i64 (st : Int)] 107)) w1 ∧ MapAt .i64 w2 (mb xv) (encK bkV (putK m sb X)) ∧ OnlyB w1 w2 (mb xv), false, fun e => Bool.noConfusion e, fun e => Bool.noConfusion e⟩, ⟨w1, hw1, by rw [← putK_enc]; exact h1, h2⟩, fun e => absurd rfl e, ?_⟩
     clear h1 h2 hrun W' hw1 w1
     refine fg_end (by kernel_rfl) (fun w5 hw5 => ?_)
     obtain ⟨w4, hw4, hm5, ho5⟩ := hw5
     rename_i Kd hKd
     refine (show Kd _ _ from hKd _ _ ?_)
     have hn5 := hnext.out _ _ hw4 hm5 ho5
     clear hw4 hm5 ho5
     go_wp2
     go_roundw
     case rel => exact ⟨k + 1, by omega, by congr 1, hn5.1, hn5.2.1, hn5.2.2, .inr (by omega)⟩
     case measure => simp [intOf]; omega
  ·have z0 : wr.cell? ⟨w.heap.size + 1, 0, none⟩ = some (.int .i64 0) := (bc 0 kA).trans rfl
   have z1 : wr.cell? ⟨w.heap.size + 1, 1, none⟩ = some (.int .i64 0) := (bc 1 kA).trans rfl
   have z2 : wr.cell? ⟨w.heap.size + 1, 2, none⟩ = some (.slice none 0 0) := (bc 2 kA).trans rfl
   haveI oA := kA.old
   have f0 : ∀ o, wr.frozen? ⟨w.heap.size + 1, o, none⟩ = false := fun o => @block_frozen _ _ o _ _ kA
   go_wp2
   have hkL : k = L.length := by omega
   have hL0 : 0 < L.length := by cases L with | nil => exact absurd rfl hLne | cons _ _ => simp
   have hkm : (k : Int) ≤ most := by have := HKM.out; omega
   have e1 : fullC most L.length = 0 := if_neg (by omega)
   have e2 : fullD most L.length = 0 := if_neg (by omega)
   have e3 : L.take most.toNat = L.take k := by rw [List.take_of_length_le (by omega), List.take_of_length_le (by omega)]
   rw [e1, e2, e3]
   exact bodyPost_ret (run_resCell1 rfl _ _ _ _ rfl (ans_block kA _ _ _) Tryz.underlying38 rfl (by kernel_rfl)) rfl ⟨rfl, ans_dev HDk.out kA (by decide) _ _ _, ans_below HB.out (by omega) _ _ _, ck_ans ((CK.gr G1.out).trans HCK.out) (by omega) _ _ _⟩
theorem put_6 (xv xt xs xa xc most : Int) (xD : Option Addr) (xn xq : Nat) (hn : xn ≤ 1000000) (base D : Nat) (d : Dev) (w : World) (h : DevAt base w D d) (hbase : base ≤ w.heap.size) (x : VolM) (hv : getK d xv = some x) (a0 : 0 ≤ xa) (a1 : xa ≤ 1048576) (c0 : 1 ≤ xc) (c1 : xc ≤ 1024) (hfit : ¬ 4 * x.1 < xa + xc) :
  Calls Tryz.prog 42 #[.pointer (some ⟨D, 0, none⟩), .agg #[.int .i64 6, .int .u64 xv, .int .u64 xt, .int .i64 xs, .int .i64 xa, .int .i64 xc, .slice xD xn xq], .int .i64 most] w (OpPost base D (putK d xv (x.1, putL xa.toNat (List.replicate (xc.toNat * 64) 0) x.2 ((spans xa.toNat xc.toNat).take most.toNat))) (fullC most (spans xa.toNat xc.toNat).length) (fullD most (spans xa.toNat xc.toNat).length) w) := by
 obtain ⟨M, mb, h⟩ := h
 haveI := h.blk
 have x0 : w.cell? ⟨D, 0, none⟩ = some (.map (some M)) := (bc 0 h.blk).trans rfl
 haveI : Old D w := h.blk.old
 have HD := hd_ h
 have hlk := look_vol1 h xv _ hv
 simp only [volV] at hlk
 have hx := h.ok.vols _ ((getK_mem h.ok.sort).1 hv)
 have hx0 := hx.s0
 have hx1 := hx.s1
 simp only at hx0 hx1
 have HX := hd_ hx
 have HV := hd_ hv
 clear h hv hx
 obtain ⟨an, rfl⟩ : ∃ n : Nat, xa = n := ⟨xa.toNat, by omega⟩
 rw [Int.toNat_natCast]
 obtain ⟨C, rfl⟩ : ∃ n : Nat, xc = n := ⟨xc.toNat, by omega⟩
 rw [Int.toNat_natCast]
 have HSp : Hid (∀ W, Calls Tryz.prog 74 #[.int .i64 (an : Int), .int .i64 (C : Int)] W fun e w' => ∃ v, e = .returned v ∧ OwnN spE W.heap.size w' v (spans an C) ∧ Gr W w') := hd_ (fun W => split_any an C (by omega) (by omega) (by omega) W)
 have hmk := fun W => makeB C (by omega) W
 have hC1 : 1 ≤ C := by omega
 have hC2 : C ≤ 1024 := by omega
 obtain ⟨L, hL⟩ : ∃ L, spans an C = L := ⟨_, rfl⟩
 have hLa : ∀ s ∈ L, s.f < s.t ∧ s.t ≤ 4 ∧ an ≤ 4 * s.b + s.f ∧ 4 * s.b + s.t ≤ an + C := by rw [← hL]; exact spans_all
 have hLn : L.length ≤ C := by rw [← hL]; exact spans_len an C
 have hLne : L ≠ [] := by rw [← hL, spans_cons an C (by omega)]; simp
 rw [hL] at HSp ⊢
 have HLA := hd_ hLa
 clear hL hLa
 go_enter Tryz.func42, Tryz.ntmps42
 go_wp2
 refine wp_region_all [0, 1, 2, 3, 4, 5, 6, 7, 8, 9] [10, 11] [12, 13] (by kernel_rfl) (by kernel_rfl) ?_
 simp only [pick, List.drop, List.take, List.nil_append, List.cons_append]
 repeat (refine wpCalm_step (fun K hK => ?_); go_simp; first | (refine hK _ ?_; clear hK K) | (apply Exists.intro; refine ⟨fun _ => ?_, hK _ ?_⟩; ((go_at_call 71; exact part_6 _ _ _ _ _ _ _ _ (by omega) _)); clear hK K))
 refine wpCalm_nil ?_
 refine ⟨_, _, _, allocOp_alloc rfl rfl Tryz.zeroValue64, fun b1_0 hb1_0 nb1_0 => ?_⟩
 refine ⟨_, _, _, allocOp_alloc rfl rfl Tryz.zeroValue148, fun b1_1 hb1_1 nb1_1 => ?_⟩
 have db1_1_0 : b1_0 ≠ b1_1 := nb1_1 (b1_0, _, _) mcs
 simp only [Act.put, stA, List.set]
 refine ⟨_, _, _, b1_0, #[.int .i64 0, .map none], _, #[.int .i64 x.1, .map (some (mb xv))], rfl, rfl, rfl, (List.mem_cons_of_mem _ mcs), ?hu, hb1_0, rfl, rfl, rfl, rfl, [(b1_0, #[.int .i64 x.1, .map (some (mb xv))], 64), (b1_1, #[.int .i64 0, .int .i64 0], 148)], ?hs, ?_⟩
 case hu =>
  intro z hz e
  rcases List.mem_cons.1 hz with rfl | hz
  ·exact absurd e db1_1_0.symm
  rcases List.mem_cons.1 hz with rfl | hz
  ·rfl
  cases hz
 case hs =>
  intro z
  constructor
  ·intro hz
   rcases List.mem_cons.1 hz with rfl | hz
   ·exact .inl rfl
   rcases List.mem_cons.1 hz with rfl | hz
   ·exact .inr ⟨mcs, db1_1_0.symm⟩
   cases hz
  ·rintro (rfl | ⟨hz, hne⟩)
   ·exact mcs
   rcases List.mem_cons.1 hz with rfl | hz
   ·exact (List.mem_cons_of_mem _ mcs)
   rcases List.mem_cons.1 hz with rfl | hz
   ·exact absurd rfl hne
   cases hz
 refine ⟨_, _, _, b1_1, #[.int .i64 0, .int .i64 0], _, #[.int .i64 (an : Int), .int .i64 ((C : Int))], rfl, rfl, rfl, (List.mem_cons_of_mem _ mcs), ?hu, hb1_1, rfl, rfl, rfl, rfl, [(b1_1, #[.int .i64 (an : Int), .int .i64 ((C : Int))], 148), (b1_0, #[.int .i64 x.1, .map (some (mb xv))], 64)], ?hs, ?_⟩
 case hu =>
  intro z hz e
  rcases List.mem_cons.1 hz with rfl | hz
  ·exact absurd e db1_1_0
  rcases List.mem_cons.1 hz with rfl | hz
  ·rfl
  cases hz
 case hs =>
  intro z
  constructor
  ·intro hz
   rcases List.mem_cons.1 hz with rfl | hz
   ·exact .inl rfl
   rcases List.mem_cons.1 hz with rfl | hz
   ·exact .inr ⟨mcs, db1_1_0⟩
   cases hz
  ·rintro (rfl | ⟨hz, hne⟩)
   ·exact mcs
   rcases List.mem_cons.1 hz with rfl | hz
   ·exact (List.mem_cons_of_mem _ mcs)
   rcases List.mem_cons.1 hz with rfl | hz
   ·exact absurd rfl hne
   cases hz
 intro w1 hw1
 have cb1_1 : ∀ o, w1.cell? ⟨b1_1, o, none⟩ = (#[.int .i64 (an : Int), .int .i64 ((C : Int))] : Array Value)[o]? := mix_cell hw1 mcs
 haveI kb1_1 : BlockAt w1 b1_1 #[.int .i64 (an : Int), .int .i64 ((C : Int))] 148 := ⟨hw1.2 _ mcs⟩
 have fb1_1 : ∀ o, w1.frozen? ⟨b1_1, o, none⟩ = false := mix_frozen hw1 mcs
 have ob1_1 : Old b1_1 w1 := mix_old hw1 mcs
 have cb1_0 : ∀ o, w1.cell? ⟨b1_0, o, none⟩ = (#[.int .i64 x.1, .map (some (mb xv))] : Array Value)[o]? := mix_cell hw1 (List.mem_cons_of_mem _ mcs)
 haveI kb1_0 : BlockAt w1 b1_0 #[.int .i64 x.1, .map (some (mb xv))] 64 := ⟨hw1.2 _ (List.mem_cons_of_mem _ mcs)⟩
 have fb1_0 : ∀ o, w1.frozen? ⟨b1_0, o, none⟩ = false := mix_frozen hw1 (List.mem_cons_of_mem _ mcs)
 have ob1_0 : Old b1_0 w1 := mix_old hw1 (List.mem_cons_of_mem _ mcs)
 have qb1_0 := @fresh_ne _ _ hb1_0
 have rb1_0 := @fresh_en _ _ hb1_0
 have lb1_0 := fresh_le hb1_0 w.heap.size
 have qb1_1 := @fresh_ne _ _ hb1_1
 have rb1_1 := @fresh_en _ _ hb1_1
 have lb1_1 := fresh_le hb1_1 w.heap.size
 have eb1_1_0 : ¬ b1_1 = b1_0 := fun e => db1_1_0 e.symm
 obtain ⟨⟨g1, rfl⟩, hbs⟩ := hw1
 clear hbs nb1_0 nb1_1
 have hMl : M < w.heap.size := HD.out.all.lt
 go_wp2_with ((go_at_call 74; ((with_reducible refine (HSp.out _).mono ?_))))
 rintro _ W1 ⟨vS, rfl, hoS, hgS⟩
 have hgW : Gr w W1 := Gr.trans gri hgS
 have KA := hd_ (BlockAt.gr (inferInstance : BlockAt _ (w.heap.size + 1) _ _) hgS)
 have K0 := hd_ (BlockAt.gr (inferInstance : BlockAt _ b1_0 _ _) hgS)
 have K1 := hd_ (BlockAt.gr (inferInstance : BlockAt _ b1_1 _ _) hgS)
 have hBB := BlockAt.gr (blockAt_new (grown ((w.alloc (.cells #[.int .i64 6, .int .u64 xv, .int .u64 xt, .int .i64 xs, .int .i64 (an : Int), .int .i64 (C : Int), .slice xD xn xq] 27)).alloc (.cells #[.int .i64 0, .int .i64 0, .slice none 0 0] 38)) g1) (bkC (List.replicate (C * 64) 0)) 5 _) hgS
 obtain ⟨B, hBe⟩ : ∃ B, (grown ((w.alloc (.cells #[.int .i64 6, .int .u64 xv, .int .u64 xt, .int .i64 xs, .int .i64 (an : Int), .int .i64 (C : Int), .slice xD xn xq] 27)).alloc (.cells #[.int .i64 0, .int .i64 0, .slice none 0 0] 38)) g1).heap.size = B := ⟨_, rfl⟩
 rw [hBe] at hBB ⊢
 obtain ⟨gS, cS, rfl, hbS, hgl, _, _, hclS, _⟩ := hoS.cells spIs hLne
 have hBl1 : B < W1.heap.size := hBB.lt
 have HDT : Hid (∀ (j : Nat) u, (List.replicate (C * 64) 0)[j]? = some u → W1.cell? ⟨B, 0 + j, none⟩ = some (bv u)) := hd_ (fun j u hj => by rw [bc _ hBB]; simpa using bkC_at hj)
 have G1 := hd_ hgW
 have HCL := hd_ hclS
 have HML := hd_ hMl
 clear hoS hgS hclS hgW hMl
 clear ob1_0 ob1_1 cb1_0 cb1_1 fb1_0 fb1_1 kb1_0 kb1_1
 go_wp2
 go_loopw [37] (fun i wr => ∃ k : Nat, k ≤ L.length ∧ i = .int .i64 k ∧ CK W1 wr ∧ DevIn base wr D M mb (putK d xv (x.1, putL an (List.replicate (C * 64) 0) x.2 (L.take k))) ∧ Below base w wr ∧ (k = 0 ∨ (k : Int) ≤ most)) (fun i _ => L.length - intOf i |>.toNat)
 case atStart => exact ⟨0, Nat.zero_le _, rfl, CK.refl _, by rw [List.take_zero]; show DevIn base W1 D M mb (putK d xv (x.1, x.2)); rw [putK_own HD.out.ok.sort (x := (x.1, x.2)) HV.out]; exact HD.out.gr G1.out, G1.out.below.mono hbase, .inl rfl⟩
 case round =>
  obtain ⟨k, hk, rfl, hck, hd, hb, hkm⟩ := hrel
  haveI kA := hck.block KA.out
  haveI k0 := hck.block K0.out
  haveI k1 := hck.block K1.out
  have y01 : wr.cell? ⟨b1_0, 1, none⟩ = some (.map (some (mb xv))) := (bc 1 k0).trans rfl
  have y10 : wr.cell? ⟨b1_1, 0, none⟩ = some (.int .i64 (an : Int)) := (bc 0 k1).trans rfl
  have HCK := hd_ hck
  have HDk := hd_ hd
  have HB := hd_ hb
  have HKM := hd_ hkm
  clear hck hd hb hkm
  by_cases hlt : k < L.length
  ·obtain ⟨s, hs⟩ : ∃ s, L[k]? = some s := ⟨_, List.getElem?_eq_getElem hlt⟩
   have hsa := HLA.out s (List.mem_of_getElem? hs)
   obtain ⟨sb, sf, st⟩ := s
   simp only at hsa
   have s0 : wr.cell? ⟨gS, k * 3, none⟩ = some (.int .i64 (sb : Int)) := HCK.out.cell (by have := HCL.out k _ hs 0 _ rfl; rwa [Nat.zero_add] at this)
   have s1 : wr.cell? ⟨gS, k * 3 + 1, none⟩ = some (.int .i64 (sf : Int)) := HCK.out.cell (by have := HCL.out k _ hs 1 _ rfl; rwa [Nat.zero_add] at this)
   have s2 : wr.cell? ⟨gS, k * 3 + 2, none⟩ = some (.int .i64 (st : Int)) := HCK.out.cell (by have := HCL.out k _ hs 2 _ rfl; rwa [Nat.zero_add] at this)
   haveI : Old gS wr := ⟨Nat.lt_of_lt_of_le hgl HCK.out.size⟩
   haveI o0 := k0.old
   haveI o1 := k1.old
   have HS := hd_ hs
   have hsf := hsa.1
   have hst := hsa.2.1
   have hsl := hsa.2.2.1
   have hsr := hsa.2.2.2
   clear hsa hs
   by_cases hmo : most ≤ (k : Int)
   ·have z0 : wr.cell? ⟨w.heap.size + 1, 0, none⟩ = some (.int .i64 0) := (bc 0 kA).trans rfl
    have z1 : wr.cell? ⟨w.heap.size + 1, 1, none⟩ = some (.int .i64 0) := (bc 1 kA).trans rfl
    have z2 : wr.cell? ⟨w.heap.size + 1, 2, none⟩ = some (.slice none 0 0) := (bc 2 kA).trans rfl
    haveI oA := kA.old
    have f0 : ∀ o, wr.frozen? ⟨w.heap.size + 1, o, none⟩ = false := fun o => @block_frozen _ _ o _ _ kA
    go_wp2
    ·have e1 : fullC most L.length = 8 := if_pos (by omega)
     have e2 : fullD most L.length = 0 := by unfold fullD; rw [if_pos (by omega)]; omega
     have e3 : most.toNat = k := by have := HKM.out; omega
     rw [e1, e2, e3]
     have gA : Gr wr (wr.alloc (.cells #[.int .i64 (sb : Int), .int .i64 (sf : Int), .int .i64 (st : Int)] 107)) := gri
     exact bodyPost_ret (run_resCell1 rfl _ _ _ _ rfl (ans_block (BlockAt.gr kA gA) _ _ _) Tryz.underlying38 rfl (by kernel_rfl)) rfl ⟨rfl, ans_dev (HDk.out.gr gA) (BlockAt.gr kA gA) (by decide) _ _ _, ans_below (HB.out.trans (gA.below.mono (Nat.le_trans hbase HB.out.size))) (by omega) _ _ _, ck_ans (((CK.gr G1.out).trans HCK.out).trans (CK.gr gA)) (by omega) _ _ _⟩
    ·have e1 : fullC most L.length = 8 := if_pos (by omega)
     have e2 : fullD most L.length = most := by unfold fullD; rw [if_pos (by omega)]; omega
     have e3 : most.toNat = k := by have := HKM.out; omega
     rw [e1, e2, e3]
     have gA : Gr wr (wr.alloc (.cells #[.int .i64 (sb : Int), .int .i64 (sf : Int), .int .i64 (st : Int)] 107)) := gri
     exact bodyPost_ret (run_resCell1 rfl _ _ _ _ rfl (ans_block (BlockAt.gr kA gA) _ _ _) Tryz.underlying38 rfl (by kernel_rfl)) rfl ⟨rfl, ans_dev (HDk.out.gr gA) (BlockAt.gr kA gA) (by decide) _ _ _, ans_below (HB.out.trans (gA.below.mono (Nat.le_trans hbase HB.out.size))) (by omega) _ _ _, ck_ans (((CK.gr G1.out).trans HCK.out).trans (CK.gr gA)) (by omega) _ _ _⟩
   ·have hvk : getK (putK d xv (x.1, putL an (List.replicate (C * 64) 0) x.2 (L.take k))) xv = some (x.1, putL an (List.replicate (C * 64) 0) x.2 (L.take k)) := getK_put_self HD.out.ok.sort _ _
    have hmk : MapAt .i64 wr (mb xv) (encK bkV (putL an (List.replicate (C * 64) 0) x.2 (L.take k))) := HDk.out.vol _ ((getK_mem HDk.out.ok.sort).1 hvk)
    have hlb := look_blk hmk sb
    obtain ⟨m, hme⟩ : ∃ m, putL an (List.replicate (C * 64) 0) x.2 (L.take k) = m := ⟨_, rfl⟩
    rw [hme] at hvk hmk hlb
    have hokm : VolOk (x.1, m) := by rw [← hme]; exact putL_ok _ HX.out (fun s hs => by have := HLA.out s (List.mem_of_mem_take hs); exact ⟨this.1, this.2.1, by omega⟩)
    have hl0 : (blkM m sb).length = 256 := blkM_len hokm.sort hokm.len sb
    have hsg : (segK ⟨sb, sf, st⟩ an (List.replicate (C * 64) 0)).length = 64 * (st - sf) := by simp [segK, List.length_replicate]; omega
    have HVk := hd_ hvk
    have HMk := hd_ hmk
    have HME := hd_ hme
    have HOm := hd_ hokm
    have HSG := hd_ hsg
    have HL0 := hd_ hl0
    clear hvk hmk hme hokm hsg hl0
    obtain ⟨X, hX⟩ : ∃ X, mergeB (blkM m sb) sf (segK ⟨sb, sf, st⟩ an (List.replicate (C * 64) 0)) = X := ⟨_, rfl⟩
    have HX' := hd_ hX
    clear hX
    have hput : putL an (List.replicate (C * 64) 0) x.2 (L.take (k + 1)) = putK m sb X := by
     have e := HME.out
     have e2 := HX'.out
     subst e
     rw [List.take_add_one, HS.out]
     simp only [putL, List.foldl_append, Option.toList, List.foldl_cons, List.foldl_nil]
     simp only [putS]
     rw [← e2]
     rfl
    have hnext : Hid (∀ w4 w5, Gr (wr.alloc (.cells #[.int .i64 (sb : Int), .int .i64 (sf : Int), .int .i64 (st : Int)] 107)) w4 → MapAt .i64 w5 (mb xv) (encK bkV (putK m sb X)) → OnlyB w4 w5 (mb xv) → CK W1 w5 ∧ DevIn base w5 D M mb (putK d xv (x.1, putL an (List.replicate (C * 64) 0) x.2 (L.take (k + 1)))) ∧ Below base w w5) := hd_ fun w4 w5 h4 hm5 ho5 => by
     have g4 : Gr wr w4 := Gr.trans gri h4
     have hm4 := HMk.out.gr g4
     have e := HDk.out
     rw [HME.out] at e
     have hd2 := (e.gr g4).inner xv _ HVk.out (putK m sb X) hm5 ho5 (by rw [← hput]; exact putL_ok _ HX.out (fun s hs => by have := HLA.out s (List.mem_of_mem_take hs); exact ⟨this.1, this.2.1, by omega⟩))
     rw [putK_putK _ _ _ _ HD.out.ok.sort] at hd2
     rw [hput]
     exact ⟨HCK.out.trans ((CK.gr g4).trans (CK.only hm4 ho5)), hd2, ho5.below (HD.out.bV (xv, x) ((getK_mem HD.out.ok.sort).1 HV.out)) hm4.lt (HB.out.trans (g4.below.mono (Nat.le_trans hbase HB.out.size)))⟩
    clear hput
    go_wp2
    refine wp_region_treeG ⟨fun w' => Gr (wr.alloc (.cells #[.int .i64 (sb : Int), .int .i64 (sf : Int), .int .i64 (st : Int)] 107)) w', true, fun _ _ h => h, fun _ _ _ h g => h.trans g⟩ rfl (Gr.of ((Below.refl _ _).drew)) [0, 1, 2, 3, 4, 5, 6, 7, 8, 9, 10, 11, 12, 13, 14] 6 20 (by kernel_rfl) (by kernel_rfl) ?_
    simp only [pick, List.drop, List.take, List.nil_append, List.cons_append]
    repeat (refine wpCalm_step (fun K hK => ?_); go_simp; first | (refine hK _ ?_; clear hK K) | (apply Exists.intro; refine ⟨fun _ => ?_, hK _ ?_⟩; (skip); clear hK K))
    refine wpCalm_nil ?_
    have hsne : segK ⟨sb, sf, st⟩ an (List.replicate (C * 64) 0) ≠ [] := by
     intro e
     have := HSG.out
     rw [e] at this
     simp at this
     omega
    refine fg_one 15 (by kernel_rfl) ?_
    refine fg_effD rfl rfl rfl (fun w1 hw1 => effAt_call' 76 #[.agg #[.int .i64 (sb : Int), .int .i64 (sf : Int), .int .i64 (st : Int)], .int .i64 (an : Int), .slice (some ⟨B, 0, none⟩) (C * 64) (C * 64)] (by go_simp) ((data_any sb sf st an (C * 64) (C * 64) B 0 (List.replicate (C * 64) 0) w1 (by omega) hsf hst hsl (by omega) (by omega) (by omega) (by simp [List.length_replicate]) (by omega) ?hBw ?hcw).mono fun e w2 hc => ?_))
    case hBw => exact Nat.lt_of_lt_of_le hBl1 (Nat.le_trans HCK.out.size (Gr.below (Gr.trans gri hw1)).size)
    case hcw => exact fun j u hj => (CK.gr (Gr.trans gri hw1)).cell (HCK.out.cell (HDT.out j u hj))
    obtain ⟨v1, rfl, ho1, hg1⟩ := hc
    obtain ⟨A1, c1, rfl, hbA, hA1, hx1, hy1, hcl1, hz1⟩ := ho1.cells bIs hsne
    refine ⟨_, rfl, ⟨fun w2 => Gr (wr.alloc (.cells #[.int .i64 (sb : Int), .int .i64 (sf : Int), .int .i64 (st : Int)] 107)) w2 ∧ A1 < w2.heap.size ∧ ∀ (j : Nat) u, (segK ⟨sb, sf, st⟩ an (List.replicate (C * 64) 0))[j]? = some u → w2.cell? ⟨A1, 0 + j, none⟩ = some (bv u), true, fun _ _ h => h.1, fun _ _ _ h g => ⟨h.1.trans g, Nat.lt_of_lt_of_le h.2.1 g.below.size, fun j u hj => (g.below.cell (p := ⟨A1, 0 + j, none⟩) h.2.1).trans (h.2.2 j u hj)⟩⟩, ⟨Gr.trans hw1 hg1, hA1, fun j u hj => by have := hcl1 j u hj 0 _ rfl; simpa [bE] using this⟩, fun _ _ => rfl, ?_⟩
    rw [HSG.out]
    clear ho1 hg1 hw1 hA1 hcl1 hbA hx1 hy1 hz1 w2 w1
    simp only [Act.put, stA, List.set]
    refine fg_one 16 (by kernel_rfl) ?_
    refine fg_effD rfl rfl rfl (fun w1 hw1 => effAt_call' 75 #[.agg (bkC (blkM m sb)), .int .i64 (sf : Int), .slice (some ⟨A1, 0, none⟩) (64 * (st - sf)) c1] (by go_simp) ((merge_any (blkM m sb) (segK ⟨sb, sf, st⟩ an (List.replicate (C * 64) 0)) sf (64 * (st - sf)) c1 A1 0 w1 HL0.out (by omega) HSG.out (by omega) (by omega) (by omega) hw1.2.1 hw1.2.2).mono fun e w2 hc => ?_))
    obtain ⟨rfl, hg1⟩ := hc
    refine ⟨_, rfl, ⟨fun w2 => Gr (wr.alloc (.cells #[.int .i64 (sb : Int), .int .i64 (sf : Int), .int .i64 (st : Int)] 107)) w2, true, fun _ _ h => h, fun _ _ _ h g => h.trans g⟩, Gr.trans hw1.1 hg1, fun _ _ => rfl, ?_⟩
    rw [HX'.out]
    clear hg1 hw1 w2 w1
    simp only [Act.put, stA, List.set]
    refine fg_one 17 (by kernel_rfl) ?_
    refine fg_pure (.tuple #[.agg (bkC X), .int .i64 0]) rfl rfl rfl (fun w => by go_simp) ?_
    simp only [Act.put, stA, List.set]
    refine fg_two 18 19 (by kernel_rfl) ?_ ?_
    ·refine fg_pure (.agg (bkC X)) rfl rfl rfl (fun w => by go_simp) ?_
     simp only [Act.put, stA, List.set]
     refine fg_two 19 20 (by kernel_rfl) ?_ ?_
     ·refine fg_pure (.int .i64 0) rfl rfl rfl (fun w => by go_simp) ?_
      simp only [Act.put, stA, List.set]
      refine fg_one 20 (by kernel_rfl) ?_
      refine fg_effN rfl rfl rfl (fun w1 hw1 => ?_)
      obtain ⟨W', hrun, h1, h2⟩ := map_update (P := Tryz.prog) Tryz.underlying62 Tryz.underlying3 (HMk.out.gr (Gr.trans gri hw1)) (sb : Int) (.agg (bkC X))
      refine effAt_updK rfl rfl rfl rfl hrun ?_
      refine ⟨⟨fun w2 => ∃ w1, Gr (wr.alloc (.cells #[.int .i64 (sb : Int), .int .i64 (sf : Int), .int .i64 (st : Int)] 107)) w1 ∧ MapAt .i64 w2 (mb xv) (encK bkV (putK m sb X)) ∧ OnlyB w1 w2 (mb xv), false, fun e => Bool.noConfusion e, fun e => Bool.noConfusion e⟩, ⟨w1, hw1, by rw [← putK_enc]; exact h1, h2⟩, fun e => absurd rfl e, ?_⟩
      clear h1 h2 hrun W' hw1 w1
      refine fg_end (by kernel_rfl) (fun w5 hw5 => ?_)
      obtain ⟨w4, hw4, hm5, ho5⟩ := hw5
      rename_i Kd hKd
      refine (show Kd _ _ from hKd _ _ ?_)
      have hn5 := hnext.out _ _ hw4 hm5 ho5
      clear hw4 hm5 ho5
      go_wp2
      go_roundw
      case rel => exact ⟨k + 1, by omega, by congr 1, hn5.1, hn5.2.1, hn5.2.2, .inr (by omega)⟩
      case measure => simp [intOf]; omega
     ·refine fg_effN rfl rfl rfl (fun w1 hw1 => ?_)
      obtain ⟨W', hrun, h1, h2⟩ := map_update (P := Tryz.prog) Tryz.underlying62 Tryz.underlying3 (HMk.out.gr (Gr.trans gri hw1)) (sb : Int) (.agg (bkC X))
      refine effAt_updK rfl rfl rfl rfl hrun ?_
      refine ⟨⟨fun w2 => ∃ w1, Gr (wr.alloc (.cells #[.int .i64 (sb : Int), .int .i64 (sf : Int), .int .i64 (st : Int)] 107)) w1 ∧ MapAt .i64 w2 (mb xv) (encK bkV (putK m sb X)) ∧ OnlyB w1 w2 (mb xv), false, fun e => Bool.noConfusion e, fun e => Bool.noConfusion e⟩, ⟨w1, hw1, by rw [← putK_enc]; exact h1, h2⟩, fun e => absurd rfl e, ?_⟩
      clear h1 h2 hrun W' hw1 w1
      refine fg_one 19 (by kernel_rfl) ?_
      refine fg_pure (.int .i64 0) rfl rfl rfl (fun w => by go_simp) ?_
      simp only [Act.put, stA, List.set]
      refine fg_end (by kernel_rfl) (fun w5 hw5 => ?_)
      obtain ⟨w4, hw4, hm5, ho5⟩ := hw5
      rename_i Kd hKd
      refine (show Kd _ _ from hKd _ _ ?_)
      have hn5 := hnext.out _ _ hw4 hm5 ho5
      clear hw4 hm5 ho5
      go_wp2
      go_roundw
      case rel => exact ⟨k + 1, by omega, by congr 1, hn5.1, hn5.2.1, hn5.2.2, .inr (by omega)⟩
      case measure => simp [intOf]; omega
    ·refine fg_pure (.int .i64 0) rfl rfl rfl (fun w => by go_simp) ?_
     simp only [Act.put, stA, List.set]
     refine fg_one 18 (by kernel_rfl) ?_
     refine fg_pure (.agg (bkC X)) rfl rfl rfl (fun w => by go_simp) ?_
     simp only [Act.put, stA, List.set]
     refine fg_one 20 (by kernel_rfl) ?_
     refine fg_effN rfl rfl rfl (fun w1 hw1 => ?_)
     obtain ⟨W', hrun, h1, h2⟩ := map_update (P := Tryz.prog) Tryz.underlying62 Tryz.underlying3 (HMk.out.gr (Gr.trans gri hw1)) (sb : Int) (.agg (bkC X))
     refine effAt_updK rfl rfl rfl rfl hrun ?_
     refine ⟨⟨fun w2 => ∃ w1, Gr (wr.alloc (.cells #[.int .i64 (sb : Int), .int .i64 (sf : Int), .int .i64 (st : Int)] 107)) w1 ∧ MapAt .i64 w2 (mb xv) (encK bkV (putK m sb X)) ∧ OnlyB w1 w2 (mb xv), false, fun e => Bool.noConfusion e, fun e => Bool.noConfusion e⟩, ⟨w1, hw1, by rw [← putK_enc]; exact h1, h2⟩, fun e => absurd rfl e, ?_⟩
     clear h1 h2 hrun W' hw1 w1
     refine fg_end (by kernel_rfl) (fun w5 hw5 => ?_)
     obtain ⟨w4, hw4, hm5, ho5⟩ := hw5
     rename_i Kd hKd
     refine (show Kd _ _ from hKd _ _ ?_)
     have hn5 := hnext.out _ _ hw4 hm5 ho5
     clear hw4 hm5 ho5
     go_wp2
     go_roundw
     case rel => exact ⟨k + 1, by omega, by congr 1, hn5.1, hn5.2.1, hn5.2.2, .inr (by omega)⟩
     case measure => simp [intOf]; omega
  ·have z0 : wr.cell? ⟨w.heap.size + 1, 0, none⟩ = some (.int .i64 0) := (bc 0 kA).trans rfl
   have z1 : wr.cell? ⟨w.heap.size + 1, 1, none⟩ = some (.int .i64 0) := (bc 1 kA).trans rfl
   have z2 : wr.cell? ⟨w.heap.size + 1, 2, none⟩ = some (.slice none 0 0) := (bc 2 kA).trans rfl
   haveI oA := kA.old
   have f0 : ∀ o, wr.frozen? ⟨w.heap.size + 1, o, none⟩ = false := fun o => @block_frozen _ _ o _ _ kA
   go_wp2
   have hkL : k = L.length := by omega
   have hL0 : 0 < L.length := by cases L with | nil => exact absurd rfl hLne | cons _ _ => simp
   have hkm : (k : Int) ≤ most := by have := HKM.out; omega
   have e1 : fullC most L.length = 0 := if_neg (by omega)
   have e2 : fullD most L.length = 0 := if_neg (by omega)
   have e3 : L.take most.toNat = L.take k := by rw [List.take_of_length_le (by omega), List.take_of_length_le (by omega)]
   rw [e1, e2, e3]
   exact bodyPost_ret (run_resCell1 rfl _ _ _ _ rfl (ans_block kA _ _ _) Tryz.underlying38 rfl (by kernel_rfl)) rfl ⟨rfl, ans_dev HDk.out kA (by decide) _ _ _, ans_below HB.out (by omega) _ _ _, ck_ans ((CK.gr G1.out).trans HCK.out) (by omega) _ _ _⟩
@[go_sem] theorem eqMapB (m : Option Nat) (w : World) : (binOp .eql 62 (.map m) (.map none)).run Tryz.prog w = .ok (.bool m.isNone) w := by
 have := run_eql_map_nil (P := Tryz.prog) w 62 _ _ m Tryz.underlying62
 simpa using this
@[go_sem] theorem taMapB (m : Option Nat) (w : World) : (Instr.typeAssert (.iface 62 (.map m)) 20 62 false).run Tryz.prog w = .ok (.map m) w := by kernel_rfl
theorem cloneMap_any (b : Nat) (L : List (Int × Value)) (w : World) (h : MapAt .i64 w b L) : Calls Tryz.prog 59 #[.map (some b)] w fun e w' => e = .returned (.map (some w.heap.size)) ∧ MapAt .i64 w' w.heap.size L ∧ Gr w w' := by
 obtain ⟨h1, h2⟩ := map_clone (P := Tryz.prog) h 62
 have hc := run_callFunc_extern Tryz.func90 (by kernel_rfl) (by kernel_rfl) (by kernel_rfl) (e := Extern.MapsClone.clone) (by kernel_rfl) #[.iface 62 (.map (some b))] w
 rw [h1] at hc
 simp only [Result.andThen] at hc
 have hg : Gr w (w.alloc (w.heap[b]?.getD default)) := Gr.of (below_alloc (Below.refl _ _) _)
 generalize w.alloc (w.heap[b]?.getD default) = W2 at *
 have H := hd_ h2
 have HG := hd_ hg
 clear h1 h2 hg
 go_enter Tryz.func59, Tryz.ntmps59
 go_wp2
 go_ret
 exact ⟨rfl, H.out, HG.out⟩
theorem snap_any (xv xt xs xa xc most : Int) (xD : Option Addr) (xn xq : Nat) (hn : xn ≤ 1000000) (base D : Nat) (d : Dev) (w : World) (h : DevAt base w D d) (hbase : base ≤ w.heap.size) (x : VolM) (hv : getK d xv = some x) (hok : DevOk (putK d xt x)) :
  Calls Tryz.prog 41 #[.pointer (some ⟨D, 0, none⟩), .agg #[.int .i64 4, .int .u64 xv, .int .u64 xt, .int .i64 xs, .int .i64 xa, .int .i64 xc, .slice xD xn xq], .int .i64 most] w (OpPost base D (putK d xt x) 0 0 w) := by
 obtain ⟨M, mb, h⟩ := h
 haveI := h.blk
 have x0 : w.cell? ⟨D, 0, none⟩ = some (.map (some M)) := (bc 0 h.blk).trans rfl
 haveI : Old D w := h.blk.old
 have HD := hd_ h
 have HOK := hd_ hok
 have hlk := look_vol1 h xv _ hv
 simp only [volV] at hlk
 have HM := hd_ (h.vol _ ((getK_mem h.ok.sort).1 hv))
 clear h hok hv
 go_enter Tryz.func41, Tryz.ntmps41
 go_wp2
 refine wp_region_all [0, 1, 2, 3, 4, 5, 6, 7, 8, 9] [10, 11] [12, 13] (by kernel_rfl) (by kernel_rfl) ?_
 simp only [pick, List.drop, List.take, List.nil_append, List.cons_append]
 repeat (refine wpCalm_step (fun K hK => ?_); go_simp; first | (refine hK _ ?_; clear hK K) | (apply Exists.intro; refine ⟨fun _ => ?_, hK _ ?_⟩; ((go_at_call 71; exact part_4 _ _ _ _ _ _ _ _ (by omega) _)); clear hK K))
 refine wpCalm_nil ?_
 refine ⟨_, _, _, allocOp_alloc rfl rfl Tryz.zeroValue64, fun b1_0 hb1_0 nb1_0 => ?_⟩
 refine ⟨_, _, _, allocOp_alloc rfl rfl Tryz.zeroValue146, fun b1_1 hb1_1 nb1_1 => ?_⟩
 have db1_1_0 : b1_0 ≠ b1_1 := nb1_1 (b1_0, _, _) mcs
 simp only [Act.put, stA, List.set]
 refine ⟨_, _, _, b1_0, #[.int .i64 0, .map none], _, #[.int .i64 x.1, .map (some (mb xv))], rfl, rfl, rfl, (List.mem_cons_of_mem _ mcs), ?hu, hb1_0, rfl, rfl, rfl, rfl, [(b1_0, #[.int .i64 x.1, .map (some (mb xv))], 64), (b1_1, #[.int .u64 0, .int .u64 0], 146)], ?hs, ?_⟩
 case hu =>
  intro z hz e
  rcases List.mem_cons.1 hz with rfl | hz
  ·exact absurd e db1_1_0.symm
  rcases List.mem_cons.1 hz with rfl | hz
  ·rfl
  cases hz
 case hs =>
  intro z
  constructor
  ·intro hz
   rcases List.mem_cons.1 hz with rfl | hz
   ·exact .inl rfl
   rcases List.mem_cons.1 hz with rfl | hz
   ·exact .inr ⟨mcs, db1_1_0.symm⟩
   cases hz
  ·rintro (rfl | ⟨hz, hne⟩)
   ·exact mcs
   rcases List.mem_cons.1 hz with rfl | hz
   ·exact (List.mem_cons_of_mem _ mcs)
   rcases List.mem_cons.1 hz with rfl | hz
   ·exact absurd rfl hne
   cases hz
 refine ⟨_, _, _, b1_1, #[.int .u64 0, .int .u64 0], _, #[.int .u64 xv, .int .u64 xt], rfl, rfl, rfl, (List.mem_cons_of_mem _ mcs), ?hu, hb1_1, rfl, rfl, rfl, rfl, [(b1_1, #[.int .u64 xv, .int .u64 xt], 146), (b1_0, #[.int .i64 x.1, .map (some (mb xv))], 64)], ?hs, ?_⟩
 case hu =>
  intro z hz e
  rcases List.mem_cons.1 hz with rfl | hz
  ·exact absurd e db1_1_0
  rcases List.mem_cons.1 hz with rfl | hz
  ·rfl
  cases hz
 case hs =>
  intro z
  constructor
  ·intro hz
   rcases List.mem_cons.1 hz with rfl | hz
   ·exact .inl rfl
   rcases List.mem_cons.1 hz with rfl | hz
   ·exact .inr ⟨mcs, db1_1_0⟩
   cases hz
  ·rintro (rfl | ⟨hz, hne⟩)
   ·exact mcs
   rcases List.mem_cons.1 hz with rfl | hz
   ·exact (List.mem_cons_of_mem _ mcs)
   rcases List.mem_cons.1 hz with rfl | hz
   ·exact absurd rfl hne
   cases hz
 intro w1 hw1
 have cb1_1 : ∀ o, w1.cell? ⟨b1_1, o, none⟩ = (#[.int .u64 xv, .int .u64 xt] : Array Value)[o]? := mix_cell hw1 mcs
 have fb1_1 : ∀ o, w1.frozen? ⟨b1_1, o, none⟩ = false := mix_frozen hw1 mcs
 have ob1_1 : Old b1_1 w1 := mix_old hw1 mcs
 have cb1_0 : ∀ o, w1.cell? ⟨b1_0, o, none⟩ = (#[.int .i64 x.1, .map (some (mb xv))] : Array Value)[o]? := mix_cell hw1 (List.mem_cons_of_mem _ mcs)
 have fb1_0 : ∀ o, w1.frozen? ⟨b1_0, o, none⟩ = false := mix_frozen hw1 (List.mem_cons_of_mem _ mcs)
 have ob1_0 : Old b1_0 w1 := mix_old hw1 (List.mem_cons_of_mem _ mcs)
 have qb1_0 := @fresh_ne _ _ hb1_0
 have rb1_0 := @fresh_en _ _ hb1_0
 have lb1_0 := fresh_le hb1_0 w.heap.size
 have qb1_1 := @fresh_ne _ _ hb1_1
 have rb1_1 := @fresh_en _ _ hb1_1
 have lb1_1 := fresh_le hb1_1 w.heap.size
 have eb1_1_0 : ¬ b1_1 = b1_0 := fun e => db1_1_0 e.symm
 obtain ⟨⟨g1, rfl⟩, hbs⟩ := hw1
 clear hbs nb1_0 nb1_1
 go_wp2
 refine wp_region_treeT (inCls_ghost _) (Cls.none _) ⟨Gr.of ((Below.refl _ _).drew), trivial⟩ [0, 1, 2, 3, 4, 5, 6, 7, 8, 9] 2 12 (by kernel_rfl) (by kernel_rfl) ?_
 simp only [pick, List.drop, List.take, List.nil_append, List.cons_append]
 repeat (refine wpCalm_step (fun K hK => ?_); go_simp; first | (refine hK _ ?_; clear hK K) | (apply Exists.intro; refine ⟨fun _ => ?_, hK _ ?_⟩; (skip); clear hK K))
 refine wpCalm_nil ?_
 have hMl : M < w.heap.size := HD.out.all.lt
 refine ft_eff 10 (by kernel_rfl) (by omega) rfl rfl fun w1 hw1 => effAt_call' 59 #[.map (some (mb xv))] (by go_simp) ((cloneMap_any (mb xv) _ w1 (HM.out.gr (Gr.trans gri hw1.1))).mono fun e w2 hc => ⟨_, hc.1, ?_⟩)
 obtain ⟨he9, hc, hg⟩ := hc
 refine ⟨⟨fun w2 => MapAt .i64 w2 w1.heap.size (encK bkV x.2), fun a b h g => h.gr g⟩, ⟨hw1.1.trans hg, hc⟩, ?_⟩
 have hsz := hw1.1.below.size
 have hb0 : w.heap.size ≤ w1.heap.size := Nat.le_trans (inferInstance : From w _).le hsz
 generalize w1.heap.size = b at *
 clear he9 hc hg w2 e hw1 w1
 simp only [Act.put, stA, List.set]
 refine ft_calm 11 (.agg #[.int .i64 x.1, .map (some b)]) (by kernel_rfl) (by omega) rfl rfl (fun g => by unfold calmAt; go_simp) ?_
 simp only [Act.put, stA, List.set]
 refine ft_end ⟨by kernel_rfl, fun w2 hw2 => ?_⟩
 try simp only [List.drop_succ_cons, List.drop_zero]
 have g2 : Gr w w2 := Gr.trans gri hw2.1
 refine wpList_updateK rfl _ _ _ rfl xt _ Tryz.underlying53 Tryz.underlying24 (HD.out.all.gr g2) rfl rfl rfl fun W' h1 h2 => ?_
 have HD' := HD.out.put g2 xt x b hw2.2 (.inl hb0) h1 h2 HOK.out hbase
 haveI hB1 : BlockAt W' (w.heap.size + 1) #[.int .i64 0, .int .i64 0, .slice none 0 0] 38 := h2.blockAt (BlockAt.gr (inferInstance : BlockAt _ (w.heap.size + 1) _ _) hw2.1) (by omega)
 have hck := (CK.gr g2).trans (CK.only (HD.out.all.gr g2) h2)
 have hbel : Below base w W' := h2.below HD.out.bM (Nat.lt_of_lt_of_le hMl g2.below.size) (g2.below.mono hbase)
 have z0 : W'.cell? ⟨w.heap.size + 1, 0, none⟩ = some (.int .i64 0) := (bc 0 hB1).trans rfl
 have z1 : W'.cell? ⟨w.heap.size + 1, 1, none⟩ = some (.int .i64 0) := (bc 1 hB1).trans rfl
 have z2 : W'.cell? ⟨w.heap.size + 1, 2, none⟩ = some (.slice none 0 0) := (bc 2 hB1).trans rfl
 have f0 : ∀ o, W'.frozen? ⟨w.heap.size + 1, o, none⟩ = false := fun o => @block_frozen _ _ o _ _ hB1
 have HN := hd_ HD'
 have HB := hd_ hbel
 have HCK := hd_ hck
 clear HD' hbel hck
 clear h1 h2 hw2 g2 hsz hMl hb0
 simp only [Act.put]
 go_wp2
 exact bodyPost_ret (run_resCell1 rfl _ _ _ _ rfl (ans_block hB1 _ _ _) Tryz.underlying38 rfl (by kernel_rfl)) rfl ⟨rfl, ans_dev HN.out hB1 (by decide) _ _ _, ans_below HB.out (by omega) _ _ _, ck_ans HCK.out (by omega) _ _ _⟩
def dropF (a : Int) (k : Nat) (m : List (Int × Byt)) : List (Int × Byt) := m.filter fun p => decide (p.1 < a ∨ a + k ≤ p.1)
theorem dropF_zero (a : Int) (m : List (Int × Byt)) : dropF a 0 m = m := by
 unfold dropF
 rw [List.filter_eq_self]
 intro p _
 simp
 omega
theorem dropF_succ (a : Int) (k : Nat) (m : List (Int × Byt)) : delK (dropF a k m) (a + k) = dropF a (k + 1) m := by
 unfold delK dropF
 rw [List.filter_filter]
 congr 1
 funext p
 rw [Bool.eq_iff_iff]
 simp
 omega
theorem dropF_ok {x : VolM} (h : VolOk x) (a : Int) (k : Nat) : VolOk (x.1, dropF a k x.2) := filter_ok h _ _ h.s0 h.s1 (fun p hp _ => (h.keys p hp).2)
theorem discard_any (xv xt xs xa xc most : Int) (xD : Option Addr) (xn xq : Nat) (hn : xn ≤ 1000000) (base D : Nat) (d : Dev) (w : World) (h : DevAt base w D d) (hbase : base ≤ w.heap.size) (x : VolM) (hv : getK d xv = some x) (a0 : 0 ≤ xa) (a1 : xa ≤ 1048576) (c0 : 1 ≤ xc) (c1 : xc ≤ 1024) :
  Calls Tryz.prog 43 #[.pointer (some ⟨D, 0, none⟩), .agg #[.int .i64 7, .int .u64 xv, .int .u64 xt, .int .i64 xs, .int .i64 xa, .int .i64 xc, .slice xD xn xq], .int .i64 most] w (OpPost base D (putK d xv (x.1, dropF xa xc.toNat x.2)) 0 0 w) := by
 obtain ⟨M, mb, h⟩ := h
 haveI := h.blk
 have x0 : w.cell? ⟨D, 0, none⟩ = some (.map (some M)) := (bc 0 h.blk).trans rfl
 haveI : Old D w := h.blk.old
 have HD := hd_ h
 have hlk := look_vol1 h xv _ hv
 simp only [volV] at hlk
 have HX := hd_ (h.ok.vols _ ((getK_mem h.ok.sort).1 hv))
 have HV := hd_ hv
 clear h hv
 obtain ⟨cn, rfl⟩ : ∃ n : Nat, xc = n := ⟨xc.toNat, by omega⟩
 go_enter Tryz.func43, Tryz.ntmps43
 go_wp2
 refine wp_region_all [0, 1, 2, 3, 4, 5, 6, 7, 8, 9] [10, 11] [12, 13] (by kernel_rfl) (by kernel_rfl) ?_
 simp only [pick, List.drop, List.take, List.nil_append, List.cons_append]
 repeat (refine wpCalm_step (fun K hK => ?_); go_simp; first | (refine hK _ ?_; clear hK K) | (apply Exists.intro; refine ⟨fun _ => ?_, hK _ ?_⟩; ((go_at_call 71; exact part_7 _ _ _ _ _ _ _ _ (by omega) _)); clear hK K))
 refine wpCalm_nil ?_
 refine ⟨_, _, _, allocOp_alloc rfl rfl Tryz.zeroValue64, fun b1_0 hb1_0 nb1_0 => ?_⟩
 refine ⟨_, _, _, allocOp_alloc rfl rfl Tryz.zeroValue149, fun b1_1 hb1_1 nb1_1 => ?_⟩
 have db1_1_0 : b1_0 ≠ b1_1 := nb1_1 (b1_0, _, _) mcs
 simp only [Act.put, stA, List.set]
 refine ⟨_, _, _, b1_0, #[.int .i64 0, .map none], _, #[.int .i64 x.1, .map (some (mb xv))], rfl, rfl, rfl, (List.mem_cons_of_mem _ mcs), ?hu, hb1_0, rfl, rfl, rfl, rfl, [(b1_0, #[.int .i64 x.1, .map (some (mb xv))], 64), (b1_1, #[.int .i64 0, .int .i64 0], 149)], ?hs, ?_⟩
 case hu =>
  intro z hz e
  rcases List.mem_cons.1 hz with rfl | hz
  ·exact absurd e db1_1_0.symm
  rcases List.mem_cons.1 hz with rfl | hz
  ·rfl
  cases hz
 case hs =>
  intro z
  constructor
  ·intro hz
   rcases List.mem_cons.1 hz with rfl | hz
   ·exact .inl rfl
   rcases List.mem_cons.1 hz with rfl | hz
   ·exact .inr ⟨mcs, db1_1_0.symm⟩
   cases hz
  ·rintro (rfl | ⟨hz, hne⟩)
   ·exact mcs
   rcases List.mem_cons.1 hz with rfl | hz
   ·exact (List.mem_cons_of_mem _ mcs)
   rcases List.mem_cons.1 hz with rfl | hz
   ·exact absurd rfl hne
   cases hz
 refine ⟨_, _, _, b1_1, #[.int .i64 0, .int .i64 0], _, #[.int .i64 xa, .int .i64 (cn : Int)], rfl, rfl, rfl, (List.mem_cons_of_mem _ mcs), ?hu, hb1_1, rfl, rfl, rfl, rfl, [(b1_1, #[.int .i64 xa, .int .i64 (cn : Int)], 149), (b1_0, #[.int .i64 x.1, .map (some (mb xv))], 64)], ?hs, ?_⟩
 case hu =>
  intro z hz e
  rcases List.mem_cons.1 hz with rfl | hz
  ·exact absurd e db1_1_0
  rcases List.mem_cons.1 hz with rfl | hz
  ·rfl
  cases hz
 case hs =>
  intro z
  constructor
  ·intro hz
   rcases List.mem_cons.1 hz with rfl | hz
   ·exact .inl rfl
   rcases List.mem_cons.1 hz with rfl | hz
   ·exact .inr ⟨mcs, db1_1_0⟩
   cases hz
  ·rintro (rfl | ⟨hz, hne⟩)
   ·exact mcs
   rcases List.mem_cons.1 hz with rfl | hz
   ·exact (List.mem_cons_of_mem _ mcs)
   rcases List.mem_cons.1 hz with rfl | hz
   ·exact absurd rfl hne
   cases hz
 intro w1 hw1
 have cb1_1 : ∀ o, w1.cell? ⟨b1_1, o, none⟩ = (#[.int .i64 xa, .int .i64 (cn : Int)] : Array Value)[o]? := mix_cell hw1 mcs
 haveI kb1_1 : BlockAt w1 b1_1 #[.int .i64 xa, .int .i64 (cn : Int)] 149 := ⟨hw1.2 _ mcs⟩
 have fb1_1 : ∀ o, w1.frozen? ⟨b1_1, o, none⟩ = false := mix_frozen hw1 mcs
 have ob1_1 : Old b1_1 w1 := mix_old hw1 mcs
 have cb1_0 : ∀ o, w1.cell? ⟨b1_0, o, none⟩ = (#[.int .i64 x.1, .map (some (mb xv))] : Array Value)[o]? := mix_cell hw1 (List.mem_cons_of_mem _ mcs)
 haveI kb1_0 : BlockAt w1 b1_0 #[.int .i64 x.1, .map (some (mb xv))] 64 := ⟨hw1.2 _ (List.mem_cons_of_mem _ mcs)⟩
 have fb1_0 : ∀ o, w1.frozen? ⟨b1_0, o, none⟩ = false := mix_frozen hw1 (List.mem_cons_of_mem _ mcs)
 have ob1_0 : Old b1_0 w1 := mix_old hw1 (List.mem_cons_of_mem _ mcs)
 have qb1_0 := @fresh_ne _ _ hb1_0
 have rb1_0 := @fresh_en _ _ hb1_0
 have lb1_0 := fresh_le hb1_0 w.heap.size
 have qb1_1 := @fresh_ne _ _ hb1_1
 have rb1_1 := @fresh_en _ _ hb1_1
 have lb1_1 := fresh_le hb1_1 w.heap.size
 have eb1_1_0 : ¬ b1_1 = b1_0 := fun e => db1_1_0 e.symm
 obtain ⟨⟨g1, rfl⟩, hbs⟩ := hw1
 clear hbs nb1_0 nb1_1
 have hMl : M < w.heap.size := HD.out.all.lt
 generalize hW1 : grown _ g1 = W1 at *
 have hgW : Gr w W1 := by rw [← hW1]; exact gri
 haveI kA : BlockAt W1 (w.heap.size + 1) #[.int .i64 0, .int .i64 0, .slice none 0 0] 38 := by rw [← hW1]; infer_instance
 clear hW1
 have HG := hd_ hgW
 have K0 := hd_ kb1_0
 have K1 := hd_ kb1_1
 have KA := hd_ kA
 clear hgW kA kb1_0 kb1_1
 go_wp2
 go_loopw [9] (fun i wr => ∃ k : Nat, k ≤ cn ∧ i = .int .i64 (xa + k) ∧ DevIn base wr D M mb (putK d xv (x.1, dropF xa k x.2)) ∧ BlockAt wr b1_0 #[.int .i64 x.1, .map (some (mb xv))] 64 ∧ BlockAt wr b1_1 #[.int .i64 xa, .int .i64 (cn : Int)] 149 ∧ BlockAt wr (w.heap.size + 1) #[.int .i64 0, .int .i64 0, .slice none 0 0] 38 ∧ Below base w wr ∧ CK w wr) (fun i _ => (xa + cn - intOf i).toNat)
 case atStart => exact ⟨0, Nat.zero_le _, by simp, by rw [dropF_zero, putK_own HD.out.ok.sort HV.out]; exact HD.out.gr HG.out, K0.out, K1.out, KA.out, HG.out.below.mono hbase, CK.gr HG.out⟩
 case round =>
  obtain ⟨k, hk, rfl, hd, k0, k1, ka, hb, hck⟩ := hrel
  have hvk : getK (putK d xv (x.1, dropF xa k x.2)) xv = some (x.1, dropF xa k x.2) := getK_put_self HD.out.ok.sort _ _
  have hm := hd.vol _ ((getK_mem hd.ok.sort).1 hvk)
  have y00 : wr.cell? ⟨b1_0, 0, none⟩ = some (.int .i64 x.1) := (bc 0 k0).trans rfl
  have y01 : wr.cell? ⟨b1_0, 1, none⟩ = some (.map (some (mb xv))) := (bc 1 k0).trans rfl
  have y10 : wr.cell? ⟨b1_1, 0, none⟩ = some (.int .i64 xa) := (bc 0 k1).trans rfl
  have y11 : wr.cell? ⟨b1_1, 1, none⟩ = some (.int .i64 (cn : Int)) := (bc 1 k1).trans rfl
  have HDk := hd_ hd
  have HMk := hd_ hm
  have HVk := hd_ hvk
  have Z0 := hd_ k0
  have Z1 := hd_ k1
  have ZA := hd_ ka
  have HB := hd_ hb
  have HCK := hd_ hck
  clear hd hm hvk k0 k1 hb hck
  by_cases hlt : k < cn
  ·clear ka
   go_wp2_with (refine wpList_deleteK rfl _ _ rfl (xa + k) Tryz.underlying62 Tryz.underlying3 HMk.out rfl rfl fun W' h1 h2 => ?_)
   have hd2 := HDk.out.inner xv _ HVk.out (dropF xa (k + 1) x.2) (by rw [← dropF_succ, ← delK_enc]; exact h1) h2 (dropF_ok HX.out xa (k + 1))
   rw [putK_putK _ _ _ _ HD.out.ok.sort] at hd2
   have hb2 : Below base w W' := h2.below (HD.out.bV (xv, x) ((getK_mem HD.out.ok.sort).1 HV.out)) HMk.out.lt HB.out
   have q0 := h2.blockM HMk.out Z0.out
   have q1 := h2.blockM HMk.out Z1.out
   have qA := h2.blockM HMk.out ZA.out
   have HD2 := hd_ hd2
   have HB2 := hd_ hb2
   have HCK2 := hd_ (HCK.out.trans (CK.only HMk.out h2))
   have Q0 := hd_ q0
   have Q1 := hd_ q1
   have QA := hd_ qA
   clear hd2 hb2 q0 q1 qA h1 h2
   go_wp2
   go_roundw
   case rel => exact ⟨k + 1, by omega, by congr 1; omega, HD2.out, Q0.out, Q1.out, QA.out, HB2.out, HCK2.out⟩
   case measure => simp [intOf]; omega
  ·have hkc : k = cn := by omega
   subst hkc
   haveI hB1 := ZA.out
   have z0 : wr.cell? ⟨w.heap.size + 1, 0, none⟩ = some (.int .i64 0) := (bc 0 hB1).trans rfl
   have z1 : wr.cell? ⟨w.heap.size + 1, 1, none⟩ = some (.int .i64 0) := (bc 1 hB1).trans rfl
   have z2 : wr.cell? ⟨w.heap.size + 1, 2, none⟩ = some (.slice none 0 0) := (bc 2 hB1).trans rfl
   have f0 : ∀ o, wr.frozen? ⟨w.heap.size + 1, o, none⟩ = false := fun o => @block_frozen _ _ o _ _ hB1
   go_wp2
   exact bodyPost_ret (run_resCell1 rfl _ _ _ _ rfl (ans_block hB1 _ _ _) Tryz.underlying38 rfl (by kernel_rfl)) rfl ⟨rfl, ans_dev HDk.out hB1 (by decide) _ _ _, ans_below HB.out (by omega) _ _ _, ck_ans HCK.out (by omega) _ _ _⟩
end Go.Proofs.YtddckdhnolmjoaaGreat
namespace Go.Proofs.YtddckdhnolmjoaaGreat
open Go.RowKit Go.MapKept
open Go.ChangeMaps (setBlock heap_setBlock_same heap_setBlock_other)
def RangeAt (q : IntKind) (W : World) (b r : Nat) (L : List (Int × Value)) (left : Int → Bool) (cnt : Nat) : Prop :=
 ∃ es clock since seen c0, W.heap[b]? = some (.map es clock) ∧ Stamped es clock ∧ (∀ x ∈ es.toList, IsKey (.int q) x.key) ∧ (∀ k v, (∃ x ∈ es.toList, x.key = .int q k ∧ x.val = v) ↔ (k, v) ∈ L) ∧ SortK L ∧
  W.heap[r]? = some (.mapIter (some b) since seen c0) ∧ (∀ x ∈ es.toList, x.born < since) ∧ (leftOf es seen).size = cnt ∧ (∀ x ∈ es.toList, ∀ k, x.key = .int q k → left k = !seen.contains x.born) ∧ since ≤ c0 ∧ since ≤ clock
section
variable {P : Program} {W : World} {q : IntKind} {b r : Nat} {L : List (Int × Value)} {left : Int → Bool} {cnt : Nat} {t kt et : TypeId}
theorem RangeAt.map (h : RangeAt q W b r L left cnt) : MapAt q W b L := by
 obtain ⟨es, clock, since, seen, c0, h1, h2, h3, h4, h5, _⟩ := h
 exact ⟨es, clock, h1, h2, h3, h4, h5⟩
theorem RangeAt.left_eq (h : RangeAt q W b r L left cnt) : W.rangeLeft b r = cnt := by
 obtain ⟨es, clock, since, seen, c0, hb, _, _, _, _, hr, _, hc, _⟩ := h
 simp only [World.rangeLeft, hb, hr]
 exact hc
theorem RangeAt.ne (h : RangeAt q W b r L left cnt) : r ≠ b := by
 obtain ⟨es, clock, since, seen, c0, hb, _, _, _, _, hr, _⟩ := h
 intro e
 rw [e, hb] at hr
 cases hr
theorem RangeAt.lt (h : RangeAt q W b r L left cnt) : r < W.heap.size := by
 obtain ⟨es, clock, since, seen, c0, hb, _, _, _, _, hr, _⟩ := h
 exact (Array.getElem?_eq_some_iff.1 hr).1
theorem RangeAt.gr {W' : World} (h : RangeAt q W b r L left cnt) (g : Gr W W') : RangeAt q W' b r L left cnt := by
 have h1 := h.map.lt
 have h2 := h.lt
 obtain ⟨es, clock, since, seen, c0, hb, a1, a2, a3, a4, hr, rest⟩ := h
 exact ⟨es, clock, since, seen, c0, (g.below.block b h1).trans hb, a1, a2, a3, a4, (g.below.block r h2).trans hr, rest⟩
theorem isKey_int {v : Value} (h : IsKey (.int q) v) : ∃ k, v = .int q k := by
 cases v <;> simp [IsKey] at h
 subst h
 exact ⟨_, rfl⟩
theorem range_start (ht : P.underlying t = some (.map kt et)) (h : MapAt q W b L) :
  ∃ W' cnt, (Instr.range t (.map (some b))).run P W = .ok (.pointer (some ⟨W.heap.size, 0, none⟩)) W' ∧ RangeAt q W' b W.heap.size L (fun _ => true) cnt ∧ Gr W W' := by
 have hlt := h.lt
 obtain ⟨es, clock, hb, hst, hkk, hm, hs⟩ := h
 refine ⟨_, _, run_range_map W t kt et b es clock ht hb, ⟨es, clock, clock, #[], clock, ((MapKept.heap_alloc W _).2 b hlt).trans hb, hst, hkk, hm, hs, (MapKept.heap_alloc W _).1, hst.1, rfl, fun x _ k _ => by simp, Nat.le_refl _, Nat.le_refl _⟩, Gr.of ⟨rfl, rfl, rfl, by simp, fun k hk => (MapKept.heap_alloc W _).2 k hk⟩⟩
theorem RangeAt.next (h : RangeAt q W b r L left cnt) (ty : TypeId) :
  (cnt = 0 ∧ (∀ p ∈ L, left p.1 = false) ∧ (Instr.next (.pointer (some ⟨r, 0, none⟩)) false ty).run P W = .ok (.tuple #[.bool false]) W) ∨
  ∃ k v W' cnt', (k, v) ∈ L ∧ left k = true ∧ (Instr.next (.pointer (some ⟨r, 0, none⟩)) false ty).run P W = .ok (.tuple #[.bool true, .int q k, v]) W' ∧
   RangeAt q W' b r L (fun z => left z && z != k) cnt' ∧ cnt' < cnt ∧ OnlyB W W' r ∧ (Instr.entry (.pointer (some ⟨r, 0, none⟩))).run P W' = .ok (.tuple #[.int q k, v]) W' := by
 have hne := h.ne
 obtain ⟨es, clock, since, seen, c0, hb, hst, hkk, hm, hs, hr, hold, rfl, hl, hsc, hsk⟩ := h
 rcases _root_.Go.run_next_at (P := P) W ty r b since c0 seen es clock hr hb hold hsc with ⟨h0, hrun⟩ | ⟨e, he, w1, hal, hrun⟩
 ·refine .inl ⟨h0, fun p hp => ?_, hrun⟩
  obtain ⟨x, hx, e1, _⟩ := (hm p.1 p.2).2 hp
  rw [hl x hx p.1 e1, all_seen es seen h0 x hx]
  rfl
 ·obtain ⟨hem, hes⟩ := mem_left he
  obtain ⟨k, hk⟩ := isKey_int (hkk e hem)
  have hr1 : w1.heap[r]? = some (.mapIter (some b) since seen c0) := by rcases hal with rfl | rfl <;> exact hr
  have hb1 : w1.heap[b]? = some (.map es clock) := by rcases hal with rfl | rfl <;> exact hb
  have hset := heap_set (o' := .mapIter (some b) since (seen.push e.born) clock) hr1
  have hb' : (setBlock w1 r (.mapIter (some b) since (seen.push e.born) clock)).heap[b]? = some (.map es clock) := (hset.2 b (fun e1 => hne e1.symm)).trans hb1
  have hen := _root_.Go.run_entry_at (P := P) _ r b since seen es clock e hset.1 hb' hem hst.2.1
  rw [hk] at hrun hen
  refine .inr ⟨k, e.val, _, _, (hm k e.val).1 ⟨e, hem, hk, rfl⟩, by rw [hl e hem k hk, hes]; rfl, hrun, ⟨es, clock, since, seen.push e.born, clock, hb', hst, hkk, hm, hs, hset.1, hold, rfl, fun x hx j hj => ?_, hsk, hsk⟩, left_shrinks es seen e he, ⟨?_, ?_⟩, hen⟩
  ·show (left j && j != k) = _
   rw [hl x hx j hj, contains_push]
   have hbk : (j != k) = !(x.born == e.born) := by
    by_cases hjk : j = k
    ·have hxe : x = e := entry_eq_of_key ((stamped_iff es clock).1 hst).2.2 hx hem (by rw [hj, hk, hjk])
     simp [hjk, hxe]
    ·have hb2 : x.born ≠ e.born := fun e1 => hjk (by
      have := born_inj hst.2.1 hx hem e1
      rw [this, hk] at hj
      cases hj; rfl)
     rw [beq_eq_false_iff_ne.2 hb2]
     exact bne_iff_ne.2 hjk
   rw [hbk]
   cases seen.contains x.born <;> cases (x.born == e.born) <;> rfl
  ·rcases hal with rfl | rfl <;> exact ⟨rfl, rfl, rfl, by simp [setBlock], fun i _ hi => hset.2 i (fun e1 => hi (by rw [e1]))⟩
  ·rcases hal with rfl | rfl <;> simp [setBlock]
theorem RangeAt.drop (ht : P.underlying t = some (.map kt et)) (hk : P.underlying kt = some (.int q)) (h : RangeAt q W b r L left cnt) (k : Int) (ty : TypeId) :
  ∃ W' cnt', (Builtin.delete_ #[t, kt] ty #[.map (some b), .int q k]).run P W = .ok (.tuple #[]) W' ∧ RangeAt q W' b r (delK L k) left cnt' ∧ cnt' ≤ cnt ∧ OnlyB W W' b := by
 have hne := h.ne
 obtain ⟨es, clock, since, seen, c0, hb, hst, hkk, hm, hs, hr, hold, rfl, hl, hsc, hsk⟩ := h
 have hck := fun e => run_checkKey (P := P) (w := W) (k := .int q k) hk rfl e 9999
 have hgo := MapKept.run_getObj_map (P := P) hb
 have hso := fun o => MapKept.run_setObj_map (P := P) o hb
 have hdel : ∀ p, p ∈ delK L k ↔ p ∈ L ∧ p.1 ≠ k := fun p => by simp [delK]
 have e1 : ∀ a : Array MapEntry, (leftOf a seen).size = (a.toList.filter fun e => !seen.contains e.born).length := fun a => by
  unfold leftOf
  rw [← Array.toList_filter, Array.length_toList]
 rcases mapAt_find hkk hm hs k with ⟨hg, hf, hne'⟩ | ⟨i, e, hf, hi, hek, hg⟩
 ·have hfk := run_findKey (P := P) (w := W) hk hf
  refine ⟨_, _, ?_, ⟨es, clock, since, seen, c0, (heap_set hb).1, hst, hkk, fun j u => ?_, sort_delK hs, ((heap_set hb).2 r hne).trans hr, hold, rfl, hl, hsc, hsk⟩, Nat.le_refl _, only_set hb⟩
  ·simp [Builtin.delete_, Sem.run_bind, run_underlying ht W, hgo, hck, hfk, hso]
  ·rw [hdel, hm j u]
   exact ⟨fun h => ⟨h, fun e => getK_none.1 hg _ h e⟩, fun h => h.1⟩
 ·have hfk := run_findKey (P := P) (w := W) hk hf
  have hi' : es[i]? = some e := by rw [← Array.getElem?_toList]; exact hi
  have hil : i < es.size := (Array.getElem?_eq_some_iff.1 hi').1
  have hel : (es.eraseIdxIfInBounds i).toList = es.toList.eraseIdx i := by
   unfold Array.eraseIdxIfInBounds
   rw [dif_pos hil]; simp
  have hmem : ∀ x, x ∈ (es.eraseIdxIfInBounds i).toList ↔ x ∈ es.toList ∧ x.key ≠ .int q k := fun x => by
   rw [hel, List.mem_eraseIdx_iff_getElem?]
   constructor
   ·rintro ⟨j, hj, hx⟩
    exact ⟨List.mem_of_getElem? hx, fun he => hj (keys_inj hst.2.2 hx hi (by rw [hek, he]))⟩
   ·rintro ⟨hx, hne⟩
    obtain ⟨j, hj⟩ := List.mem_iff_getElem?.1 hx
    exact ⟨j, (by rintro rfl; rw [hi] at hj; cases hj; exact hne hek), hj⟩
  refine ⟨_, _, ?_, ⟨es.eraseIdxIfInBounds i, clock, since, seen, c0, (heap_set hb).1, stamped_erase hst i, fun x hx => hkk x ((hmem x).1 hx).1, fun j u => ?_, sort_delK hs, ((heap_set hb).2 r hne).trans hr, fun x hx => hold x ((hmem x).1 hx).1, rfl, fun x hx => hl x ((hmem x).1 hx).1, hsc, hsk⟩, ?_, only_set hb⟩
  ·simp [Builtin.delete_, Sem.run_bind, run_underlying ht W, hgo, hck, hfk, hso]
  ·rw [hdel, ← hm j u]
   constructor
   ·rintro ⟨x, hx, e1, e2⟩
    have h1 := (hmem x).1 hx
    exact ⟨⟨x, h1.1, e1, e2⟩, fun h => h1.2 (e1.trans (by have : j = k := h; rw [this]))⟩
   ·rintro ⟨⟨x, hx, e1, e2⟩, h2⟩
    exact ⟨x, (hmem x).2 ⟨hx, by rw [e1]; intro h; cases h; exact h2 rfl⟩, e1, e2⟩
  ·rw [e1, e1, hel]
   exact ((List.eraseIdx_sublist _ _).filter _).length_le
end
section
variable {P : Program} {ops : Array Oper} {rest : List Oper} {o : Oper} {a : Act} {Q : Exit → Act → World → Prop} {W : World} {q : IntKind} {b r : Nat} {L : List (Int × Value)} {left : Int → Bool} {cnt : Nat} {t kt et : TypeId}
theorem wpList_rangeK (hgd : o.guard = none) (m : Operand) (ho : o.op = .range t m) (ht : P.underlying t = some (.map kt et)) (hm : MapAt q W b L) (hm2 : a.eval m = .map (some b))
  (h : ∀ W' cnt, RangeAt q W' b W.heap.size L (fun _ => true) cnt → Gr W W' → wpList P ops Q rest (a.put o.dst (.pointer (some ⟨W.heap.size, 0, none⟩))) W') : wpList P ops Q (o :: rest) a W := by
 refine wpList_plain hgd fun K hK => ?_
 obtain ⟨W', cnt, hrun, h1, h2⟩ := range_start (P := P) ht hm
 unfold Oper.wp
 simp [execOp, ho, hm2, hrun, Result.andThen]
 exact hK _ _ (h W' cnt h1 h2)
theorem wpList_nextK (hgd : o.guard = none) (it : Operand) (ho : o.op = .next it false) (hit : a.eval it = .pointer (some ⟨r, 0, none⟩)) (h : RangeAt q W b r L left cnt)
  (hDone : cnt = 0 → (∀ p ∈ L, left p.1 = false) → wpList P ops Q rest (a.put o.dst (.tuple #[.bool false])) W)
  (hMore : ∀ (k : Int) (v : Value) (W' : World) (cnt' : Nat), (k, v) ∈ L → left k = true → RangeAt q W' b r L (fun z => left z && z != k) cnt' → cnt' < cnt → OnlyB W W' r → (Instr.entry (.pointer (some ⟨r, 0, none⟩))).run P W' = .ok (.tuple #[.int q k, v]) W' → wpList P ops Q rest (a.put o.dst (.tuple #[.bool true, .int q k, v])) W') : wpList P ops Q (o :: rest) a W := by
 refine wpList_plain hgd fun K hK => ?_
 unfold Oper.wp
 rcases h.next (P := P) o.type with ⟨h0, hl, hrun⟩ | ⟨k, v, W', cnt', h1, h2, hrun, h3, h4, h5, h6⟩
 ·simp [execOp, ho, hit, hrun, Result.andThen]
  exact hK _ _ (hDone h0 hl)
 ·simp [execOp, ho, hit, hrun, Result.andThen]
  exact hK _ _ (hMore k v W' cnt' h1 h2 h3 h4 h5 h6)
theorem wpList_dropK (hgd : o.guard = none) (m x : Operand) (ho : o.op = .call { callee := .builtin .delete, args := #[m, x], argTypes := #[t, kt] }) (key : Int) (ht : P.underlying t = some (.map kt et)) (hk : P.underlying kt = some (.int q)) (hm : RangeAt q W b r L left cnt) (hm2 : a.eval m = .map (some b)) (hx : a.eval x = .int q key)
  (h : ∀ W' cnt', RangeAt q W' b r (delK L key) left cnt' → cnt' ≤ cnt → OnlyB W W' b → wpList P ops Q rest (a.put o.dst (.tuple #[])) W') : wpList P ops Q (o :: rest) a W := by
 refine wpList_plain hgd fun K hK => ?_
 obtain ⟨W', cnt', hrun, h1, h2, h3⟩ := RangeAt.drop (P := P) ht hk hm key o.type
 unfold Oper.wp
 simp [execOp, ho, resolve, invoke, builtin, hm2, hx, hrun, Result.andThen]
 exact hK _ _ (h W' cnt' h1 h2 h3)
end
end Go.Proofs.YtddckdhnolmjoaaGreat
