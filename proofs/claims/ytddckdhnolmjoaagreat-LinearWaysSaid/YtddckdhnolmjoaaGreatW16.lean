/- A region that draws its order, walked by a plan, and, behind all of that, what comes as the text has it. Conditions: each step is .. -/
import Derived.Test.YtddckdhnolmjoaaGreatW05
import Derived.Test.YtddckdhnolmjoaaGreatW15
set_option linter.unusedVariables false
set_option linter.unusedSimpArgs false
set_option linter.unnecessarySimpa false
set_option maxRecDepth 100000
set_option maxHeartbeats 8000000
namespace Go.Proofs.YtddckdhnolmjoaaGreat
open Go.RowKit
section
variable {P : Program} {ops : Array Oper} {md : Region.Mode}
def jT (P : Program) (md : Region.Mode) (ops : Array Oper) (n : Nat) (L : Array Bool → StJ → Act → Prop) : Nat → Array Bool → StJ → Act → Prop
 | 0, listed, s, a => L listed s a
 | f + 1, listed, s, a => Region.ready md ops listed ≠ [] ∧ ∀ i ∈ Region.ready md ops listed, i < n ∧ jOp P ops i (jT P md ops n L f (listed.setIfInBounds i true)) s a
theorem jT_any {n g : Nat} {L : Array Bool → StJ → Act → Prop} {Q' : Exit → Act → World → Prop} (hL : ∀ listed (s : StJ) a w, s.j w → s.e w → L listed s a → wpAny P md ops Q' g listed a w) :
  ∀ (f : Nat) (listed : Array Bool) (s : StJ) (a : Act) (w : World), s.j w → s.e w → jT P md ops n L f listed s a → wpAny P md ops Q' (f + g) listed a w
 | 0, listed, s, a, w, hj, he, h => by rw [Nat.zero_add]; exact hL _ _ _ _ hj he h
 | f + 1, listed, s, a, w, hj, he, h => by
  rw [show f + 1 + g = (f + g) + 1 by omega]
  refine ⟨fun h0 => absurd h0 h.1, fun i hi => ?_⟩
  unfold wpOp
  rcases (h.2 i hi).2 with ⟨o, ho, v, hv, hk⟩ | ⟨o, ho, hg, hs⟩
  ·simp only [ho]
   rcases hv with ⟨hw1, hc⟩ | ⟨hw1, rfl⟩
   ·simp only [hw1, if_true]
    refine .inl ?_
    have h3 := hc w hj
    unfold EffAt at h3
    unfold Oper.wp
    generalize (execOp a.eval o).run P w = r at *
    cases r with
    | ok nx w' =>
     cases nx <;> simp only [effUpon] at h3 <;> simp only [Oper.upon]
     case value u => obtain ⟨e1, e2⟩ := h3; rw [e1, e2]; exact jT_any hL f _ _ _ _ hj he hk
     case skip => obtain ⟨e1, e2⟩ := h3; rw [e1, e2]; exact jT_any hL f _ _ _ _ hj he hk
     case enter f' args => exact h3.mono fun e w'' ⟨v', he', e1, e2⟩ => by subst he'; rw [e1, e2]; exact jT_any hL f _ _ _ _ hj he hk
    | halt x w' => simp only [effUpon] at h3
   ·simp only [hw1, Bool.false_eq_true, if_false]; exact jT_any hL f _ _ _ _ hj he hk
  ·simp only [ho, hg, if_true]
   refine .inl ?_
   have h3 := hs w hj he
   unfold EffAt at h3
   unfold Oper.wp
   generalize (execOp a.eval o).run P w = r at *
   cases r with
   | ok nx w' =>
    cases nx <;> simp only [effUpon] at h3 <;> simp only [Oper.upon]
    case value u => obtain ⟨s', ⟨hj', he'⟩, _, hk⟩ := h3; exact jT_any hL f _ _ _ _ hj' he' hk
    case skip => obtain ⟨s', ⟨hj', he'⟩, _, hk⟩ := h3; exact jT_any hL f _ _ _ _ hj' he' hk
    case enter f' args => exact h3.mono fun e w'' ⟨v, he, s', ⟨hj', he'⟩, _, hk⟩ => by subst he; exact jT_any hL f _ _ _ _ hj' he' hk
   | halt x w' => simp only [effUpon] at h3
theorem jT_first {n i : Nat} {oi : Oper} {v : Value} {L : Array Bool → StJ → Act → Prop} (hi : ops[i]? = some oi) (hsel : ∀ (j : Nat) (o : Oper) cs b, ops[j]? = some o → o.op ≠ .select cs b)
  (hs : Region.sinkB md ops n = true) (hc : Region.chainB md ops n = true) (hn : n < ops.size) (hin : i < n) (hdone : ∀ listed s a, L listed s a → ∀ j ∈ Region.ready md ops listed, n ≤ j) :
  ∀ (f : Nat) (listed : Array Bool) (s : StJ) (a : Act), HeadInv md ops n listed →
   (∀ j oj, ops[j]? = some oj → j ≠ i → listed.getD j true = false → (∀ e ∈ oj.after, Region.binds md e = true → e.on ≠ i) → oi.apart ops oj = true) →
   i ∈ Region.ready md ops listed → SameJ P ops s oi v a →
   jT P md ops n L f (listed.setIfInBounds i true) s (a.put oi.dst v) → jT P md ops n L (f + 1) listed s a := by
 intro f
 induction f with
 | zero =>
  intro listed s a inv _ hr hy H
  refine ⟨(fun h => by rw [h] at hr; cases hr), fun j hj => ?_⟩
  have hjn : j < n := (Nat.lt_or_ge j n).elim id fun h => absurd hj (tail_waits hs hc hn inv _ i rfl hin (mem_ready.1 hr).1 j h)
  by_cases hji : j = i
  ·subst hji; exact ⟨hjn, .inl ⟨oi, hi, v, hy, H⟩⟩
  ·have := hdone _ _ _ H j (ready_mono hj hji)
   omega
 | succ f ih =>
  intro listed s a inv hfree hr hy H
  have hun := (mem_ready.1 hr).1
  refine ⟨(fun h => by rw [h] at hr; cases hr), fun j hj => ?_⟩
  have hjn : j < n := (Nat.lt_or_ge j n).elim id fun h => absurd hj (tail_waits hs hc hn inv _ i rfl hin hun j h)
  refine ⟨hjn, ?_⟩
  by_cases hji : j = i
  ·subst hji; exact .inl ⟨oi, hi, v, hy, H⟩
  have h1 := (H.2 j (ready_mono hj hji)).2
  obtain ⟨hjun, oj, hoj, hall⟩ := mem_ready.1 hj
  have hnot : ∀ e ∈ oj.after, Region.binds md e = true → e.on ≠ i := fun e he hb heq => by
   have h1 := hall e he hb
   rw [heq, getD_both hun] at h1
   cases h1
  have h2 := jOp_put hoj (hfree j oj hoj hji hjun hnot) (fun cs b => hsel i oi cs b hi) (fun cs b => hsel j oj cs b hoj) hy h1
  have hfree' : ∀ k ok, ops[k]? = some ok → k ≠ i → (listed.setIfInBounds j true).getD k true = false →
    (∀ e ∈ ok.after, Region.binds md e = true → e.on ≠ i) → oi.apart ops ok = true := fun k ok hk hki hu hno => by
   refine hfree k ok hk hki ?_ hno
   by_cases hjk : j = k
   ·subst hjk; exact hjun
   ·rw [getD_set_ne true hjk] at hu; exact hu
  refine jOp_mono (fun s' a' _ h3 => ih (listed.setIfInBounds j true) s' a' (inv.set hj hjn) hfree' (ready_mono hr (Ne.symm hji)) h3.1 ?_) h2
  rw [Array.setIfInBounds_comm _ _ hji]
  exact h3.2
end
section
variable {P : Program} {md : Region.Mode} {l : List Oper}
def planTB (md : Region.Mode) (ops : Array Oper) (n : Nat) : List (Bool × Nat) → Array Bool → Bool
 | [], listed => Region.seqB md ops (ops.size - n) n listed
 | (true, k) :: r, listed => decide (k < n) && (Region.ready md ops listed).contains k && Region.free md ops listed k && planTB md ops n r (listed.setIfInBounds k true)
 | (false, k) :: r, listed => decide (k < n) && decide (Region.ready md ops listed = [k]) && planTB md ops n r (listed.setIfInBounds k true)
theorem jT_plan {n : Nat} {Lq : StJ → Act → Prop} (hsel : Region.noSelect l.toArray = true) (hs : Region.sinkB md l.toArray n = true) (hc : Region.chainB md l.toArray n = true) (hn : n < l.toArray.size) :
  ∀ (plan : List (Bool × Nat)) (listed : Array Bool) (s : StJ) (a : Act), HeadInv md l.toArray n listed → planTB md l.toArray n plan listed = true → wpPlan P l.toArray Lq (pickP l plan) s a →
   jT P md l.toArray n (fun listed s a => Region.seqB md l.toArray (l.toArray.size - n) n listed = true ∧ Lq s a) plan.length listed s a
 | [], listed, s, a, inv, hB, h => ⟨hB, h⟩
 | (true, k) :: r, listed, s, a, inv, hB, h => by
  simp only [planTB, Bool.and_eq_true, decide_eq_true_eq] at hB
  obtain ⟨⟨⟨hkn, hr⟩, hf⟩, hB'⟩ := hB
  have hr' : k ∈ Region.ready md l.toArray listed := by simpa using hr
  obtain ⟨_, o, ho, _⟩ := mem_ready.1 hr'
  have ho' : l[k]? = some o := by simpa using ho
  rw [pickP_cons ho'] at h
  obtain ⟨v, hv, hk⟩ := h
  exact jT_first ho (Region.noSelect_spec hsel) hs hc hn hkn (fun listed s a hL => seqB_ready hL.1) _ listed s a inv (Region.free_spec ho hf) hr' hv (jT_plan hsel hs hc hn r _ _ _ (inv.set hr' hkn) hB' hk)
 | (false, k) :: r, listed, s, a, inv, hB, h => by
  simp only [planTB, Bool.and_eq_true, decide_eq_true_eq] at hB
  obtain ⟨⟨hkn, hrd⟩, hB'⟩ := hB
  have hr' : k ∈ Region.ready md l.toArray listed := by rw [hrd]; simp
  obtain ⟨_, o, ho, _⟩ := mem_ready.1 hr'
  have ho' : l[k]? = some o := by simpa using ho
  rw [pickP_cons ho'] at h
  refine ⟨(fun h0 => by rw [hrd] at h0; cases h0), fun j hj => ?_⟩
  rw [hrd] at hj
  obtain rfl : j = k := by simpa using hj
  exact ⟨hkn, .inr ⟨o, ho, h.1, fun w h1 h2 => effUpon_mono (fun v w' ⟨s', h3, h4, h5⟩ => ⟨s', h3, h4, jT_plan hsel hs hc hn r _ _ _ (inv.set hr' hkn) hB' h5⟩) _ (h.2 w h1 h2)⟩⟩
def treePTB (md : Region.Mode) (ops : Array Oper) (n : Nat) (plan : List (Bool × Nat)) : Bool :=
 Region.noSelect ops && decide (n < ops.size) && Region.sinkB md ops n && Region.chainB md ops n && decide (plan.length = n) && planTB md ops n plan (Array.replicate ops.size false)
theorem wp_region_planT {id : Nat} {Q : Exit → Act → World → Prop} {a : Act} {w : World} (s : StJ) (hj : s.j w.drew) (he : s.e w.drew) (n : Nat) (plan : List (Bool × Nat)) (hm : P.follows .mixedOrders = true) (hB : treePTB .any l.toArray n plan = true)
  (h : wpPlan P l.toArray (fun s a3 => ∀ w', s.j w' → s.e w' → wpList P l.toArray Q (l.drop n) a3 w') (pickP l plan) s a) : (Code.region id l.toArray true).wp P Q a w := by
 simp only [treePTB, Bool.and_eq_true, decide_eq_true_eq] at hB
 obtain ⟨⟨⟨⟨⟨hsel, hn⟩, hs⟩, hc⟩, hlen⟩, hp⟩ := hB
 have hdl : (l.drop n).length = l.toArray.size - n := by simp
 have inv0 : HeadInv .any l.toArray n (Array.replicate l.toArray.size false) :=
  ⟨by simp, (fun j oj _ hl => by rw [getD_replicate_false] at hl; cases hl), fun t _ ht => getD_in (by simpa using ht) (getD_replicate_false _ _)⟩
 have H := jT_plan (md := .any) (P := P) hsel hs hc hn plan _ s a inv0 hp h
 refine wp_region_any hm ?_
 have := jT_any (Q' := Q) (g := l.toArray.size - n) (fun listed s a' w' h1 h2 hL => by
  have := wpAny_of_seq (md := .any) (Q' := Q) (l.drop n) n listed a' w' (fun j => by simp [List.getElem?_drop]) (by rw [hdl]; exact hL.1) (hL.2 w' h1 h2)
  rwa [hdl] at this) _ _ _ _ _ hj he H
 rw [hlen, show n + (l.toArray.size - n) = l.toArray.size by simp at hn ⊢; omega] at this
 exact this
end
def phiC (num : Int) (an : AnsM) (x : WrC) : Option WrC := match getK x.as_ num with
 | some a => if sameM a.m an then some { x with as_ := delK x.as_ num } else none
 | none => none
def phiM (num : Int) (an : AnsM) (x : WM) : Option WM := match getK x.2 num with
 | some a => if sameM a an then some (x.1, delK x.2 num) else none
 | none => none
theorem phi_p (num : Int) (an : AnsM) (x : WrC) : (phiC num an x).map WrC.p = phiM num an x.p := by
 unfold phiC phiM
 have h : getK x.p.2 num = (getK x.as_ num).map AnsC.m := getK_enc AnsC.m x.as_ num
 rw [h]
 cases getK x.as_ num with
 | none => rfl
 | some a =>
  simp only [Option.map_some]
  split
  ·rw [Option.map_some]
   congr 1
   show (x.dev, plainA (delK x.as_ num)) = (x.dev, delK (plainA x.as_) num)
   rw [show plainA (delK x.as_ num) = delK (plainA x.as_) num from (delK_enc AnsC.m x.as_ num).symm]
  ·rfl
theorem phi_ps (num : Int) (an : AnsM) : ∀ l : List WrC, (l.filterMap (phiC num an)).map WrC.p = (l.map WrC.p).filterMap (phiM num an)
 | [] => rfl
 | x :: l => by
  have h := phi_p num an x
  have ih := phi_ps num an l
  rw [List.filterMap_cons, List.map_cons, List.filterMap_cons, ← h]
  cases phiC num an x with
  | none => simpa using ih
  | some y => simp [ih]
theorem phi_same {num : Int} {an : AnsM} {x y : WrC} (h : phiC num an x = some y) : y.lo = x.lo ∧ y.hi = x.hi := by
 unfold phiC at h
 cases hg : getK x.as_ num with
 | none => rw [hg] at h; cases h
 | some a =>
  rw [hg] at h
  simp only at h
  split at h
  ·cases h; exact ⟨rfl, rfl⟩
  ·cases h
theorem dj_phi {num : Int} {an : AnsM} {l : List WrC} (h : l.Pairwise Dj) : (l.filterMap (phiC num an)).Pairwise Dj := by
 refine List.Pairwise.filterMap _ (fun a a' hd b hb b' hb' => ?_) h
 have h1 := phi_same hb
 have h2 := phi_same hb'
 unfold Dj at *
 rw [h1.1, h1.2, h2.1, h2.2]
 exact hd
theorem CK.app {α : Type} {e : EK α} {W8 W W' : World} {v v' : Value} {xs ys : List α} (h : CK W8 W) (ha : AppN e W8.heap.size W v xs ys v' W') : CK W8 W' := ⟨Nat.le_trans h.size ha.size, fun b cs t f hb => (ha.below.block b (Array.getElem?_eq_some_iff.1 hb).1).trans (h.keep b cs t f hb)⟩
theorem wrP_del {W W' : World} {x : WrC} {num : Int} (h : WrP W x) (h1 : MapAt .u64 W' x.M (delK (encA x.as_) num)) (h2 : OnlyB W W' x.M) : WrP W' { x with as_ := delK x.as_ num } := by
 have hk := BK.onlyK h.map h2
 refine ⟨h.dev.keep fun b _ hb => h2.block (by have := h.m0; omega), ?_, h.m0, h.m1, by rw [h2.2]; exact h.hi, h.lo, fun p hp => (h.ans p (List.mem_filter.1 hp).1).bk hk, fun p hp => h.num p (List.mem_filter.1 hp).1⟩
 rw [show encA (delK x.as_ num) = delK (encA x.as_) num from (delK_enc ansV x.as_ num).symm]
 exact h1
theorem wrP_other {W W' : World} {x y : WrC} (h : WrP W y) (hx : WrP W x) (hd : Dj x y ∨ Dj y x) (h2 : OnlyB W W' x.M) : WrP W' y := by
 have hk := BK.onlyK hx.map h2
 refine h.keep (fun b h3 h4 => h2.block (fun e => ?_)) (by rw [h2.2]; exact Nat.le_refl _) hk
 subst e
 have := hx.m0
 have := hx.m1
 have := hx.lo
 unfold Dj at hd
 omega
theorem OwnN.ckK {α : Type} {e : EK α} {b : Nat} {W W' : World} {v : Value} {xs : List α} (h : OwnN e b W v xs) (k : CK W W') : OwnN e b W' v xs := h.keep fun q hq => by
 obtain ⟨cs, hh⟩ := h.cellsBlock q hq
 rw [hh]
 exact (k.keep q _ _ _ hh).trans hh
theorem QAt.ckK {W W' : World} {v : Value} {q : Option CallC} (h : QAt W v q) (k : CK W W') : QAt W' v q := h.keep fun b cs f hb => k.keep b cs _ f hb
theorem wrP_app {α : Type} {e : EK α} {base : Nat} {W W' : World} {v v' : Value} {xs ys : List α} {x : WrC} (h : WrP W x) (hx : x.hi ≤ base) (k : AppN e base W v xs ys v' W') (he : e.E ≠ 5) : WrP W' x :=
 h.keep (fun b _ h2 => k.below.block b (Nat.lt_of_lt_of_le h2 hx)) k.size (BK.app k he)
def CKB (B : Nat) (W W' : World) : Prop := W.heap.size ≤ W'.heap.size ∧ ∀ (b : Nat) cs t f, b ≠ B → W.heap[b]? = some (Obj.cells cs t f) → W'.heap[b]? = W.heap[b]?
theorem CKB.gr {B : Nat} {W W' : World} (g : Gr W W') : CKB B W W' := ⟨g.below.size, fun b cs t f _ hb => g.below.block b (Array.getElem?_eq_some_iff.1 hb).1⟩
theorem CKB.ck {B : Nat} {W W' : World} (h : CK W W') : CKB B W W' := ⟨h.size, fun b cs t f _ hb => h.keep b cs t f hb⟩
theorem CKB.kb {B : Nat} {W W' : World} (h : KB B W W') : CKB B W W' := ⟨h.1, fun b cs t f hne hb => h.2 b (Array.getElem?_eq_some_iff.1 hb).1 hne⟩
theorem CKB.trans {B : Nat} {W W' W2 : World} (h : CKB B W W') (k : CKB B W' W2) : CKB B W W2 := ⟨Nat.le_trans h.1 k.1, fun b cs t f hne hb => (k.2 b cs t f hne ((h.2 b cs t f hne hb).trans hb)).trans (h.2 b cs t f hne hb)⟩
theorem CKB.set (B o : Nat) (W : World) (u : Value) : CKB B W (W.setCell ⟨B, o, none⟩ u) := ⟨by simp [World.setCell], fun b cs t f hne hb => Below.heap_setCell W ⟨B, o, none⟩ u b hne⟩
structure AnL (w W4 : World) (ws : List WrC) (num : Int) (an : AnsM) (k : Nat) (v : Value) (W : World) : Prop where
 ck : CK W4 W
 gr : Gr w W
 own : OwnN wrE W4.heap.size W v ((ws.take k).filterMap (phiC num an))
 out : ∀ y ∈ (ws.take k).filterMap (phiC num an), WrP W y
 rest : ∀ j x, k ≤ j → ws[j]? = some x → WrP W x
structure AnD (w W4 : World) (ws : List WrC) (num : Int) (an : AnsM) (k : Nat) (v : Value) (y : WrC) (W : World) : Prop where
 ck : CK W4 W
 gr : Gr w W
 own : OwnN wrE W4.heap.size W v ((ws.take k).filterMap (phiC num an))
 out : ∀ y ∈ (ws.take k).filterMap (phiC num an), WrP W y
 rest : ∀ j x, k + 1 ≤ j → ws[j]? = some x → WrP W x
 new : WrP W y
section
variable {w W4 W W' : World} {ws : List WrC} {num : Int} {an : AnsM} {k : Nat} {v : Value} {x y : WrC}
theorem AnL.grow (h : AnL w W4 ws num an k v W) (g : Gr W W') : AnL w W4 ws num an k v W' :=
 ⟨h.ck.trans (CK.gr g), h.gr.trans g, h.own.gr g, fun y hy => (h.out y hy).gr g, fun j x hj hx => (h.rest j x hj hx).gr g⟩
theorem AnD.grow (h : AnD w W4 ws num an k v y W) (g : Gr W W') : AnD w W4 ws num an k v y W' :=
 ⟨h.ck.trans (CK.gr g), h.gr.trans g, h.own.gr g, fun y hy => (h.out y hy).gr g, fun j x hj hx => (h.rest j x hj hx).gr g, h.new.gr g⟩
theorem take_phi (hx : ws[k]? = some x) : (ws.take (k + 1)).filterMap (phiC num an) = (ws.take k).filterMap (phiC num an) ++ (phiC num an x).toList := by
 rw [List.take_add_one, hx, List.filterMap_append]
 cases h : phiC num an x <;> simp [h]
theorem AnL.skip (h : AnL w W4 ws num an k v W) (hx : ws[k]? = some x) (hp : phiC num an x = none) : AnL w W4 ws num an (k + 1) v W := by
 have e := take_phi (num := num) (an := an) hx
 rw [hp] at e
 simp only [Option.toList_none, List.append_nil] at e
 exact ⟨h.ck, h.gr, by rw [e]; exact h.own, by rw [e]; exact h.out, fun j x hj => h.rest j x (by omega)⟩
theorem AnL.del (h : AnL w W4 ws num an k v W) (hx : ws[k]? = some x) (hpw : ws.Pairwise Dj) (hlow : ∀ x ∈ ws, w.heap.size ≤ x.lo) (h1 : MapAt .u64 W' x.M (delK (encA x.as_) num)) (h2 : OnlyB W W' x.M) : AnD w W4 ws num an k v { x with as_ := delK x.as_ num } W' := by
 have hX := h.rest k x (Nat.le_refl _) hx
 have hm := hX.map
 have hc := CK.only hm h2
 have hxm := List.mem_of_getElem? hx
 have hdj : ∀ i y, ws[i]? = some y → i ≠ k → Dj y x ∨ Dj x y := fun i y hi hne => by
  obtain ⟨p1, p2⟩ := List.getElem?_eq_some_iff.1 hi
  obtain ⟨p3, p4⟩ := List.getElem?_eq_some_iff.1 hx
  rcases Nat.lt_or_ge i k with h | h
  ·have := List.pairwise_iff_getElem.1 hpw i k p1 p3 h
   rw [p2, p4] at this
   exact .inl this
  ·have := List.pairwise_iff_getElem.1 hpw k i p3 p1 (by omega)
   rw [p2, p4] at this
   exact .inr this
 refine ⟨h.ck.trans hc, Gr.of (h2.below (by have := hlow x hxm; have := hX.lo; have := hX.m0; omega) hm.lt h.gr.below), h.own.ckK hc, fun y hy => ?_, fun j y hj hy => ?_, wrP_del hX h1 h2⟩
 ·obtain ⟨z, hz, hzy⟩ := List.mem_filterMap.1 hy
  obtain ⟨i, hi⟩ := List.mem_iff_getElem?.1 hz
  rw [List.getElem?_take] at hi
  split at hi
  ·rename_i hik
   have hd := hdj i z hi (by omega)
   have hs := phi_same hzy
   refine wrP_other (h.out y hy) hX ?_ h2
   unfold Dj at hd ⊢
   rw [hs.1, hs.2]
   omega
  ·cases hi
 ·exact wrP_other (h.rest j y (by omega) hy) hX ((hdj j y hy (by omega)).symm) h2
theorem AnD.app (h : AnD w W4 ws num an k v y W) (hx : ws[k]? = some x) (hp : phiC num an x = some y) (hhi : ∀ x ∈ ws, x.hi ≤ W4.heap.size) (hw : w.heap.size ≤ W4.heap.size) {v' : Value} (ha : AppN wrE W4.heap.size W v ((ws.take k).filterMap (phiC num an)) [y] v' W') : AnL w W4 ws num an (k + 1) v' W' := by
 have e := take_phi (num := num) (an := an) hx
 rw [hp] at e
 simp only [Option.toList_some] at e
 have hm : ∀ z ∈ (ws.take k).filterMap (phiC num an), z.hi ≤ W4.heap.size := fun z hz => by
  obtain ⟨u, hu, huz⟩ := List.mem_filterMap.1 hz
  rw [(phi_same huz).2]
  exact hhi u (List.mem_of_mem_take hu)
 have hy : y.hi ≤ W4.heap.size := by
  rw [(phi_same hp).2]
  exact hhi x (List.mem_of_getElem? hx)
 have he : wrE.E ≠ 5 := by decide
 refine ⟨h.ck.app ha, Gr.of (h.gr.below.trans (ha.below.mono hw)), by rw [e]; exact ha.own, by rw [e]; intro z hz; exact (List.mem_append.1 hz).elim (fun h3 => wrP_app (h.out z h3) (hm z h3) ha he) (fun h3 => by rw [List.mem_singleton.1 h3]; exact wrP_app h.new hy ha he), fun j z hj hz => wrP_app (h.rest j z hj hz) (hhi z (List.mem_of_getElem? hz)) ha he⟩
theorem AnL.start (hc : CK W4 W) (hg : Gr W4 W) (hw : Gr w W4) (h : ∀ x ∈ ws, WrP W4 x) : AnL w W4 ws num an 0 (.slice none 0 0) W :=
 ⟨hc, hw.trans hg, by simpa using OwnN.nil _ _, by simp, fun j x _ hx => (h x (List.mem_of_getElem? hx)).gr hg⟩
end
section
variable {w W : World} {B : Nat} {ws : List WrC} {q0 q1 : Option CallC} {gn : List CallC} {wv v0 v1 gv : Value}
theorem run_storeBw (n1 c1 : Nat) (A1 : Option Addr) {cs : Array Value} {u : Value} (hB : BlockAt W B cs 83) (h0 : cs[0]? = some u) : (storeVar 80 ⟨B, 0, none⟩ (.slice A1 n1 c1)).run Tryz.prog W = .ok () (W.setCell ⟨B, 0, none⟩ (.slice A1 n1 c1)) := by
 have cxd : W.cell? ⟨B, 0, none⟩ = some u := (bc 0 hB).trans h0
 have fxd : W.frozen? ⟨B, 0, none⟩ = false := @block_frozen _ _ 0 _ _ hB
 go_simp
theorem run_storeBc (o n1 c1 : Nat) (A1 : Option Addr) {cs : Array Value} {u : Value} (hB : BlockAt W B cs 83) (h0 : cs[o]? = some u) : (storeVar 52 ⟨B, o, none⟩ (.slice A1 n1 c1)).run Tryz.prog W = .ok () (W.setCell ⟨B, o, none⟩ (.slice A1 n1 c1)) := by
 have cxd : W.cell? ⟨B, o, none⟩ = some u := (bc o hB).trans h0
 have fxd : W.frozen? ⟨B, o, none⟩ = false := @block_frozen _ _ o _ _ hB
 go_simp
theorem effAt_storeS {w w' : World} {o : Oper} {a : Act} {K : Value → World → Prop} {ty : TypeId} {x y : Operand} {ad : Addr} {u : Value} (ho : o.op = .store ty x y) (hx : a.eval x = .pointer (some ad)) (hy : a.eval y = u) (hrun : (storeVar ty ad u).run Tryz.prog w = .ok () w') (h : K undef w') : EffAt Tryz.prog o a w K := by
 unfold EffAt execOp
 simp only [ho, hx, hy, Instr.storeAt, Instr.sureAddr, Sem.run_bind, Sem.run_pure, Result.andThen_ok, hrun, effUpon]
 exact h
theorem BkA.next {W4 : World} {num : Int} {an : AnsM} {k : Nat} {v : Value} (h : BkA w B ws q0 q1 gn wv v0 v1 gv W4) (a : AnL w W4 ws num an k v W) (hk : ws.length ≤ k) : BkA w B (ws.filterMap (phiC num an)) q0 q1 gn v v0 v1 gv (W.setCell ⟨B, 0, none⟩ v) := by
 have ho := a.own
 have hu := a.out
 rw [List.take_of_length_le hk] at ho hu
 have hb := a.ck.block h.blk
 haveI := hb
 refine ⟨?_, (ho.more h.gr.below.size).set_ B 0 v (cs := #[wv, v0, v1, gv]) (T := 83) (by decide), (h.w0.ckK a.ck).setB hb, (h.w1.ckK a.ck).setB hb, (h.g.ckK a.ck).set_ B 0 v (cs := #[wv, v0, v1, gv]) (T := 83) (by decide), Gr.of (a.gr.below.setCell (p := ⟨B, 0, none⟩) h.bB _), h.bB, fun x hx => (hu x hx).setB hb, dj_phi h.pw, h.ck, fun y hy => ?_⟩
 ·show BlockAt _ _ (#[wv, v0, v1, gv].setIfInBounds 0 _) _
  infer_instance
 ·obtain ⟨z, hz, hzy⟩ := List.mem_filterMap.1 hy
  rw [(phi_same hzy).1]
  exact h.low z hz
theorem BkA.set1 (h : BkA w B ws q0 q1 gn wv v0 v1 gv W) {v1' : Value} {q1' : Option CallC} (hq : QAt W v1' q1') (hck : ∀ c ∈ q1'.toList, CallOk w c) : BkA w B ws q0 q1' gn wv v0 v1' gv (W.setCell ⟨B, 2, none⟩ v1') := by
 have hb := h.blk
 haveI := hb
 refine ⟨?_, h.own.set_ B 2 v1' (cs := #[wv, v0, v1, gv]) (T := 83) (by decide), h.w0.setB hb, hq.setB hb, h.g.set_ B 2 v1' (cs := #[wv, v0, v1, gv]) (T := 83) (by decide), Gr.of (h.gr.below.setCell (p := ⟨B, 2, none⟩) h.bB _), h.bB, fun x hx => (h.all x hx).setB hb, h.pw, fun c hc => ?_, h.low⟩
 ·show BlockAt _ _ (#[wv, v0, v1, gv].setIfInBounds 2 _) _
  infer_instance
 ·simp only [List.mem_append] at hc
  rcases hc with hc | hc | hc
  ·exact h.ck c (by simp [hc])
  ·exact h.ck c (by simp only [List.mem_append]; exact .inr (.inl hc))
  ·exact hck c hc
theorem BkA.set0 (h : BkA w B ws q0 q1 gn wv v0 v1 gv W) {v0' : Value} {q0' : Option CallC} (hq : QAt W v0' q0') (hck : ∀ c ∈ q0'.toList, CallOk w c) : BkA w B ws q0' q1 gn wv v0' v1 gv (W.setCell ⟨B, 1, none⟩ v0') := by
 have hb := h.blk
 haveI := hb
 refine ⟨?_, h.own.set_ B 1 v0' (cs := #[wv, v0, v1, gv]) (T := 83) (by decide), hq.setB hb, h.w1.setB hb, h.g.set_ B 1 v0' (cs := #[wv, v0, v1, gv]) (T := 83) (by decide), Gr.of (h.gr.below.setCell (p := ⟨B, 1, none⟩) h.bB _), h.bB, fun x hx => (h.all x hx).setB hb, h.pw, fun c hc => ?_, h.low⟩
 ·show BlockAt _ _ (#[wv, v0, v1, gv].setIfInBounds 1 _) _
  infer_instance
 ·simp only [List.mem_append] at hc
  rcases hc with hc | hc | hc
  ·exact h.ck c (by simp [hc])
  ·exact hck c hc
  ·exact h.ck c (by simp only [List.mem_append]; exact .inr (.inr hc))
end
theorem getK_in {β : Type} {L : List (Int × β)} {k : Int} {v : β} (h : getK L k = some v) : (k, v) ∈ L := by
 induction L with
 | nil => cases h
 | cons p r ih =>
  obtain ⟨a, x⟩ := p
  simp only [getK] at h
  split at h
  ·rename_i e
   subst e
   cases h
   exact mcs
  ·exact List.mem_cons_of_mem _ (ih h)
theorem foldM_inv {α β : Type} {f : β → α → Option β} {P : β → Prop} (hf : ∀ b a c, f b a = some c → P b → P c) : ∀ (l : List α) (b c : β), l.foldlM f b = some c → P b → P c
 | [], b, c, h, hb => by cases h; exact hb
 | a :: l, b, c, h, hb => by
  obtain ⟨d, h1, h2⟩ := foldM_cons _ _ _ _ h
  exact foldM_inv hf l d c h2 (hf b a d h1 hb)
theorem addM_len : ∀ (f : Nat) (may : List (Int × OpM)) (x : WM) (st st' : SoM), addM f may x st = some st' → st.2.length ≤ 5000 → st'.2.length ≤ 5000
 | 0, _, _, _, _, h, _ => by cases h
 | f + 1, may, x, st, st', h, hl => by
  unfold addM at h
  split at h
  ·cases h
  split at h
  ·cases h; exact hl
  split at h
  ·cases h
  refine foldM_inv (P := fun st : SoM => st.2.length ≤ 5000) (fun b a c hb hl => ?_) may _ _ h (by simp; omega)
  split at hb
  ·cases hb; exact hl
  ·exact foldM_inv (P := fun st : SoM => st.2.length ≤ 5000) (fun b a c hb hl => addM_len f may _ b c hb hl) _ _ _ hb hl
theorem closeM_len {f : Nat} {may : List (Int × OpM)} {ws : List WM} {sn : List Byt} {outM : List WM} (h : closeM f may ws = some (sn, outM)) : outM.length ≤ 5000 :=
 foldM_inv (P := fun st : SoM => st.2.length ≤ 5000) (fun b a c hb hl => addM_len f may a b c hb hl) ws _ _ h (by simp)
def AnPost (w W : World) (B : Nat) (q0 : Option CallC) (gn : List CallC) (v0 gv : Value) (res : List WM) (e : Ending) (w' : World) : Prop :=
 e = .returned (.int .i64 (if res.length = 0 then 9 else 0)) ∧ CKB B W w' ∧ ∃ ws' wv' v1', BkA w B ws' q0 none gn wv' v0 v1' gv w' ∧ ws'.map WrC.p = res
theorem answered_1 {f : Nat} {w : World} {B : Nat} {ws : List WrC} {q0 : Option CallC} {x1 : CallC} {gn : List CallC} {wv v0 v1 gv : Value} {W : World} (h : BkA w B ws q0 (some x1) gn wv v0 v1 gv W) (hgl : gn.length ≤ 900) (hws : ws.length ≤ 5000) (c : CallC) (hnode : c.node = 1) (hnum : x1.num = c.num) (hco : CallOk w c) {sn : List Byt} {outM : List WM}
  (hc : closeM f (mayP (gn ++ (q0.toList ++ [x1]))) (ws.map WrC.p) = some (sn, outM)) :
  Calls Tryz.prog 34 #[ptrB B, .agg (callL c).toArray] W (AnPost w W B q0 gn v0 gv (outM.filterMap (phiM c.num c.an.m))) := by
 obtain ⟨A1, n1, c1, hv1, h11, h12, h13, h14⟩ := h.w1
 subst hv1
 obtain ⟨b1, p1, cs1, f1, hA1, hb1, hc1⟩ := h14 x1 rfl
 subst hA1
 have hn1 : n1 = 1 := h13
 subst hn1
 have hcl : (callL c).toArray = #[.int .u64 c.num, .int .i64 1, .int .i64 c.o.o.k, .int .u64 c.o.o.v, .int .u64 c.o.o.t, .int .i64 c.o.o.s, .int .i64 c.o.o.a, .int .i64 c.o.o.c, .slice c.o.D c.o.n c.o.q, .int .i64 c.at_, .int .i64 c.fr, .int .i64 c.tt, .bool c.dn, .int .i64 c.gone, .int .i64 c.seq, .int .i64 c.an.code, .int .i64 c.an.done, .slice c.an.D c.an.n c.an.q] := by simp [callL, hnode]
 rw [hcl]
 have HOL := hd_ (closeM_len hc)
 have HB0 := hd_ h
 have HCL := hd_ (fun W' (g : Gr W W') => close_any (h.grow g) hgl hws hc)
 have HCO := hd_ hco
 have hlt1 := (Array.getElem?_eq_some_iff.1 hb1).1
 have k0 : W.cell? ⟨b1, p1, none⟩ = some (.int .u64 c.num) := by rw [← hnum]; have := hc1 0 x1 rfl 0 _ rfl; simpa [callE] using this
 have HC0 := hd_ k0
 have H11 := hd_ h11
 have H12 := hd_ h12
 have HLT1 := hd_ hlt1
 have HH1 := hd_ hb1
 have k2 : W.cell? ⟨B, 2, none⟩ = some (.slice (some ⟨b1, p1, none⟩) 1 c1) := (bc 2 h.blk).trans rfl
 haveI := h.blk.old
 haveI : Old b1 W := ⟨hlt1⟩
 clear h hgl hws hc hco h11 h12 h13 h14 hc1 hb1 hlt1 hcl hnum hnode
 go_enter Tryz.func34, Tryz.ntmps34
 go_wp2
 obtain ⟨B3, hB3⟩ : ∃ B3, B3 = W.heap.size := ⟨_, rfl⟩
 obtain ⟨W1, hW1⟩ : ∃ W1, W1 = W.alloc (.cells #[.int .u64 c.num, .int .i64 1, .int .i64 c.o.o.k, .int .u64 c.o.o.v, .int .u64 c.o.o.t, .int .i64 c.o.o.s, .int .i64 c.o.o.a, .int .i64 c.o.o.c, .slice c.o.D c.o.n c.o.q, .int .i64 c.at_, .int .i64 c.fr, .int .i64 c.tt, .bool c.dn, .int .i64 c.gone, .int .i64 c.seq, .int .i64 c.an.code, .int .i64 c.an.done, .slice c.an.D c.an.n c.an.q] 51) := ⟨_, rfl⟩
 have g1 : Gr W W1 := by rw [hW1]; exact gri
 have b3 : BlockAt W1 B3 #[.int .u64 c.num, .int .i64 1, .int .i64 c.o.o.k, .int .u64 c.o.o.v, .int .u64 c.o.o.t, .int .i64 c.o.o.s, .int .i64 c.o.o.a, .int .i64 c.o.o.c, .slice c.o.D c.o.n c.o.q, .int .i64 c.at_, .int .i64 c.fr, .int .i64 c.tt, .bool c.dn, .int .i64 c.gone, .int .i64 c.seq, .int .i64 c.an.code, .int .i64 c.an.done, .slice c.an.D c.an.n c.an.q] 51 := by rw [hW1, hB3]; infer_instance
 rw [← hW1, ← hB3]
 have HB3 := hd_ b3
 have HG1 := hd_ g1
 have HBE := hd_ hB3
 clear hW1 hB3 g1 b3 k0 k2
 have HJ : Hid (∀ w1, Gr W1 w1 → BlockAt w1 B3 #[.int .u64 c.num, .int .i64 1, .int .i64 c.o.o.k, .int .u64 c.o.o.v, .int .u64 c.o.o.t, .int .i64 c.o.o.s, .int .i64 c.o.o.a, .int .i64 c.o.o.c, .slice c.o.D c.o.n c.o.q, .int .i64 c.at_, .int .i64 c.fr, .int .i64 c.tt, .bool c.dn, .int .i64 c.gone, .int .i64 c.seq, .int .i64 c.an.code, .int .i64 c.an.done, .slice c.an.D c.an.n c.an.q] 51 ∧ w1.cell? ⟨B, 2, none⟩ = some (.slice (some ⟨b1, p1, none⟩) 1 c1) ∧ w1.cell? ⟨b1, p1, none⟩ = some (.int .u64 c.num)) := hd_ fun w1 g => ⟨HB3.out.gr g, (bc 2 (HB0.out.blk.gr (HG1.out.trans g))).trans rfl, ((HG1.out.trans g).below.cell (p := ⟨b1, p1, none⟩) HLT1.out).trans HC0.out⟩
 refine wp_region_plan ⟨fun w' => Gr W1 w', fun _ => True⟩ gri trivial [(true, 0), (true, 1), (true, 2), (true, 3), (true, 4), (true, 5), (true, 6), (true, 7)] (by kernel_rfl) (by kernel_rfl) ?_
 simp only [pickP, pick, List.drop, List.take, List.nil_append, List.cons_append, List.map_cons, List.map_nil]
 refine p_same (ptrB B) rfl rfl (fun w1 hj => by go_simp) ?_
 simp only [Act.put, stA, List.set]
 refine p_same (.pointer (some ⟨B3, 1, none⟩)) rfl rfl (fun w1 hj => by go_simp) ?_
 simp only [Act.put, stA, List.set]
 refine p_same (.int .i64 1) rfl rfl (fun w1 hj => by obtain ⟨x0, x1, x2⟩ := HJ.out w1 hj; have y0 : w1.cell? ⟨B3, 0, none⟩ = some (.int .u64 c.num) := (bc 0 x0).trans rfl; have y1 : w1.cell? ⟨B3, 1, none⟩ = some (.int .i64 1) := (bc 1 x0).trans rfl; clear x0; go_simp) ?_
 simp only [Act.put, stA, List.set]
 refine p_same (ptrB B) rfl rfl (fun w1 hj => by go_simp) ?_
 simp only [Act.put, stA, List.set]
 refine p_same (.pointer (some ⟨B, 1, none⟩)) rfl rfl (fun w1 hj => by go_simp) ?_
 simp only [Act.put, stA, List.set]
 refine p_same (.pointer (some ⟨B, 2, none⟩)) rfl rfl (fun w1 hj => by go_simp) ?_
 simp only [Act.put, stA, List.set]
 refine p_same (.slice (some ⟨b1, p1, none⟩) 1 c1) rfl rfl (fun w1 hj => by obtain ⟨x0, x1, x2⟩ := HJ.out w1 hj; have y0 : w1.cell? ⟨B3, 0, none⟩ = some (.int .u64 c.num) := (bc 0 x0).trans rfl; have y1 : w1.cell? ⟨B3, 1, none⟩ = some (.int .i64 1) := (bc 1 x0).trans rfl; clear x0; go_simp) ?_
 simp only [Act.put, stA, List.set]
 refine p_same (.slice (some ⟨b1, p1, none⟩) 1 c1) rfl rfl (fun w1 hj => by go_simp) ?_
 simp only [Act.put, stA, List.set]
 refine p_nil ?_
 intro w2 hj2 _
 have HJ2 := hd_ hj2
 clear hj2
 go_wp2
 refine wp_region_plan ⟨fun w' => Gr W1 w', fun _ => True⟩ (HJ2.out.trans gri) trivial [(true, 0), (true, 1), (true, 2), (true, 3), (true, 4), (true, 5), (true, 6), (true, 7), (true, 8), (true, 9), (true, 10), (true, 11)] (by kernel_rfl) (by kernel_rfl) ?_
 simp only [pickP, pick, List.drop, List.take, List.nil_append, List.cons_append, List.map_cons, List.map_nil]
 refine p_same (.slice (some ⟨b1, p1, none⟩) 1 c1) rfl rfl (fun w1 hj => by go_simp) ?_
 simp only [Act.put, stA, List.set]
 refine p_same (.int .i64 1) rfl rfl (fun w1 hj => by go_simp) ?_
 simp only [Act.put, stA, List.set]
 refine p_same (.bool false) rfl rfl (fun w1 hj => by go_simp) ?_
 simp only [Act.put, stA, List.set]
 refine p_same (.bool false) rfl rfl (fun w1 hj => by go_simp) ?_
 simp only [Act.put, stA, List.set]
 refine p_same (.slice (some ⟨b1, p1, none⟩) 1 c1) rfl rfl (fun w1 hj => by go_simp) ?_
 simp only [Act.put, stA, List.set]
 refine p_same (.pointer (some ⟨b1, p1, none⟩)) rfl rfl (fun w1 hj => by go_simp) ?_
 simp only [Act.put, stA, List.set]
 refine p_same (.pointer (some ⟨b1, p1, none⟩)) rfl rfl (fun w1 hj => by go_simp) ?_
 simp only [Act.put, stA, List.set]
 refine p_same (.int .u64 c.num) rfl rfl (fun w1 hj => by obtain ⟨x0, x1, x2⟩ := HJ.out w1 hj; have y0 : w1.cell? ⟨B3, 0, none⟩ = some (.int .u64 c.num) := (bc 0 x0).trans rfl; have y1 : w1.cell? ⟨B3, 1, none⟩ = some (.int .i64 1) := (bc 1 x0).trans rfl; clear x0; go_simp) ?_
 simp only [Act.put, stA, List.set]
 refine p_same (.pointer (some ⟨B3, 0, none⟩)) rfl rfl (fun w1 hj => by go_simp) ?_
 simp only [Act.put, stA, List.set]
 refine p_same (.int .u64 c.num) rfl rfl (fun w1 hj => by obtain ⟨x0, x1, x2⟩ := HJ.out w1 hj; have y0 : w1.cell? ⟨B3, 0, none⟩ = some (.int .u64 c.num) := (bc 0 x0).trans rfl; have y1 : w1.cell? ⟨B3, 1, none⟩ = some (.int .i64 1) := (bc 1 x0).trans rfl; clear x0; go_simp) ?_
 simp only [Act.put, stA, List.set]
 refine p_same (.bool false) rfl rfl (fun w1 hj => by go_simp) ?_
 simp only [Act.put, stA, List.set]
 refine p_same (.bool false) rfl rfl (fun w1 hj => by go_simp) ?_
 simp only [Act.put, stA, List.set]
 refine p_nil ?_
 intro w3 hj3 _
 have HJ3 := hd_ hj3
 clear hj3 HJ2 w2
 go_wp2_with (first | (go_at_call 66; ((with_reducible refine (HCL.out _ (HG1.out.trans (HJ3.out.trans gri))).mono ?_); rintro _ W4 ⟨rfl, hk4, ws4, wv4, hb4, hm4⟩; have HK4 := hd_ hk4; have HCW4 := hd_ ((CKB.gr (HG1.out.trans HJ3.out)).trans (CKB.kb hk4)); have HB4 := hd_ hb4; have HM4 := hd_ hm4; clear hk4 hb4 hm4; obtain ⟨Aw, cw, hvw, _, _, _⟩ := HB4.out.own.form wrIs; obtain ⟨nw, hnw⟩ : ∃ nw, nw = ws4.length := ⟨_, rfl⟩; rw [← hnw] at hvw; subst hvw; have HNW := hd_ hnw; have HWL : Hid (ws4.length ≤ 5000) := hd_ (by have h1 := congrArg List.length HM4.out; rw [List.length_map] at h1; rw [h1]; exact HOL.out); clear hnw; have HX3 := hd_ (HK4.out.block (HB3.out.gr HJ3.out) (by have := HB0.out.blk.lt; rw [HBE.out]; omega)); have b40 : W4.cell? ⟨B, 0, none⟩ = some (.slice Aw nw cw) := (bc 0 HB4.out.blk).trans rfl; haveI := HB4.out.blk.old; haveI := HX3.out.old)))
 have HL0 := hd_ (AnL.start (num := c.num) (an := c.an.m) (CK.refl W4) (Gr.refl W4) HB4.out.gr HB4.out.all)
 go_loopw [6, 38] (fun v i wl => ∃ k : Nat, k ≤ nw ∧ i = .int .i64 (k : Int) ∧ AnL w W4 ws4 c.num c.an.m k v wl) (fun _ i _ => nw - (intOf i).toNat)
 case atStart => exact ⟨0, Nat.zero_le _, rfl, HL0.out⟩
 case round =>
  obtain ⟨k, hk, rfl, hl⟩ := hrel
  have HL := hd_ hl
  clear HL0 b40 hl
  have cx0 : wr.cell? ⟨B3, 0, none⟩ = some (.int .u64 c.num) := HL.out.ck.cell ((bc 0 HX3.out).trans rfl)
  have cx15 : wr.cell? ⟨B3, 15, none⟩ = some (.int .i64 c.an.code) := HL.out.ck.cell ((bc 15 HX3.out).trans rfl)
  have cx16 : wr.cell? ⟨B3, 16, none⟩ = some (.int .i64 c.an.done) := HL.out.ck.cell ((bc 16 HX3.out).trans rfl)
  have cx17 : wr.cell? ⟨B3, 17, none⟩ = some (.slice c.an.D c.an.n c.an.q) := HL.out.ck.cell ((bc 17 HX3.out).trans rfl)
  haveI := (HL.out.ck.block HX3.out).old
  by_cases hlt : k < nw
  ·have HLT := hd_ hlt
   obtain ⟨x, hx⟩ : ∃ x, ws4[k]? = some x := ⟨_, List.getElem?_eq_getElem (by rw [← HNW.out]; exact hlt)⟩
   obtain ⟨gw, cw', hvw, _, hgw, _, _, hcl, _⟩ := HB4.out.own.cells wrIs (by rintro rfl; simp at hx)
   simp only [Value.slice.injEq] at hvw
   obtain ⟨rfl, hq0, rfl⟩ := hvw
   clear hq0
   have e0 : wr.cell? ⟨gw, k * 2, none⟩ = some (.pointer (some ⟨x.D, 0, none⟩)) := HL.out.ck.cell (by have := hcl k x hx 0 _ rfl; simpa [wrE] using this)
   have e1 : wr.cell? ⟨gw, k * 2 + 1, none⟩ = some (.map (some x.M)) := HL.out.ck.cell (by have := hcl k x hx 1 _ rfl; simpa [wrE] using this)
   haveI : Old gw wr := ⟨Nat.lt_of_lt_of_le hgw HL.out.ck.size⟩
   have hxw := HL.out.rest k x (Nat.le_refl _) hx
   have hge : getK (encA x.as_) c.num = (getK x.as_ c.num).map ansV := getK_enc ansV x.as_ c.num
   have HX := hd_ hx
   have HXM := hd_ hxw.map
   have HXA := hd_ hxw.ans
   have hslt : (k : Int) < (nw : Int) := by omega
   have hnn : nw ≤ 5000 := by rw [HNW.out]; exact HWL.out
   clear hx hcl hgw hxw
   cases hgk : getK x.as_ c.num with
   | none =>
    rw [hgk] at hge
    have HGE := hd_ hge
    have HP := hd_ (show phiC c.num c.an.m x = none by unfold phiC; rw [hgk])
    clear hge hgk
    go_wp2_with (first | (at_lookup; refine wpList_lookupK (q := .u64) (b := x.M) rfl _ _ rfl c.num Tryz.underlying77 Tryz.underlying24 (Tryz.zeroValue38 _) (HXM.out.gr gri) rfl rfl ?_; rw [HGE.out]))
    go_roundw
    case rel => exact ⟨k + 1, HLT.out, by go_num, (HL.out.grow gri).skip HX.out HP.out⟩
    case measure => have := HLT.out; simp [intOf]; omega
   | some a =>
    rw [hgk] at hge
    have hma := HXA.out _ (getK_in hgk)
    have HSM := hd_ (fun W' (g : Gr wr W') => same_any24 a c.an 0 0 W' (hma.gr g) ((HCO.out.an.gr HL.out.gr).gr g))
    have HGE : Hid (getK (encA x.as_) c.num = some (.agg #[.int .i64 a.code, .int .i64 a.done, .slice a.D a.n a.q])) := hd_ hge
    cases hsm : sameM a.m c.an.m with
    | false =>
     have HP := hd_ (show phiC c.num c.an.m x = none by unfold phiC; rw [hgk]; simp only [hsm]; rfl)
     have HSB := hd_ hsm
     clear hge hgk hma hsm
     go_wp2_with (first | (at_lookup; refine wpList_lookupK (q := .u64) (b := x.M) rfl _ _ rfl c.num Tryz.underlying77 Tryz.underlying24 (Tryz.zeroValue38 _) (HXM.out.gr gri) rfl rfl ?_; rw [HGE.out]) | (go_at_call 67; ((with_reducible refine (HSM.out _ gri).mono ?_); rintro _ _ ⟨rfl, ⟨g8, rfl⟩⟩; rw [HSB.out])))
     go_roundw
     case rel => exact ⟨k + 1, HLT.out, by go_num, (HL.out.grow gri).skip HX.out HP.out⟩
     case measure => have := HLT.out; simp [intOf]; omega
    | true =>
     have HP := hd_ (show phiC c.num c.an.m x = some { x with as_ := delK x.as_ c.num } by unfold phiC; rw [hgk]; simp only [hsm]; rfl)
     have HSB := hd_ hsm
     have HLE : Hid (((ws4.take k).filterMap (phiC c.num c.an.m)).length + [({ x with as_ := delK x.as_ c.num } : WrC)].length ≤ 100000000) := hd_ (by have h1 := List.length_filterMap_le (phiC c.num c.an.m) (ws4.take k); rw [List.length_take] at h1; have h2 := HWL.out; simp only [List.length_singleton]; omega)
     clear hge hgk hma hsm
     go_wp2_with (first | (at_lookup; refine wpList_lookupK (q := .u64) (b := x.M) rfl _ _ rfl c.num Tryz.underlying77 Tryz.underlying24 (Tryz.zeroValue38 _) (HXM.out.gr gri) rfl rfl ?_; rw [HGE.out]) | (go_at_call 67; ((with_reducible refine (HSM.out _ gri).mono ?_); rintro _ _ ⟨rfl, ⟨g8, rfl⟩⟩; rw [HSB.out])) | (refine wpList_deleteK rfl _ _ rfl c.num Tryz.underlying77 Tryz.underlying24 (HXM.out.gr gri) rfl rfl fun W5 h1 h2 => ?_; have HD5 := hd_ ((HL.out.grow gri).del HX.out HB4.out.pw HB4.out.low h1 h2); have hb8 : BlockAt W5 wr.heap.size #[.pointer (some ⟨x.D, 0, none⟩), .map (some x.M)] 79 := (CK.only (HXM.out.gr gri) h2).block inferInstance; haveI := hb8.old; have c80 : W5.cell? ⟨wr.heap.size, 0, none⟩ = some (.pointer (some ⟨x.D, 0, none⟩)) := (bc 0 hb8).trans rfl; have c81 : W5.cell? ⟨wr.heap.size, 1, none⟩ = some (.map (some x.M)) := (bc 1 hb8).trans rfl; clear h1 h2 hb8) | (at_builtin; refine wp_append_n (base := W4.heap.size) (v := u6) (xs := (ws4.take k).filterMap (phiC c.num c.an.m)) wrIs rfl _ _ rfl rfl (HD5.out.grow gri).own _ 0 [{ x with as_ := delK x.as_ c.num }] 1 1 rfl rfl (fun _ _ => trivial) (CellsN.block _ inferInstance rfl) HLE.out (Nat.le_trans HD5.out.ck.size past) (by simp) ?_; intro v1 W9 h9; have HL9 := hd_ ((HD5.out.grow gri).app HX.out HP.out (fun x hx => (HB4.out.all x hx).hi) HB4.out.gr.below.size h9); clear h9))
     go_roundw
     case rel => exact ⟨k + 1, HLT.out, by go_num, HL9.out⟩
     case measure => have := HLT.out; simp [intOf]; omega
  ·have : k = nw := by omega
   subst this
   have hla := HL.out
   obtain ⟨ws9, hws9⟩ : ∃ l, l = (ws4.take k).filterMap (phiC c.num c.an.m) := ⟨_, rfl⟩
   obtain ⟨A9, c9, hv9, _, _, _⟩ := hla.own.form wrIs
   rw [← hws9] at hv9
   obtain ⟨n9, hn9⟩ : ∃ n9, n9 = ws9.length := ⟨_, rfl⟩
   rw [← hn9] at hv9
   subst hv9
   have HN9 := hd_ hn9
   have HWS9 := hd_ hws9
   have hbk := hla.ck.block HB4.out.blk
   haveI := hbk.old
   have HBK := hd_ hbk
   clear hla hws9 hn9 hbk
   have h1c : 1 ≤ c1 := H11.out
   have hnb : B3 ≠ B := by have := HB0.out.blk.lt; rw [HBE.out]; omega
   have HNB := hd_ hnb
   obtain ⟨p2, hp2⟩ : ∃ p2, p2 = if c1 = 1 then p1 else p1 + 18 := ⟨_, rfl⟩
   have HP2 := hd_ hp2
   clear hp2
   clear hnb
   go_wp2
   refine wp_region_plan ⟨fun w' => BlockAt w' B3 #[.int .u64 c.num, .int .i64 1, .int .i64 c.o.o.k, .int .u64 c.o.o.v, .int .u64 c.o.o.t, .int .i64 c.o.o.s, .int .i64 c.o.o.a, .int .i64 c.o.o.c, .slice c.o.D c.o.n c.o.q, .int .i64 c.at_, .int .i64 c.fr, .int .i64 c.tt, .bool c.dn, .int .i64 c.gone, .int .i64 c.seq, .int .i64 c.an.code, .int .i64 c.an.done, .slice c.an.D c.an.n c.an.q] 51, fun w' => Gr wr w'⟩ ((HL.out.ck.block HX3.out).gr gri) gri [(true,0),(true,1),(true,2),(true,3),(true,4),(true,5),(true,6),(true,7),(true,8),(true,10),(true,11),(false,9),(true,12),(false,13)] (by kernel_rfl) (by kernel_rfl) ?_
   simp only [pickP, pick, List.drop, List.take, List.nil_append, List.cons_append, List.map_cons, List.map_nil]
   refine p_same (ptrB B) rfl rfl (fun w1 hj => by go_simp) ?_
   simp only [Act.put, stA, List.set]
   refine p_same (ptrB B) rfl rfl (fun w1 hj => by go_simp) ?_
   simp only [Act.put, stA, List.set]
   refine p_same (.pointer (some ⟨B3, 1, none⟩)) rfl rfl (fun w1 hj => by go_simp) ?_
   simp only [Act.put, stA, List.set]
   refine p_same (.int .i64 1) rfl rfl (fun w1 hj => by have y1 : w1.cell? ⟨B3, 1, none⟩ = some (.int .i64 1) := (bc 1 hj).trans rfl; go_simp) ?_
   simp only [Act.put, stA, List.set]
   refine p_same (.slice A9 n9 c9) rfl rfl (fun w1 hj => by go_simp) ?_
   simp only [Act.put, stA, List.set]
   refine p_same (.slice (some ⟨b1, p1, none⟩) 1 c1) rfl rfl (fun w1 hj => by go_simp) ?_
   simp only [Act.put, stA, List.set]
   refine p_same (.slice (some ⟨b1, p2, none⟩) 0 (c1 - 1)) rfl rfl (fun w1 hj => by (rcases Decidable.em (c1 = 1) with hc9 | hc9); (focus (rw [HP2.out, if_pos hc9]; first | done | (subst hc9; go_simp))); (focus (rw [HP2.out, if_neg hc9]; first | done | go_simp))) ?_
   simp only [Act.put, stA, List.set]
   refine p_same (ptrB B) rfl rfl (fun w1 hj => by go_simp) ?_
   simp only [Act.put, stA, List.set]
   refine p_same (.pointer (some ⟨B, 0, none⟩)) rfl rfl (fun w1 hj => by go_simp) ?_
   simp only [Act.put, stA, List.set]
   refine p_same (ptrB B) rfl rfl (fun w1 hj => by go_simp) ?_
   simp only [Act.put, stA, List.set]
   refine p_same (.pointer (some ⟨B, 1, none⟩)) rfl rfl (fun w1 hj => by go_simp) ?_
   simp only [Act.put, stA, List.set]
   refine p_eff0 rfl rfl (fun w1 hj he => effAt_storeS rfl rfl rfl (run_storeBw n9 c9 A9 (HBK.out.gr he) rfl) ⟨⟨fun w' => BlockAt w' B3 #[.int .u64 c.num, .int .i64 1, .int .i64 c.o.o.k, .int .u64 c.o.o.v, .int .u64 c.o.o.t, .int .i64 c.o.o.s, .int .i64 c.o.o.a, .int .i64 c.o.o.c, .slice c.o.D c.o.n c.o.q, .int .i64 c.at_, .int .i64 c.fr, .int .i64 c.tt, .bool c.dn, .int .i64 c.gone, .int .i64 c.seq, .int .i64 c.an.code, .int .i64 c.an.done, .slice c.an.D c.an.n c.an.q] 51, fun w' => BkA w B ws9 q0 (some x1) gn (.slice A9 n9 c9) v0 (.slice (some ⟨b1, p1, none⟩) 1 c1) gv w' ∧ CKB B W w'⟩, ⟨⟨(Below.heap_setCell w1 ⟨B, 0, none⟩ _ B3 HNB.out).trans hj.eq⟩, (by rw [HWS9.out, List.take_of_length_le (by rw [← HNW.out]; exact Nat.le_refl _)]; exact HB4.out.next (HL.out.grow he) (by rw [← HNW.out]; exact Nat.le_refl _)), ((HCW4.out.trans (CKB.ck HL.out.ck)).trans (CKB.gr he)).trans (CKB.set B 0 w1 _)⟩, fun _ h => h, ?_⟩)
   refine p_same (.pointer (some ⟨B, 2, none⟩)) rfl rfl (fun w1 hj => by go_simp) ?_
   simp only [Act.put, stA, List.set]
   refine p_eff0 rfl rfl (fun w1 hj he => effAt_storeS rfl rfl rfl (run_storeBc 2 _ _ _ he.1.blk rfl) ⟨⟨fun w' => BlockAt w' B3 #[.int .u64 c.num, .int .i64 1, .int .i64 c.o.o.k, .int .u64 c.o.o.v, .int .u64 c.o.o.t, .int .i64 c.o.o.s, .int .i64 c.o.o.a, .int .i64 c.o.o.c, .slice c.o.D c.o.n c.o.q, .int .i64 c.at_, .int .i64 c.fr, .int .i64 c.tt, .bool c.dn, .int .i64 c.gone, .int .i64 c.seq, .int .i64 c.an.code, .int .i64 c.an.done, .slice c.an.D c.an.n c.an.q] 51, fun w' => BkA w B ws9 q0 none gn (.slice A9 n9 c9) v0 (.slice (some ⟨b1, p2, none⟩) 0 (c1 - 1)) gv w' ∧ CKB B W w'⟩, ⟨⟨(Below.heap_setCell w1 ⟨B, 2, none⟩ _ B3 HNB.out).trans hj.eq⟩, he.1.set1 ⟨_, _, _, rfl, Nat.zero_le _, by have := H12.out; omega, rfl, fun x hx => (by cases hx)⟩ (fun c hc => (by cases hc)), he.2.trans (CKB.set B 2 w1 _)⟩, fun _ h => h, ?_⟩)
   refine p_nil ?_
   intro w5 hj5 he5
   have HE5 := hd_ he5
   clear hj5 he5
   have hfin : ∀ r, r = Value.int .i64 (if ws9.length = 0 then 9 else 0) → AnPost w W B q0 gn v0 gv (outM.filterMap (phiM c.num c.an.m)) (.returned r) w5 := fun r hr => by
    have hres : ws9.map WrC.p = outM.filterMap (phiM c.num c.an.m) := by
     rw [HWS9.out, List.take_of_length_le (by rw [← HNW.out]; exact Nat.le_refl _), phi_ps, HM4.out]
    refine ⟨?_, HE5.out.2, ws9, _, _, HE5.out.1, hres⟩
    rw [hr, ← hres, List.length_map]
   have HFIN := hd_ hfin
   clear hfin
   by_cases h90 : n9 = 0
   ·have hr := HFIN.out (.int .i64 9) (by rw [← HN9.out, if_pos h90])
    have HR := hd_ hr
    clear hr
    subst h90
    go_wp2
    refine bodyPost_ret (results_tmp rfl _ _ _) rfl ?_
    exact HR.out
   ·have hr := HFIN.out (.int .i64 0) (by rw [← HN9.out, if_neg h90])
    have HR := hd_ hr
    clear hr
    have hn9 : (n9 : Int) ≠ 0 := by omega
    go_wp2
    refine bodyPost_ret (results_tmp rfl _ _ _) rfl ?_
    exact HR.out
theorem below_setCellsL {base g : Nat} (h : base ≤ g) : ∀ (vs : List Value) (o : Nat) (w W : World), Below base w W → Below base w (W.setCells g o vs)
 | [], o, w, W, hb => hb
 | v :: r, o, w, W, hb => below_setCellsL h r (o + 1) w _ (hb.setCell (p := ⟨g, o, none⟩) h v)
abbrev lF (Bc Bf : Nat) : Value := .func (.func 65) #[] #[ptrB Bc, ptrB Bf]
theorem left1_any (x : CallC) (Bc Bf : Nat) (W : World) [Old Bc W] [Old Bf W] (hc : W.cell? ⟨Bc, 0, none⟩ = some (.int .u64 x.num)) : Calls Tryz.prog 65 #[.agg (callL x).toArray, ptrB Bc, ptrB Bf] W fun e w' => e = .returned (.bool true) ∧ Gr W w' := by
 have hcl : (callL x).toArray = #[.int .u64 x.num, .int .i64 x.node, .int .i64 x.o.o.k, .int .u64 x.o.o.v, .int .u64 x.o.o.t, .int .i64 x.o.o.s, .int .i64 x.o.o.a, .int .i64 x.o.o.c, .slice x.o.D x.o.n x.o.q, .int .i64 x.at_, .int .i64 x.fr, .int .i64 x.tt, .bool x.dn, .int .i64 x.gone, .int .i64 x.seq, .int .i64 x.an.code, .int .i64 x.an.done, .slice x.an.D x.an.n x.an.q] := by simp [callL]
 rw [hcl]
 clear hcl
 go_enter Tryz.func65, Tryz.ntmps65
 go_wp2
 go_ret
 exact ⟨rfl, gri⟩
theorem index_one (x : CallC) (base g cap Bc Bf : Nat) (W : World) [Old Bc W] [Old Bf W] (hc : W.cell? ⟨Bc, 0, none⟩ = some (.int .u64 x.num)) (h : CellsN callE W g 0 [x]) [Old g W] : Calls Tryz.prog 92 #[.slice (some ⟨g, 0, none⟩) 1 cap, lF Bc Bf] W fun e w' => e = .returned (.int .i64 0) ∧ Gr W w' := by
 have HF := hd_ (fun W' (g : Gr W W') => @left1_any x Bc Bf W' ⟨Nat.lt_of_lt_of_le (Old.lt (b := Bc) (W := W)) g.below.size⟩ ⟨Nat.lt_of_lt_of_le (Old.lt (b := Bf) (W := W)) g.below.size⟩ ((g.below.cell (p := ⟨Bc, 0, none⟩) (Old.lt (b := Bc) (W := W))).trans hc))
 have hrow : ∀ W', Gr W W' → ∀ (i : Nat) u, (callL x)[i]? = some u → W'.cell? ((⟨g, 0, none⟩ : Addr).add i) = some u := fun W' gr i u hu => by
  have := h 0 x rfl i u hu
  rw [Go.WideShapes.add_plain]
  refine (gr.below.cell (p := ⟨g, 0 + i, none⟩) (Old.lt (b := g) (W := W))).trans ?_
  simpa [callE] using this
 have HROW := hd_ hrow
 clear h hrow hc
 go_enter Tryz.func92, Tryz.ntmps92
 go_wp2
 go_loopw [8] (fun i wl => i = .int .i64 0 ∧ Gr W wl) (fun i _ => 1)
 case atStart => exact ⟨rfl, gri⟩
 case round =>
  obtain ⟨rfl, hg⟩ := hrel
  have HG := hd_ hg
  haveI := grc_of hg
  haveI := from_of hg
  clear hg
  go_wp2_with (first
   | (refine wpLoadCs rfl _ _ rfl ⟨g, 0, none⟩ (callL x) _ rfl Tryz.underlying51 rfl (by kernel_rfl) (HROW.out _ (HG.out.trans gri)) ?_)
   | (go_at_call 65; ((with_reducible refine (HF.out _ (HG.out.trans gri)).mono ?_); rintro _ _ ⟨rfl, ⟨g8, rfl⟩⟩)))
  refine bodyPost_ret (results_tmp rfl _ _ _) rfl ?_
  exact ⟨rfl, gri⟩
theorem run_clear18 {W : World} {g : Nat} {x : CallC} (cap : Nat) (h : CellsN callE W g 0 [x]) (hf : ∀ o, W.frozen? ⟨g, o, none⟩ = false) (ty : TypeId) : (Builtin.clear_ #[52] ty #[.slice (some ⟨g, 0, none⟩) 1 cap]).run Tryz.prog W = .ok (.tuple #[]) (W.setCells g 0 (Builtin.zeroCells callZ.cells 1).toList) := by
 have hl : (Builtin.zeroCells callZ.cells 1).toList.length = 18 := by kernel_rfl
 have h1 : ∀ v ∈ (Builtin.zeroCells callZ.cells 1).toList, v.oneCell' = true := by
  have : (Builtin.zeroCells callZ.cells 1).toList.all (·.oneCell') = true := by kernel_rfl
  exact fun v hv => List.all_eq_true.1 this v hv
 have hst := run_storeCells_cells (P := Tryz.prog) g 0 _ 0 W (fun j hj => by
  have hlt : j < (callL x).length := by rw [hl] at hj; exact hj
  have := h 0 x rfl j _ (List.getElem?_eq_getElem hlt)
  simp only [Nat.zero_mul, Nat.zero_add, Nat.add_zero] at this ⊢
  rw [this]
  rfl) (fun j _ => hf _) h1
 simp only [Nat.add_zero] at hst
 have hz : (zeroValue 51).run Tryz.prog W = .ok callZ W := Tryz.zeroValue51 _
 simp [Builtin.clear_, run_underlying Tryz.underlying52, hz, hst]
theorem delete_one (x : CallC) (base g cap Bc Bf : Nat) (W : World) [Old Bc W] [Old Bf W] (hc : W.cell? ⟨Bc, 0, none⟩ = some (.int .u64 x.num)) (h : CellsN callE W g 0 [x]) (hf : ∀ o, W.frozen? ⟨g, o, none⟩ = false) [Old g W] : Calls Tryz.prog 63 #[.slice (some ⟨g, 0, none⟩) 1 cap, lF Bc Bf] W fun e w' => e = .returned (.slice (some ⟨g, 0, none⟩) 0 cap) ∧ ∃ zs W1, Gr W W1 ∧ w' = W1.setCells g 0 zs := by
 have HI := hd_ (index_one x base g cap Bc Bf W hc h)
 have HCL := hd_ (fun W' (gr : Gr W W') (hf : ∀ o, W'.frozen? ⟨g, o, none⟩ = false) => run_clear18 cap (h.gr (Old.lt (b := g) (W := W)) gr) hf)
 have HFZ := hd_ hf
 clear hc h hf
 go_enter Tryz.func63, Tryz.ntmps63
 go_wp2_with (first | (go_at_call 92; ((with_reducible refine HI.out.mono ?_); rintro _ _ ⟨rfl, ⟨g8, rfl⟩⟩)))
 obtain ⟨W1, hW1⟩ : ∃ W1, W1 = grown W g8 := ⟨_, rfl⟩
 have hg1 : Gr W W1 := by rw [hW1]; exact gri
 rw [← hW1]
 have HG1 := hd_ hg1
 have hfz : ∀ o, W1.frozen? ⟨g, o, none⟩ = false := fun o => by
  rw [← HFZ.out o]
  simp only [World.frozen?]
  rw [hg1.below.block g (Old.lt (b := g) (W := W))]
 obtain ⟨zs, hzs⟩ : ∃ zs, ∀ ty, (Builtin.clear_ #[52] ty #[.slice (some ⟨g, 0, none⟩) 1 cap]).run Tryz.prog W1 = .ok (.tuple #[]) (W1.setCells g 0 zs) := ⟨_, fun ty => HCL.out W1 hg1 hfz ty⟩
 clear hW1 hg1 hfz
 have HZ := hd_ hzs
 clear hzs
 go_loopw [5, 6] (fun i j wl => i = .int .i64 0 ∧ j = .int .i64 1 ∧ wl = W1) (fun i _ _ => 1)
 case atStart => exact ⟨rfl, rfl, rfl⟩
 case round =>
  obtain ⟨rfl, rfl, rfl⟩ := hrel
  have hcl := HZ.out
  go_wp2_with (simp only [hcl])
  refine bodyPost_ret (results_tmp rfl _ _ _) rfl ?_
  exact ⟨rfl, zs, _, HG1.out, rfl⟩
theorem run_load_call {o : Oper} {a : Act} {w : World} {x : Operand} {B : Nat} {l : List Value} (ho : o.op = .load 51 x) (hx : a.eval x = .pointer (some ⟨B, 0, none⟩)) (hB : BlockAt w B l.toArray 51) (hl : l.length = 18) : (execOp a.eval o).run Tryz.prog w = .ok (.value (.agg l.toArray)) w := by
 have h := run_loadAt_mid (P := Tryz.prog) w B 0 51 l _ (fun j v hv => by rw [Nat.zero_add]; exact (bc j hB).trans (by simpa using hv)) Tryz.underlying51 rfl (by rw [hl]; kernel_rfl)
 unfold execOp
 simp only [ho, hx, Sem.run_bind, h, Result.andThen_ok, Sem.run_pure]
theorem run_storeBl (Bf : Nat) {w : World} (u v : Bool) (hB : BlockAt w Bf #[.bool u] 4) : (storeVar 4 ⟨Bf, 0, none⟩ (.bool v)).run Tryz.prog w = .ok () (w.setCell ⟨Bf, 0, none⟩ (.bool v)) := by
 have cxd : w.cell? ⟨Bf, 0, none⟩ = some (.bool u) := (bc 0 hB).trans rfl
 have fxd : w.frozen? ⟨Bf, 0, none⟩ = false := @block_frozen _ _ 0 _ _ hB
 go_simp
theorem clone_one (b p cap : Nat) (x : CallC) (w : World) (h : CellsN callE w b p [x]) [hb : Old b w] : Calls Tryz.prog 64 #[.slice (some ⟨b, p, none⟩) 1 cap] w fun e w' => ∃ g cap', e = .returned (.slice (some ⟨g, 0, none⟩) 1 cap') ∧ w.heap.size ≤ g ∧ CellsN callE w' g 0 [x] ∧ (∀ o, w'.frozen? ⟨g, o, none⟩ = false) ∧ g < w'.heap.size ∧ 1 ≤ cap' ∧ cap' ≤ maxLen ∧ Gr w w' := by
 have hr : RowN callE w (some ⟨b, p, none⟩) [x] := ⟨fun _ _ => trivial, fun _ => ⟨b, p, rfl, hb.lt, h⟩⟩
 have HR := hd_ hr
 have HE := hd_ (fun (W : World) (g : Gr w W) (hB : BlockAt W w.heap.size #[] 51) => show OwnN callE w.heap.size W (.slice (some ⟨w.heap.size, 0, none⟩) 0 0) [] from ⟨by simp, by simp, .inr ⟨w.heap.size, 0, #[], rfl, Nat.le_refl _, hB.eq, Nat.le_refl _, Nat.zero_le _, rfl, rfl⟩⟩)
 clear hr h
 go_enter Tryz.func64, Tryz.ntmps64
 go_wp2_with (first | (at_builtin; refine wp_append_x callIs rfl _ _ rfl rfl (HE.out _ gri inferInstance) (some ⟨b, p, none⟩) [x] 1 cap rfl rfl (fun e => by cases e) (HR.out.gr gri) (by simp) past ?_; intro v1 W1 h1; have H1 := hd_ h1; clear h1; haveI := H1.out.grc w (Nat.le_refl _); haveI := H1.out.from_ w))
 go_ret
 obtain ⟨g, c', hv, h2, h3, h4, h5, h6, h7⟩ := H1.out.own.cells callIs (by simp)
 exact ⟨g, c', by rw [hv]; rfl, h2, by simpa using h6, h7, h3, by simpa using h4, h5, gri⟩
theorem BkA.setG {w W : World} {B : Nat} {ws : List WrC} {q0 q1 : Option CallC} {gn gn' : List CallC} {wv v0 v1 gv gv' : Value} (h : BkA w B ws q0 q1 gn wv v0 v1 gv W) (hg : OwnN callE w.heap.size W gv' gn') (hck : ∀ c ∈ gn', CallOk w c) : BkA w B ws q0 q1 gn' wv v0 v1 gv' (W.setCell ⟨B, 3, none⟩ gv') := by
 have hb := h.blk
 haveI := hb
 refine ⟨?_, h.own.set_ B 3 gv' (cs := #[wv, v0, v1, gv]) (T := 83) (by decide), h.w0.setB hb, h.w1.setB hb, hg.set_ B 3 gv' (cs := #[wv, v0, v1, gv]) (T := 83) (by decide), Gr.of (h.gr.below.setCell (p := ⟨B, 3, none⟩) h.bB _), h.bB, fun x hx => (h.all x hx).setB hb, h.pw, fun c hc => ?_, h.low⟩
 ·show BlockAt _ _ (#[wv, v0, v1, gv].setIfInBounds 3 _) _
  infer_instance
 ·rcases List.mem_append.1 hc with hc | hc
  ·exact hck c hc
  ·exact h.ck c (List.mem_append_right _ hc)
theorem left_0 {w : World} {B : Nat} {ws : List WrC} {q1 : Option CallC} {wv v0 v1 : Value} {W : World} (c x0 : CallC) (h : BkA w B ws (some x0) q1 [] wv v0 v1 (.slice none 0 0) W) (hnode : c.node = 0) (hnum : x0.num = c.num) (hco : CallOk w c) :
  Calls Tryz.prog 33 #[ptrB B, .agg (callL c).toArray] W (fun e w' => e = .returned (.tuple #[]) ∧ CKB B W w' ∧ ∃ v0' gv', BkA w B ws none q1 [c] wv v0' v1 gv' w') := by
 obtain ⟨A0, n0, c0, hv0, h01, h02, h03, h04⟩ := h.w0
 subst hv0
 obtain ⟨b0, p0, cs0, f0, hA0, hb0, hc0⟩ := h04 x0 rfl
 subst hA0
 have hn0 : n0 = 1 := h03
 subst hn0
 have hcl : (callL c).toArray = #[.int .u64 c.num, .int .i64 0, .int .i64 c.o.o.k, .int .u64 c.o.o.v, .int .u64 c.o.o.t, .int .i64 c.o.o.s, .int .i64 c.o.o.a, .int .i64 c.o.o.c, .slice c.o.D c.o.n c.o.q, .int .i64 c.at_, .int .i64 c.fr, .int .i64 c.tt, .bool c.dn, .int .i64 c.gone, .int .i64 c.seq, .int .i64 c.an.code, .int .i64 c.an.done, .slice c.an.D c.an.n c.an.q] := by simp [callL, hnode]
 rw [hcl]
 have HCL := hd_ hcl
 have HB0 := hd_ h
 have hlt0 := (Array.getElem?_eq_some_iff.1 hb0).1
 have k0 : W.cell? ⟨b0, p0, none⟩ = some (.int .u64 c.num) := by rw [← hnum]; have := hc0 0 x0 rfl 0 _ rfl; simpa [callE] using this
 have HC0 := hd_ k0
 have HLT0 := hd_ hlt0
 have HNU := hd_ hnum
 have HCO := hd_ hco
 have k2 : W.cell? ⟨B, 1, none⟩ = some (.slice (some ⟨b0, p0, none⟩) 1 c0) := (bc 1 h.blk).trans rfl
 haveI := h.blk.old
 haveI : Old b0 W := ⟨hlt0⟩
 clear h h01 h02 h03 h04 hc0 hb0 hlt0 hcl hnode hnum hco
 go_enter Tryz.func33, Tryz.ntmps33
 go_wp2
 obtain ⟨B3, hB3⟩ : ∃ B3, B3 = W.heap.size := ⟨_, rfl⟩
 obtain ⟨W1, hW1⟩ : ∃ W1, W1 = W.alloc (.cells #[.int .u64 c.num, .int .i64 0, .int .i64 c.o.o.k, .int .u64 c.o.o.v, .int .u64 c.o.o.t, .int .i64 c.o.o.s, .int .i64 c.o.o.a, .int .i64 c.o.o.c, .slice c.o.D c.o.n c.o.q, .int .i64 c.at_, .int .i64 c.fr, .int .i64 c.tt, .bool c.dn, .int .i64 c.gone, .int .i64 c.seq, .int .i64 c.an.code, .int .i64 c.an.done, .slice c.an.D c.an.n c.an.q] 51) := ⟨_, rfl⟩
 have g1 : Gr W W1 := by rw [hW1]; exact gri
 have b3 : BlockAt W1 B3 #[.int .u64 c.num, .int .i64 0, .int .i64 c.o.o.k, .int .u64 c.o.o.v, .int .u64 c.o.o.t, .int .i64 c.o.o.s, .int .i64 c.o.o.a, .int .i64 c.o.o.c, .slice c.o.D c.o.n c.o.q, .int .i64 c.at_, .int .i64 c.fr, .int .i64 c.tt, .bool c.dn, .int .i64 c.gone, .int .i64 c.seq, .int .i64 c.an.code, .int .i64 c.an.done, .slice c.an.D c.an.n c.an.q] 51 := by rw [hW1, hB3]; infer_instance
 rw [← hW1, ← hB3]
 have HB3 := hd_ b3
 have HG1 := hd_ g1
 have HBE := hd_ (show B3 ≠ B by have := HB0.out.blk.lt; rw [hB3]; omega)
 clear hW1 hB3 g1 b3 k0 k2
 have HJ : Hid (∀ w1, Gr W1 w1 → BlockAt w1 B3 #[.int .u64 c.num, .int .i64 0, .int .i64 c.o.o.k, .int .u64 c.o.o.v, .int .u64 c.o.o.t, .int .i64 c.o.o.s, .int .i64 c.o.o.a, .int .i64 c.o.o.c, .slice c.o.D c.o.n c.o.q, .int .i64 c.at_, .int .i64 c.fr, .int .i64 c.tt, .bool c.dn, .int .i64 c.gone, .int .i64 c.seq, .int .i64 c.an.code, .int .i64 c.an.done, .slice c.an.D c.an.n c.an.q] 51 ∧ w1.cell? ⟨B, 1, none⟩ = some (.slice (some ⟨b0, p0, none⟩) 1 c0) ∧ w1.cell? ⟨b0, p0, none⟩ = some (.int .u64 c.num)) := hd_ fun w1 g => ⟨HB3.out.gr g, (bc 1 (HB0.out.blk.gr (HG1.out.trans g))).trans rfl, ((HG1.out.trans g).below.cell (p := ⟨b0, p0, none⟩) HLT0.out).trans HC0.out⟩
 refine wp_region_plan ⟨fun w' => Gr W1 w', fun _ => True⟩ gri trivial [(true, 0), (true, 1), (true, 2), (true, 3), (true, 4), (true, 5), (true, 6), (true, 7)] (by kernel_rfl) (by kernel_rfl) ?_
 simp only [pickP, pick, List.drop, List.take, List.nil_append, List.cons_append, List.map_cons, List.map_nil]
 refine p_same (ptrB B) rfl rfl (fun w1 hj => by go_simp) ?_
 simp only [Act.put, stA, List.set]
 refine p_same (.pointer (some ⟨B3, 1, none⟩)) rfl rfl (fun w1 hj => by go_simp) ?_
 simp only [Act.put, stA, List.set]
 refine p_same (.int .i64 0) rfl rfl (fun w1 hj => by obtain ⟨x0, x1, x2⟩ := HJ.out w1 hj; have y0 : w1.cell? ⟨B3, 0, none⟩ = some (.int .u64 c.num) := (bc 0 x0).trans rfl; have y1 : w1.cell? ⟨B3, 1, none⟩ = some (.int .i64 0) := (bc 1 x0).trans rfl; clear x0; go_simp) ?_
 simp only [Act.put, stA, List.set]
 refine p_same (ptrB B) rfl rfl (fun w1 hj => by go_simp) ?_
 simp only [Act.put, stA, List.set]
 refine p_same (.pointer (some ⟨B, 1, none⟩)) rfl rfl (fun w1 hj => by go_simp) ?_
 simp only [Act.put, stA, List.set]
 refine p_same (.pointer (some ⟨B, 1, none⟩)) rfl rfl (fun w1 hj => by go_simp) ?_
 simp only [Act.put, stA, List.set]
 refine p_same (.slice (some ⟨b0, p0, none⟩) 1 c0) rfl rfl (fun w1 hj => by obtain ⟨x0, x1, x2⟩ := HJ.out w1 hj; have y0 : w1.cell? ⟨B3, 0, none⟩ = some (.int .u64 c.num) := (bc 0 x0).trans rfl; have y1 : w1.cell? ⟨B3, 1, none⟩ = some (.int .i64 0) := (bc 1 x0).trans rfl; clear x0; go_simp) ?_
 simp only [Act.put, stA, List.set]
 refine p_same (.slice (some ⟨b0, p0, none⟩) 1 c0) rfl rfl (fun w1 hj => by go_simp) ?_
 simp only [Act.put, stA, List.set]
 refine p_nil ?_
 intro w2 hj2 _
 have HJ2 := hd_ hj2
 clear hj2
 go_wp2
 refine wp_region_plan ⟨fun w' => Gr W1 w', fun w' => Gr W1 w'⟩ (HJ2.out.trans gri) (HJ2.out.trans gri) [(true, 0), (true, 1), (true, 2), (true, 3), (true, 4), (true, 5), (true, 6), (false, 7), (false, 8)] (by kernel_rfl) (by kernel_rfl) ?_
 simp only [pickP, pick, List.drop, List.take, List.nil_append, List.cons_append, List.map_cons, List.map_nil]
 refine p_same (.slice (some ⟨b0, p0, none⟩) 1 c0) rfl rfl (fun w1 hj => by go_simp) ?_
 simp only [Act.put, stA, List.set]
 refine p_same (.pointer (some ⟨b0, p0, none⟩)) rfl rfl (fun w1 hj => by go_simp) ?_
 simp only [Act.put, stA, List.set]
 refine p_same (.pointer (some ⟨b0, p0, none⟩)) rfl rfl (fun w1 hj => by go_simp) ?_
 simp only [Act.put, stA, List.set]
 refine p_same (.int .u64 c.num) rfl rfl (fun w1 hj => by obtain ⟨x0, x1, x2⟩ := HJ.out w1 hj; have y0 : w1.cell? ⟨B3, 0, none⟩ = some (.int .u64 c.num) := (bc 0 x0).trans rfl; have y1 : w1.cell? ⟨B3, 1, none⟩ = some (.int .i64 0) := (bc 1 x0).trans rfl; clear x0; go_simp) ?_
 simp only [Act.put, stA, List.set]
 refine p_same (.pointer (some ⟨B3, 0, none⟩)) rfl rfl (fun w1 hj => by go_simp) ?_
 simp only [Act.put, stA, List.set]
 refine p_same (.int .u64 c.num) rfl rfl (fun w1 hj => by obtain ⟨x0, x1, x2⟩ := HJ.out w1 hj; have y0 : w1.cell? ⟨B3, 0, none⟩ = some (.int .u64 c.num) := (bc 0 x0).trans rfl; have y1 : w1.cell? ⟨B3, 1, none⟩ = some (.int .i64 0) := (bc 1 x0).trans rfl; clear x0; go_simp) ?_
 simp only [Act.put, stA, List.set]
 refine p_same (.bool true) rfl rfl (fun w1 hj => by go_simp) ?_
 simp only [Act.put, stA, List.set]
 refine p_eff rfl rfl (fun w1 hj he => effAt_of (v := .pointer (some ⟨w1.heap.size, 0, none⟩)) (w' := w1.alloc (.cells #[.bool false] 4)) (by go_simp) ?_)
 obtain ⟨Bf, hBf⟩ : ∃ Bf, Bf = w1.heap.size := ⟨_, rfl⟩
 refine ⟨⟨fun w' => Gr W1 w', fun w' => BlockAt w' Bf #[.bool false] 4⟩, ⟨hj.trans gri, by rw [hBf]; infer_instance⟩, fun _ h => h, ?_⟩
 rw [← hBf]
 have HBf : Hid (W1.heap.size ≤ Bf) := hd_ (by rw [hBf]; exact hj.below.size)
 clear hBf hj he HJ2 w1
 simp only [Act.put, stA, List.set]
 refine p_eff0 rfl rfl (fun w1 hj he => effAt_storeS rfl rfl rfl (run_storeBl Bf false true he) ⟨⟨fun w' => Gr W1 w', fun w' => BlockAt w' Bf #[.bool true] 4⟩, ⟨Gr.of (hj.below.setCell (p := ⟨Bf, 0, none⟩) HBf.out _), ?_⟩, fun _ h => h, ?_⟩)
 ·show BlockAt _ _ (#[.bool false].setIfInBounds 0 (.bool true)) _
  infer_instance
 refine p_nil ?_
 intro w3 hj3 he3
 have HJ3 := hd_ hj3
 have HF3 := hd_ he3
 have hbf3 : w3.cell? ⟨Bf, 0, none⟩ = some (.bool true) := (bc 0 he3).trans rfl
 haveI := he3.old
 have HX3 := hd_ (HJ.out w3 hj3).1
 have HB4 := hd_ (HB0.out.grow (HG1.out.trans hj3))
 clear hj3 he3 w2
 go_wp2
 clear hbf3
 have HNB := hd_ (show Bf ≠ B by have h1 := HB0.out.blk.lt; have h2 := HBf.out; have h3 := HG1.out.below.size; omega)
 have C3 : Hid (∀ w1, Gr w3 w1 → w1.cell? ⟨B, 3, none⟩ = some (.slice none 0 0)) := hd_ fun w1 g => (bc 3 (HB4.out.blk.gr g)).trans rfl
 have HCK := hd_ (show ∀ x ∈ [c], CallOk w x from fun x hx => by rw [List.mem_singleton.1 hx]; exact HCO.out)
 refine wp_region_planT ⟨fun w' => BlockAt w' B3 #[.int .u64 c.num, .int .i64 0, .int .i64 c.o.o.k, .int .u64 c.o.o.v, .int .u64 c.o.o.t, .int .i64 c.o.o.s, .int .i64 c.o.o.a, .int .i64 c.o.o.c, .slice c.o.D c.o.n c.o.q, .int .i64 c.at_, .int .i64 c.fr, .int .i64 c.tt, .bool c.dn, .int .i64 c.gone, .int .i64 c.seq, .int .i64 c.an.code, .int .i64 c.an.done, .slice c.an.D c.an.n c.an.q] 51 ∧ BlockAt w' Bf #[.bool true] 4 ∧ w'.cell? ⟨B, 3, none⟩ = some (.slice none 0 0), fun w' => Gr w3 w'⟩ ⟨HX3.out.gr gri, HF3.out.gr gri, C3.out _ gri⟩ gri 10 [(true, 0), (true, 1), (true, 2), (true, 3), (true, 4), (true, 5), (false, 6), (false, 7), (true, 8), (true, 9)] (by kernel_rfl) (by kernel_rfl) ?_
 simp only [pickP, pick, List.drop, List.take, List.nil_append, List.cons_append, List.map_cons, List.map_nil]
 refine p_same (ptrB B) rfl rfl (fun w1 hj => by go_simp) ?_
 simp only [Act.put, stA, List.set]
 refine p_same (ptrB B) rfl rfl (fun w1 hj => by go_simp) ?_
 simp only [Act.put, stA, List.set]
 refine p_same (ptrB B) rfl rfl (fun w1 hj => by go_simp) ?_
 simp only [Act.put, stA, List.set]
 refine p_same (.pointer (some ⟨B, 3, none⟩)) rfl rfl (fun w1 hj => by go_simp) ?_
 simp only [Act.put, stA, List.set]
 refine p_same (.slice none 0 0) rfl rfl (fun w1 hj => by have y := hj.2.2; go_simp) ?_
 simp only [Act.put, stA, List.set]
 refine p_same (.agg #[.int .u64 c.num, .int .i64 0, .int .i64 c.o.o.k, .int .u64 c.o.o.v, .int .u64 c.o.o.t, .int .i64 c.o.o.s, .int .i64 c.o.o.a, .int .i64 c.o.o.c, .slice c.o.D c.o.n c.o.q, .int .i64 c.at_, .int .i64 c.fr, .int .i64 c.tt, .bool c.dn, .int .i64 c.gone, .int .i64 c.seq, .int .i64 c.an.code, .int .i64 c.an.done, .slice c.an.D c.an.n c.an.q] ) rfl rfl (fun w1 hj => run_load_call (l := [.int .u64 c.num, .int .i64 0, .int .i64 c.o.o.k, .int .u64 c.o.o.v, .int .u64 c.o.o.t, .int .i64 c.o.o.s, .int .i64 c.o.o.a, .int .i64 c.o.o.c, .slice c.o.D c.o.n c.o.q, .int .i64 c.at_, .int .i64 c.fr, .int .i64 c.tt, .bool c.dn, .int .i64 c.gone, .int .i64 c.seq, .int .i64 c.an.code, .int .i64 c.an.done, .slice c.an.D c.an.n c.an.q] ) rfl rfl hj.1 rfl) ?_
 simp only [Act.put, stA, List.set]
 refine p_eff rfl rfl (fun w1 hj he => effAt_of (v := .slice (some ⟨w1.heap.size, 0, none⟩) 1 1) (w' := w1.alloc (.cells #[.int .u64 c.num, .int .i64 0, .int .i64 c.o.o.k, .int .u64 c.o.o.v, .int .u64 c.o.o.t, .int .i64 c.o.o.s, .int .i64 c.o.o.a, .int .i64 c.o.o.c, .slice c.o.D c.o.n c.o.q, .int .i64 c.at_, .int .i64 c.fr, .int .i64 c.tt, .bool c.dn, .int .i64 c.gone, .int .i64 c.seq, .int .i64 c.an.code, .int .i64 c.an.done, .slice c.an.D c.an.n c.an.q] 51)) (by go_simp) ?_)
 obtain ⟨B7, hB7⟩ : ∃ B7, B7 = w1.heap.size := ⟨_, rfl⟩
 refine ⟨⟨fun w' => BlockAt w' B3 #[.int .u64 c.num, .int .i64 0, .int .i64 c.o.o.k, .int .u64 c.o.o.v, .int .u64 c.o.o.t, .int .i64 c.o.o.s, .int .i64 c.o.o.a, .int .i64 c.o.o.c, .slice c.o.D c.o.n c.o.q, .int .i64 c.at_, .int .i64 c.fr, .int .i64 c.tt, .bool c.dn, .int .i64 c.gone, .int .i64 c.seq, .int .i64 c.an.code, .int .i64 c.an.done, .slice c.an.D c.an.n c.an.q] 51 ∧ BlockAt w' Bf #[.bool true] 4 ∧ w'.cell? ⟨B, 3, none⟩ = some (.slice none 0 0), fun w' => Gr w3 w' ∧ BlockAt w' B7 #[.int .u64 c.num, .int .i64 0, .int .i64 c.o.o.k, .int .u64 c.o.o.v, .int .u64 c.o.o.t, .int .i64 c.o.o.s, .int .i64 c.o.o.a, .int .i64 c.o.o.c, .slice c.o.D c.o.n c.o.q, .int .i64 c.at_, .int .i64 c.fr, .int .i64 c.tt, .bool c.dn, .int .i64 c.gone, .int .i64 c.seq, .int .i64 c.an.code, .int .i64 c.an.done, .slice c.an.D c.an.n c.an.q] 51⟩, ⟨⟨hj.1.gr gri, hj.2.1.gr gri, C3.out _ (he.trans gri)⟩, he.trans gri, by rw [hB7]; infer_instance⟩, fun _ h => h, ?_⟩
 rw [← hB7]
 clear hB7 hj he w1
 simp only [Act.put, stA, List.set]
 refine p_eff rfl rfl (fun w1 hj he => effAt_append_x callIs _ _ rfl rfl (OwnN.nil w3.heap.size w1) (some ⟨B7, 0, none⟩) [c] 1 1 rfl rfl (fun e => by cases e) ⟨fun _ _ => trivial, fun _ => ⟨B7, 0, rfl, he.2.lt, cellsN_call (by rw [HCL.out]; exact he.2)⟩⟩ (by simp) he.1.below.size ?_)
 intro v7 W7 h7
 have hg7 : Gr w3 W7 := Gr.of (he.1.below.trans h7.below)
 have ho7 : OwnN callE w3.heap.size W7 v7 [c] := h7.own
 obtain ⟨A7, c7, hv7, z1, z2, z3⟩ := ho7.form callIs
 have hv8 : v7 = .slice A7 1 c7 := hv7
 subst hv8
 refine ⟨⟨fun w' => BlockAt w' B3 #[.int .u64 c.num, .int .i64 0, .int .i64 c.o.o.k, .int .u64 c.o.o.v, .int .u64 c.o.o.t, .int .i64 c.o.o.s, .int .i64 c.o.o.a, .int .i64 c.o.o.c, .slice c.o.D c.o.n c.o.q, .int .i64 c.at_, .int .i64 c.fr, .int .i64 c.tt, .bool c.dn, .int .i64 c.gone, .int .i64 c.seq, .int .i64 c.an.code, .int .i64 c.an.done, .slice c.an.D c.an.n c.an.q] 51 ∧ BlockAt w' Bf #[.bool true] 4 ∧ w'.cell? ⟨B, 3, none⟩ = some (.slice none 0 0), fun w' => Gr w3 w' ∧ OwnN callE w3.heap.size w' (.slice A7 1 c7) [c]⟩, ⟨⟨HX3.out.gr hg7, HF3.out.gr hg7, C3.out _ hg7⟩, hg7, ho7⟩, fun _ h => h, ?_⟩
 clear z1 z2 z3 hg7 ho7 h7 hv7 hj he w1 W7
 simp only [Act.put, stA, List.set]
 refine p_same (ptrB B) rfl rfl (fun w1 hj => by go_simp) ?_
 simp only [Act.put, stA, List.set]
 refine p_same (.pointer (some ⟨B, 3, none⟩)) rfl rfl (fun w1 hj => by go_simp) ?_
 simp only [Act.put, stA, List.set]
 refine p_nil ?_
 intro w4 hj4 he4
 try simp only [List.drop_succ_cons, List.drop_zero]
 have z0 := hj4.2.2
 have hb4 := HB4.out.blk.gr he4.1
 have z1 : w4.frozen? ⟨B, 3, none⟩ = false := @block_frozen _ _ 3 _ _ hb4
 haveI := hb4.old
 haveI := hb4
 have hbk5 := (HB4.out.grow he4.1).setG (he4.2.more HB4.out.gr.below.size) HCK.out
 have hx5 : BlockAt (w4.setCell ⟨B, 3, none⟩ (.slice A7 1 c7)) B3 #[.int .u64 c.num, .int .i64 0, .int .i64 c.o.o.k, .int .u64 c.o.o.v, .int .u64 c.o.o.t, .int .i64 c.o.o.s, .int .i64 c.o.o.a, .int .i64 c.o.o.c, .slice c.o.D c.o.n c.o.q, .int .i64 c.at_, .int .i64 c.fr, .int .i64 c.tt, .bool c.dn, .int .i64 c.gone, .int .i64 c.seq, .int .i64 c.an.code, .int .i64 c.an.done, .slice c.an.D c.an.n c.an.q] 51 := ⟨(Below.heap_setCell w4 ⟨B, 3, none⟩ _ B3 HBE.out).trans hj4.1.eq⟩
 have hf5 : BlockAt (w4.setCell ⟨B, 3, none⟩ (.slice A7 1 c7)) Bf #[.bool true] 4 := ⟨(Below.heap_setCell w4 ⟨B, 3, none⟩ _ Bf HNB.out).trans hj4.2.1.eq⟩
 have HX4 := hd_ hx5
 have HF4 := hd_ hf5
 have HB5' := hd_ hbk5
 have HC5 := hd_ (((CKB.gr (B := B) (HG1.out.trans HJ3.out)).trans (CKB.gr he4.1)).trans (CKB.set B 3 w4 (.slice A7 1 c7)))
 clear hj4 he4 hb4 hbk5 hx5 hf5
 go_wp2
 generalize w4.setCell ⟨B, 3, none⟩ (.slice A7 1 c7) = w5 at HX4 HF4 HB5' HC5 ⊢
 have HX5 := hd_ HX4.out
 have HF5 := hd_ HF4.out
 have HB5 := hd_ HB5'.out
 clear HX4 HF4 HB5' z0 z1
 have hpre : b0 < w5.heap.size ∧ CellsN callE w5 b0 p0 [x0] := by
  obtain ⟨A9, n9, c9, hv9, _, _, _, h94⟩ := HB5.out.w0
  obtain ⟨b9, p9, cs9, f9, hA9, hb9, hc9⟩ := h94 x0 rfl
  simp only [Value.slice.injEq] at hv9
  have hq1 := hv9.1
  rw [hA9] at hq1
  simp only [Option.some.injEq, Addr.mk.injEq, and_true] at hq1
  exact ⟨by rw [hq1.1]; exact (Array.getElem?_eq_some_iff.1 hb9).1, by rw [hq1.1, hq1.2]; exact hc9⟩
 have HC9 := hd_ (fun W' (g : Gr w5 W') => @clone_one b0 p0 c0 x0 W' (hpre.2.gr hpre.1 g) ⟨Nat.lt_of_lt_of_le hpre.1 g.below.size⟩)
 clear hpre
 refine wp_region_plan ⟨fun w' => BlockAt w' B3 #[.int .u64 c.num, .int .i64 0, .int .i64 c.o.o.k, .int .u64 c.o.o.v, .int .u64 c.o.o.t, .int .i64 c.o.o.s, .int .i64 c.o.o.a, .int .i64 c.o.o.c, .slice c.o.D c.o.n c.o.q, .int .i64 c.at_, .int .i64 c.fr, .int .i64 c.tt, .bool c.dn, .int .i64 c.gone, .int .i64 c.seq, .int .i64 c.an.code, .int .i64 c.an.done, .slice c.an.D c.an.n c.an.q] 51 ∧ BlockAt w' Bf #[.bool true] 4, fun w' => Gr w5 w'⟩ ⟨HX5.out.gr gri, HF5.out.gr gri⟩ gri [(true, 0), (true, 1), (true, 2), (true, 3), (true, 5), (true, 7), (true, 8), (false, 4), (false, 6), (true, 9), (false, 10)] (by kernel_rfl) (by kernel_rfl) ?_
 simp only [pickP, pick, List.drop, List.take, List.nil_append, List.cons_append, List.map_cons, List.map_nil]
 refine p_same (ptrB B) rfl rfl (fun w1 hj => by go_simp) ?_
 simp only [Act.put, stA, List.set]
 refine p_same (.pointer (some ⟨B3, 1, none⟩)) rfl rfl (fun w1 hj => by go_simp) ?_
 simp only [Act.put, stA, List.set]
 refine p_same (.int .i64 0) rfl rfl (fun w1 hj => by have y1 : w1.cell? ⟨B3, 1, none⟩ = some (.int .i64 0) := (bc 1 hj.1).trans rfl; go_simp) ?_
 simp only [Act.put, stA, List.set]
 refine p_same (.slice (some ⟨b0, p0, none⟩) 1 c0) rfl rfl (fun w1 hj => by go_simp) ?_
 simp only [Act.put, stA, List.set]
 refine p_same (lF B3 Bf) rfl rfl (fun w1 hj => by go_simp) ?_
 simp only [Act.put, stA, List.set]
 refine p_same (ptrB B) rfl rfl (fun w1 hj => by go_simp) ?_
 simp only [Act.put, stA, List.set]
 refine p_same (.pointer (some ⟨B, 1, none⟩)) rfl rfl (fun w1 hj => by go_simp) ?_
 simp only [Act.put, stA, List.set]
 refine p_eff rfl rfl (fun w1 hj he => effAt_call' 64 #[.slice (some ⟨b0, p0, none⟩) 1 c0] (by go_simp) ((HC9.out w1 he).mono fun e w2 hc => ?_))
 obtain ⟨g, cap', rfl, h1, h2, h3, h4, h5, h6, hg⟩ := hc
 have HG9 : Hid (w5.heap.size ≤ g) := hd_ (Nat.le_trans he.below.size h1)
 have HCP := hd_ h6
 refine ⟨_, rfl, ⟨⟨fun w' => BlockAt w' B3 #[.int .u64 c.num, .int .i64 0, .int .i64 c.o.o.k, .int .u64 c.o.o.v, .int .u64 c.o.o.t, .int .i64 c.o.o.s, .int .i64 c.o.o.a, .int .i64 c.o.o.c, .slice c.o.D c.o.n c.o.q, .int .i64 c.at_, .int .i64 c.fr, .int .i64 c.tt, .bool c.dn, .int .i64 c.gone, .int .i64 c.seq, .int .i64 c.an.code, .int .i64 c.an.done, .slice c.an.D c.an.n c.an.q] 51 ∧ BlockAt w' Bf #[.bool true] 4, fun w' => Gr w5 w' ∧ CellsN callE w' g 0 [x0] ∧ (∀ o, w'.frozen? ⟨g, o, none⟩ = false) ∧ g < w'.heap.size⟩, ⟨⟨hj.1.gr hg, hj.2.gr hg⟩, he.trans hg, h2, h3, h4⟩, fun _ h => h, ?_⟩⟩
 clear h1 h2 h3 h4 h5 h6 hg hj he w1 w2
 simp only [Act.put, stA, List.set]
 refine p_eff rfl rfl (fun w1 hj he => effAt_call' 63 #[.slice (some ⟨g, 0, none⟩) 1 cap', lF B3 Bf] (by go_simp) ((@delete_one x0 0 g cap' B3 Bf w1 hj.1.old hj.2.old ((bc 0 hj.1).trans (by rw [HNU.out]; rfl)) he.2.1 he.2.2.1 ⟨he.2.2.2⟩).mono fun e w2 hc => ?_))
 obtain ⟨rfl, zs, W8, g8, rfl⟩ := hc
 have hg8 : Gr w5 (W8.setCells g 0 zs) := Gr.of (below_setCellsL HG9.out zs 0 w5 W8 (he.1.trans g8).below)
 refine ⟨_, rfl, ⟨⟨fun w' => BlockAt w' B3 #[.int .u64 c.num, .int .i64 0, .int .i64 c.o.o.k, .int .u64 c.o.o.v, .int .u64 c.o.o.t, .int .i64 c.o.o.s, .int .i64 c.o.o.a, .int .i64 c.o.o.c, .slice c.o.D c.o.n c.o.q, .int .i64 c.at_, .int .i64 c.fr, .int .i64 c.tt, .bool c.dn, .int .i64 c.gone, .int .i64 c.seq, .int .i64 c.an.code, .int .i64 c.an.done, .slice c.an.D c.an.n c.an.q] 51 ∧ BlockAt w' Bf #[.bool true] 4, fun w' => Gr w5 w'⟩, ⟨⟨HX5.out.gr hg8, HF5.out.gr hg8⟩, hg8⟩, fun _ h => h, ?_⟩⟩
 clear hg8 g8 hj he w1 W8
 simp only [Act.put, stA, List.set]
 refine p_same (.pointer (some ⟨B, 1, none⟩)) rfl rfl (fun w1 hj => by go_simp) ?_
 simp only [Act.put, stA, List.set]
 refine p_eff0 rfl rfl (fun w1 hj he => effAt_storeS rfl rfl rfl (run_storeBc 1 0 cap' (some ⟨g, 0, none⟩) (HB5.out.blk.gr he) rfl) ⟨⟨fun w' => BlockAt w' B3 #[.int .u64 c.num, .int .i64 0, .int .i64 c.o.o.k, .int .u64 c.o.o.v, .int .u64 c.o.o.t, .int .i64 c.o.o.s, .int .i64 c.o.o.a, .int .i64 c.o.o.c, .slice c.o.D c.o.n c.o.q, .int .i64 c.at_, .int .i64 c.fr, .int .i64 c.tt, .bool c.dn, .int .i64 c.gone, .int .i64 c.seq, .int .i64 c.an.code, .int .i64 c.an.done, .slice c.an.D c.an.n c.an.q] 51 ∧ BlockAt w' Bf #[.bool true] 4, fun w' => BkA w B ws none q1 [c] wv (.slice (some ⟨g, 0, none⟩) 0 cap') v1 (.slice A7 1 c7) w' ∧ CKB B W w'⟩, ⟨⟨⟨(Below.heap_setCell w1 ⟨B, 1, none⟩ _ B3 HBE.out).trans hj.1.eq⟩, ⟨(Below.heap_setCell w1 ⟨B, 1, none⟩ _ Bf HNB.out).trans hj.2.eq⟩⟩, (HB5.out.grow he).set0 ⟨_, _, _, rfl, Nat.zero_le _, HCP.out, rfl, fun x hx => (by cases hx)⟩ (fun x hx => (by cases hx)), (HC5.out.trans (CKB.gr he)).trans (CKB.set B 1 w1 _)⟩, fun _ h => h, ?_⟩)
 refine p_nil ?_
 intro w6 hj6 he6
 have HE6 := hd_ he6
 clear hj6 he6
 go_wp2
 go_end0
 exact ⟨rfl, HE6.out.2, _, _, HE6.out.1⟩
theorem i64_same {x : Int} (h0 : -9223372036854775808 ≤ x) (h1 : x < 9223372036854775808) : IntKind.i64.wrap x = x := by
 simp [IntKind.wrap, IntKind.bits, IntKind.signed]
 split <;> omega
abbrev MomC := Int × Bool × CallC
def momL (m : MomC) : List Value := .int .i64 m.1 :: .bool m.2.1 :: callL m.2.2
def momE : EK MomC := ⟨momL, 20, 85, 73, 192, .agg #[.int .i64 0, .bool false, .int .u64 0, .int .i64 0, .int .i64 0, .int .u64 0, .int .u64 0, .int .i64 0, .int .i64 0, .int .i64 0, .slice none 0 0, .int .i64 0, .int .i64 0, .int .i64 0, .bool false, .int .i64 0, .int .i64 0, .int .i64 0, .int .i64 0, .slice none 0 0], fun _ => True⟩
theorem momIs : momE.Is where
 len := fun _ _ => rfl
 one := fun x _ v hv => by
  have hv : v ∈ momL x := hv
  simp only [momL, List.mem_cons] at hv
  rcases hv with rfl | rfl | hv
  ·rfl
  ·rfl
  ·exact callIs.one x.2.2 trivial v hv
 pos := by decide
 hT := Tryz.underlying73
 hE := by kernel_rfl
 hz := rfl
 hb := by decide
theorem cmp_any (x y : MomC) (W : World) (hx : 0 ≤ x.1 ∧ x.1 ≤ 1000000) (hy : 0 ≤ y.1 ∧ y.1 ≤ 1000000) : Calls Tryz.prog 62 #[.agg (momL x).toArray, .agg (momL y).toArray] W fun e w' => e = .returned (.int .i64 (x.1 - y.1)) ∧ Gr W w' := by
 have hx1 : (momL x).toArray = #[.int .i64 x.1, .bool x.2.1, .int .u64 x.2.2.num, .int .i64 x.2.2.node, .int .i64 x.2.2.o.o.k, .int .u64 x.2.2.o.o.v, .int .u64 x.2.2.o.o.t, .int .i64 x.2.2.o.o.s, .int .i64 x.2.2.o.o.a, .int .i64 x.2.2.o.o.c, .slice x.2.2.o.D x.2.2.o.n x.2.2.o.q, .int .i64 x.2.2.at_, .int .i64 x.2.2.fr, .int .i64 x.2.2.tt, .bool x.2.2.dn, .int .i64 x.2.2.gone, .int .i64 x.2.2.seq, .int .i64 x.2.2.an.code, .int .i64 x.2.2.an.done, .slice x.2.2.an.D x.2.2.an.n x.2.2.an.q] := by simp [momL, callL]
 have hy1 : (momL y).toArray = #[.int .i64 y.1, .bool y.2.1, .int .u64 y.2.2.num, .int .i64 y.2.2.node, .int .i64 y.2.2.o.o.k, .int .u64 y.2.2.o.o.v, .int .u64 y.2.2.o.o.t, .int .i64 y.2.2.o.o.s, .int .i64 y.2.2.o.o.a, .int .i64 y.2.2.o.o.c, .slice y.2.2.o.D y.2.2.o.n y.2.2.o.q, .int .i64 y.2.2.at_, .int .i64 y.2.2.fr, .int .i64 y.2.2.tt, .bool y.2.2.dn, .int .i64 y.2.2.gone, .int .i64 y.2.2.seq, .int .i64 y.2.2.an.code, .int .i64 y.2.2.an.done, .slice y.2.2.an.D y.2.2.an.n y.2.2.an.q] := by simp [momL, callL]
 have hw : IntKind.i64.wrap (x.1 - y.1) = x.1 - y.1 := i64_same (by omega) (by omega)
 rw [hx1, hy1]
 clear hx1 hy1 hx hy
 go_enter Tryz.func62, Tryz.ntmps62
 go_wp2
 go_ret
 exact ⟨rfl, gri⟩
theorem run_load_mom {o : Oper} {a : Act} {w : World} {x : Operand} {g j : Nat} {l : List MomC} {m : MomC} (ho : o.op = .load 85 x) (hx : a.eval x = .pointer (some ⟨g, j * 20, none⟩)) (hc : CellsN momE w g 0 l) (hm : l[j]? = some m) : (execOp a.eval o).run Tryz.prog w = .ok (.value (.agg (momL m).toArray)) w := by
 have h := run_loadAt_mid (P := Tryz.prog) w g (j * 20) 85 (momL m) _ (fun i v hv => by have := hc j m hm i v hv; simpa [momE] using this) Tryz.underlying85 rfl (by kernel_rfl)
 unfold execOp
 simp only [ho, hx, Sem.run_bind, h, Result.andThen_ok, Sem.run_pure]
abbrev mF : Value := .func (.func 62) #[] #[]
theorem ins_sorted (l : List MomC) (g n cap : Nat) (W : World) (hn : l.length = n) (hn9 : n ≤ 19) (hs : ∀ j x y, l[j]? = some x → l[j + 1]? = some y → x.1 < y.1) (hb : ∀ x ∈ l, 0 ≤ x.1 ∧ x.1 ≤ 1000000) (hc : CellsN momE W g 0 l) (hg : g < W.heap.size) : Calls Tryz.prog 113 #[.slice (some ⟨g, 0, none⟩) n cap, .int .i64 0, .int .i64 (n : Int), mF] W fun e w' => e = .returned (.tuple #[]) ∧ Gr W w' := by
 have HN := hd_ hn
 have HS := hd_ hs
 have HB := hd_ hb
 have HC := hd_ (fun W' (g1 : Gr W W') => hc.gr hg g1)
 have HG := hd_ hg
 clear hn hs hb hc hg
 go_enter Tryz.func113, Tryz.ntmps113
 go_wp2
 go_loopw [8] (fun i wl => ∃ k : Nat, (k = 0 ∨ k < n) ∧ i = .int .i64 ((k + 1 : Nat) : Int) ∧ Gr W wl) (fun i _ => n - (intOf i).toNat)
 case atStart => exact ⟨0, .inl rfl, rfl, gri⟩
 case round =>
  obtain ⟨k, hk, rfl, hg⟩ := hrel
  obtain ⟨W3, rfl⟩ : ∃ W3, W3 = wr := ⟨_, rfl⟩
  have HG1 := hd_ hg
  have HK := hd_ hk
  have hk19 : k ≤ 19 := by rcases hk with rfl | h <;> omega
  haveI := grc_of hg
  haveI := from_of hg
  clear hg hk
  by_cases hlt : k + 1 < n
  ·have HLT := hd_ hlt
   have hlt2 : ((k + 1 : Nat) : Int) < (n : Int) := by omega
   obtain ⟨x, hx⟩ : ∃ x, l[k]? = some x := ⟨_, List.getElem?_eq_getElem (by rw [HN.out]; omega)⟩
   obtain ⟨y, hy⟩ : ∃ y, l[k + 1]? = some y := ⟨_, List.getElem?_eq_getElem (by rw [HN.out]; omega)⟩
   have HX := hd_ hx
   have HY := hd_ hy
   have hxy := HS.out k x y hx hy
   have HCM := hd_ (fun W' => cmp_any y x W' (HB.out y (List.mem_of_getElem? hy)) (HB.out x (List.mem_of_getElem? hx)))
   have hd : decide (y.1 - x.1 < 0) = false := decide_eq_false (by omega)
   have HD := hd_ hd
   have hwr : IntKind.i64.wrap (((k + 1 : Nat) : Int) - 1) = (k : Int) := by rw [show ((k + 1 : Nat) : Int) - 1 = (k : Int) by omega]; exact i64_same (by omega) (by omega)
   have hw0 : IntKind.i64.wrap (k : Int) = (k : Int) := i64_same (by omega) (by omega)
   have hp1 : ¬ ((k : Int) + 1 < 0) := by omega
   have hp2 : ¬ n ≤ k := by omega
   have hpos : (0 : Int) < ((k + 1 : Nat) : Int) := by omega
   clear hx hy hxy hd
   go_wp2
   go_loopw [9] (fun j wl => j = .int .i64 ((k + 1 : Nat) : Int) ∧ Gr W3 wl) (fun j _ => 1)
   case atStart => exact ⟨rfl, gri⟩
   case round =>
    obtain ⟨rfl, hg2⟩ := hrel
    have HG2 := hd_ hg2
    clear hg2
    go_wp2
    refine wp_region_plan ⟨fun w' => Gr W3 w', fun w' => Gr W3 w'⟩ (HG2.out.trans gri) (HG2.out.trans gri) [(true, 0), (true, 1), (true, 2), (true, 3), (true, 4), (true, 5), (true, 6), (true, 7), (true, 8), (true, 9), (true, 10), (true, 11), (true, 12), (true, 13), (false, 14), (true, 15), (true, 16)] (by kernel_rfl) (by kernel_rfl) ?_
    simp only [pickP, pick, List.drop, List.take, List.nil_append, List.cons_append, List.map_cons, List.map_nil]
    refine p_same (.int .i64 ((k + 1 : Nat) : Int)) rfl rfl (fun w1 hj => by go_simp) ?_
    simp only [Act.put, stA, List.set]
    refine p_same (.int .i64 0) rfl rfl (fun w1 hj => by go_simp) ?_
    simp only [Act.put, stA, List.set]
    refine p_same (.bool true) rfl rfl (fun w1 hj => by go_simp) ?_
    simp only [Act.put, stA, List.set]
    refine p_same (.bool true) rfl rfl (fun w1 hj => by go_simp) ?_
    simp only [Act.put, stA, List.set]
    refine p_same (mF) rfl rfl (fun w1 hj => by go_simp) ?_
    simp only [Act.put, stA, List.set]
    refine p_same (.slice (some ⟨g, 0, none⟩) n cap) rfl rfl (fun w1 hj => by go_simp) ?_
    simp only [Act.put, stA, List.set]
    refine p_same (.int .i64 ((k + 1 : Nat) : Int)) rfl rfl (fun w1 hj => by go_simp) ?_
    simp only [Act.put, stA, List.set]
    refine p_same (.pointer (some ⟨g, (k + 1) * 20, none⟩)) rfl rfl (fun w1 hj => by go_simp) ?_
    simp only [Act.put, stA, List.set]
    refine p_same (.agg (momL y).toArray) rfl rfl (fun w1 hj => run_load_mom rfl rfl (HC.out _ (HG1.out.trans hj)) HY.out) ?_
    simp only [Act.put, stA, List.set]
    refine p_same (.slice (some ⟨g, 0, none⟩) n cap) rfl rfl (fun w1 hj => by go_simp) ?_
    simp only [Act.put, stA, List.set]
    refine p_same (.int .i64 ((k + 1 : Nat) : Int)) rfl rfl (fun w1 hj => by go_simp) ?_
    simp only [Act.put, stA, List.set]
    refine p_same (.int .i64 (k : Int)) rfl rfl (fun w1 hj => by go_simp) ?_
    simp only [Act.put, stA, List.set]
    refine p_same (.pointer (some ⟨g, k * 20, none⟩)) rfl rfl (fun w1 hj => by go_simp) ?_
    simp only [Act.put, stA, List.set]
    refine p_same (.agg (momL x).toArray) rfl rfl (fun w1 hj => run_load_mom rfl rfl (HC.out _ (HG1.out.trans hj)) HX.out) ?_
    simp only [Act.put, stA, List.set]
    refine p_eff rfl rfl (fun w1 hj he => effAt_call' 62 #[.agg (momL y).toArray, .agg (momL x).toArray] (by go_simp) ((HCM.out w1).mono fun e w2 hc => ?_))
    obtain ⟨rfl, hg3⟩ := hc
    refine ⟨_, rfl, ⟨fun w' => Gr W3 w', fun w' => Gr W3 w'⟩, ⟨hj.trans hg3, hj.trans hg3⟩, fun _ h => h, ?_⟩
    clear hg3 hj he w1 w2
    simp only [Act.put, stA, List.set]
    refine p_same (.bool false) rfl rfl (fun w1 hj => by have := HD.out; go_simp) ?_
    simp only [Act.put, stA, List.set]
    refine p_same (.bool false) rfl rfl (fun w1 hj => by go_simp) ?_
    simp only [Act.put, stA, List.set]
    refine p_nil ?_
    intro w5 hj5 _
    have HJ5 := hd_ hj5
    haveI := grc_of hj5
    haveI := from_of hj5
    clear hj5
    go_wp2
    refine ⟨⟨k + 1, .inr HLT.out, ?_, HG1.out.trans HJ5.out⟩, ?_⟩
    ·rw [show (k : Int) + 1 + 1 = ((k + 1 + 1 : Nat) : Int) by omega]
    ·have := HLT.out
     simp only [intOf]
     omega
  ·have hge : ¬ ((k + 1 : Nat) : Int) < (n : Int) := by omega
   go_wp2
   go_end0
   exact ⟨rfl, gri⟩
theorem stable_sorted (l : List MomC) (g n cap : Nat) (W : World) (hn : l.length = n) (hn9 : n ≤ 19) (hs : ∀ j x y, l[j]? = some x → l[j + 1]? = some y → x.1 < y.1) (hb : ∀ x ∈ l, 0 ≤ x.1 ∧ x.1 ≤ 1000000) (hc : CellsN momE W g 0 l) (hg : g < W.heap.size) : Calls Tryz.prog 91 #[.slice (some ⟨g, 0, none⟩) n cap, .int .i64 (n : Int), mF] W fun e w' => e = .returned (.tuple #[]) ∧ Gr W w' := by
 have HI := hd_ (fun W' (g1 : Gr W W') => ins_sorted l g n cap W' hn hn9 hs hb (hc.gr hg g1) (Nat.lt_of_lt_of_le hg g1.below.size))
 have h20 : ¬ ((20 : Int) ≤ (n : Int)) := by omega
 have h21 : ¬ ((20 : Int) < (n : Int)) := by omega
 clear hn hs hb hc hg hn9
 go_enter Tryz.func91, Tryz.ntmps91
 go_wp2
 go_loopw [7, 8] (fun i j wl => i = .int .i64 0 ∧ j = .int .i64 20 ∧ Gr W wl) (fun i _ _ => 1)
 case atStart => exact ⟨rfl, rfl, gri⟩
 case round =>
  obtain ⟨rfl, rfl, hg⟩ := hrel
  have HG := hd_ hg
  haveI := grc_of hg
  haveI := from_of hg
  clear hg
  go_wp2_with (first | (go_at_call 113; ((with_reducible refine (HI.out _ (HG.out.trans gri)).mono ?_); rintro _ _ ⟨rfl, ⟨g8, rfl⟩⟩)))
  go_loopw [6] (fun i wl => i = .int .i64 20 ∧ Gr W wl) (fun i _ => 1)
  case atStart => exact ⟨rfl, gri⟩
  case round =>
   obtain ⟨rfl, hg2⟩ := hrel
   have HG2 := hd_ hg2
   clear hg2
   go_wp2
   go_end0
   exact ⟨rfl, HG2.out⟩
theorem sort_sorted (l : List MomC) (g n cap : Nat) (W : World) (hn : l.length = n) (hn9 : n ≤ 19) (hs : ∀ j x y, l[j]? = some x → l[j + 1]? = some y → x.1 < y.1) (hb : ∀ x ∈ l, 0 ≤ x.1 ∧ x.1 ≤ 1000000) (hc : CellsN momE W g 0 l) (hg : g < W.heap.size) : Calls Tryz.prog 61 #[.slice (some ⟨g, 0, none⟩) n cap, mF] W fun e w' => e = .returned (.tuple #[]) ∧ Gr W w' := by
 have HI := hd_ (fun W' (g1 : Gr W W') => stable_sorted l g n cap W' hn hn9 hs hb (hc.gr hg g1) (Nat.lt_of_lt_of_le hg g1.below.size))
 clear hn hs hb hc hg hn9
 go_enter Tryz.func61, Tryz.ntmps61
 go_wp2_with (first | (go_at_call 91; ((with_reducible refine (HI.out _ gri).mono ?_); rintro _ _ ⟨rfl, ⟨g8, rfl⟩⟩)))
 go_end0
 exact ⟨rfl, gri⟩
end Go.Proofs.YtddckdhnolmjoaaGreat
