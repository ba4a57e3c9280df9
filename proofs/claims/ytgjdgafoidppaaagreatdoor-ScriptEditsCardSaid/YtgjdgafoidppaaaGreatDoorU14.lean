/- A region that draws its order, among whose operations are some that read, compute, or call functions that only make new memory and hand back one value whatever the world, and some others, one forced behind the other, of any effect: one walk, the others last. Conditions: each step of the others is known. A region that draws its order: the calm operations first, then the others in every order that is open, step by step. Conditions: each step of the others is known. A region that draws its order: operations one behind the other (or calm ones, anywhere), among which one 'var x T' floats; a store into it comes last. Conditions: the others keep all blocks of that type. Rows of acts, by their cells: taken apart, put together, changed. Conditions: at most 10^6 acts. Rows of strings, taken apart and put together: an append, as a step of a region. Conditions: at most 10^6 strings. A script stored into a new variable, as a step of a region; slices of acts. Conditions: none. A region that draws its order: calm operations first, then others one behind the other, among which ONE load floats whose value is the same wherever it comes. Conditions: each step of the others is known. Rows of acts and of strings that are written: element by element. Conditions: none. A script's lines edited (no program in sight). Conditions: none. The statements' own glue: lines, each with a byte 10 behind it. Conditions: at most 10^6 bytes. -/
import Derived.Test.YtgjdgafoidppaaaGreatDoorU13
import Derived.Test.YtgjdgafoidppaaaGreatDoorU11
import Derived.Laws.IdiomCopy
import Derived.Test.YtgjdgafoidppaaaGreatDoorU02
import Derived.Test.YtgjdgafoidppaaaGreatDoorU03
import Derived.Deep.MidRow
import Derived.Test.YtgjdgafoidppaaaGreatDoorU12
namespace Go.Proofs.YtgjdgafoidppaaaGreatDoor
open Go.RowKit
set_option linter.unusedVariables false
set_option linter.unusedSimpArgs false
set_option linter.unnecessarySimpa false
section
variable {P : Program} {ops : Array Oper} {md : Region.Mode} {W : World} {S : Type} {I : S → World → Prop}
def effUpon (P : Program) (R : Value → World → Prop) : Result Next → Prop
 | .ok (.value v) w' => R v w'
 | .ok .skip w' => R undef w'
 | .ok (.enter f args) w' => Calls P f args w' (fun e w'' => ∃ v, e = .returned v ∧ R v w'')
 | _ => False
theorem effUpon_mono {R R' : Value → World → Prop} (h : ∀ v w, R v w → R' v w) (r : Result Next) (hr : effUpon P R r) : effUpon P R' r := by
 cases r with
 | ok nx w' =>
  cases nx <;> simp only [effUpon] at hr ⊢
  case value v => exact h _ _ hr
  case skip => exact h _ _ hr
  case enter f args => exact hr.mono (fun e w'' ⟨v, he, hv⟩ => ⟨v, he, h _ _ hv⟩)
 | halt x w' => exact hr.elim
def EffAt (P : Program) (o : Oper) (a : Act) (w : World) (R : Value → World → Prop) : Prop := effUpon P R ((execOp a.eval o).run P w)
def efOp (P : Program) (ops : Array Oper) (I : S → World → Prop) (i : Nat) (K : S → Act → Prop) (s : S) (a : Act) : Prop :=
 ∃ o, ops[i]? = some o ∧ Region.wanted o (yielded ops a.tmps) = true ∧ ∀ w, I s w → EffAt P o a w (fun v w' => ∃ s', I s' w' ∧ K s' (a.put o.dst v))
def feOp (P : Program) (ops : Array Oper) (W : World) (I : S → World → Prop) (i : Nat) (K : S → Act → Prop) (s : S) (a : Act) : Prop := clOp P ops W i K s a ∨ efOp P ops I i K s a
theorem feOp_mono {i : Nat} {K K' : S → Act → Prop} {s : S} {a : Act} (h : ∀ s a, K s a → K' s a) (hh : feOp P ops W I i K s a) : feOp P ops W I i K' s a :=
 hh.imp (fun ⟨o, ho, v, hv, hk⟩ => ⟨o, ho, v, hv, h _ _ hk⟩) (fun ⟨o, ho, hg, hs⟩ => ⟨o, ho, hg, fun w hw => effUpon_mono (fun v w' ⟨s', h1, h2⟩ => ⟨s', h1, h _ _ h2⟩) _ (hs w hw)⟩)
def feAny (P : Program) (md : Region.Mode) (ops : Array Oper) (W : World) (I : S → World → Prop) (L : S → Act → Prop) : Nat → Array Bool → S → Act → Prop
 | 0, listed, s, a => Region.ready md ops listed = [] ∧ L s a
 | f + 1, listed, s, a => (Region.ready md ops listed = [] → L s a) ∧ ∀ i ∈ Region.ready md ops listed, feOp P ops W I i (feAny P md ops W I L f (listed.setIfInBounds i true)) s a
theorem feAny_any (G : Ghost W I) {L : S → Act → Prop} {Q' : Exit → Act → World → Prop} (hL : ∀ s a w, I s w → L s a → Q' .normal a w) :
  ∀ (f : Nat) (listed : Array Bool) (s : S) (a : Act) (w : World), I s w → feAny P md ops W I L f listed s a → wpAny P md ops Q' f listed a w
 | 0, listed, s, a, w, hw, h => ⟨h.1, hL _ _ _ hw h.2⟩
 | f + 1, listed, s, a, w, hw, h => by
  refine ⟨fun h0 => hL _ _ _ hw (h.1 h0), fun i hi => ?_⟩
  unfold wpOp
  rcases h.2 i hi with ⟨o, ho, v, hv, hk⟩ | ⟨o, ho, hg, hs⟩
  ·simp only [ho]
   rcases hv with ⟨hw1, hc⟩ | ⟨hw1, rfl⟩
   ·simp only [hw1, if_true]
    refine .inl ?_
    obtain ⟨gw, rfl⟩ := G.out _ _ hw
    have h3 := hc gw
    unfold calmAt at h3
    unfold Oper.wp
    generalize (execOp a.eval o).run P (grown W gw) = r at *
    cases r with
    | ok nx w' =>
     cases nx <;> simp only [calmUpon] at h3 <;> simp only [Oper.upon]
     case value u => obtain ⟨e1, e2⟩ := h3; rw [e1, e2]; exact feAny_any G hL f _ _ _ _ hw hk
     case skip => obtain ⟨e1, e2⟩ := h3; rw [e1, ← e2]; exact feAny_any G hL f _ _ _ _ hw hk
     case enter f' args =>
      obtain ⟨e1, hc'⟩ := h3
      rw [e1]
      exact hc'.mono fun e w'' ⟨he, hw''⟩ => by subst he; exact feAny_any G hL f _ _ _ _ (G.grow _ _ _ hw hw'') hk
    | halt x w' => simp only [calmUpon] at h3
   ·simp only [hw1, Bool.false_eq_true, if_false]; exact feAny_any G hL f _ _ _ _ hw hk
  ·simp only [ho, hg, if_true]
   refine .inl ?_
   have h3 := hs w hw
   unfold EffAt at h3
   unfold Oper.wp
   generalize (execOp a.eval o).run P w = r at *
   cases r with
   | ok nx w' =>
    cases nx <;> simp only [effUpon] at h3 <;> simp only [Oper.upon]
    case value u => obtain ⟨s', hi', hk⟩ := h3; exact feAny_any G hL f _ _ _ _ hi' hk
    case skip => obtain ⟨s', hi', hk⟩ := h3; exact feAny_any G hL f _ _ _ _ hi' hk
    case enter f' args => exact h3.mono fun e w'' ⟨v, he, s', hi', hk⟩ => by subst he; exact feAny_any G hL f _ _ _ _ hi' hk
   | halt x w' => simp only [effUpon] at h3
theorem feOp_put {j : Nat} {oi oj : Oper} {v : Value} (hj : ops[j]? = some oj) (hap : oi.apart ops oj = true)
  (hsi : ∀ cs b, oi.op ≠ .select cs b) (hsj : ∀ cs b, oj.op ≠ .select cs b) {K : S → Act → Prop} {s : S} {a : Act}
  (hy : CalmOp P ops W oi v a) (h : feOp P ops W I j K s (a.put oi.dst v)) :
  feOp P ops W I j (fun s' a' => CalmOp P ops W oi v a' ∧ K s' (a'.put oi.dst v)) s a := by
 obtain ⟨p1, p2, p3⟩ := Oper.apart_spec hap
 rcases h with ⟨o, ho, u, hu, hk⟩ | ⟨o, ho, hg, hs⟩
 ·obtain rfl : o = oj := Option.some.inj (ho.symm.trans hj)
  exact .inl ⟨o, hj, u, hu.unput hsj p1, hy.put hsi p3, by rw [← Act.put_comm a v u p2]; exact hk⟩
 ·obtain rfl : o = oj := Option.some.inj (ho.symm.trans hj)
  refine .inr ⟨o, hj, by rw [wanted_put o a oi.dst v p1] at hg; exact hg, fun w hw => ?_⟩
  have h3 := hs w hw
  unfold EffAt at *
  rw [execOp_put o hsj a oi.dst v p1] at h3
  exact effUpon_mono (fun u w' ⟨s', h1, h2⟩ => ⟨s', h1, hy.put hsi p3, by rw [← Act.put_comm a v u p2]; exact h2⟩) _ h3
theorem feAny_first {i : Nat} {oi : Oper} {v : Value} {L : S → Act → Prop} (hi : ops[i]? = some oi) (hsel : ∀ (j : Nat) (o : Oper) cs b, ops[j]? = some o → o.op ≠ .select cs b) :
  ∀ (f : Nat) (listed : Array Bool) (s : S) (a : Act),
   (∀ j oj, ops[j]? = some oj → j ≠ i → listed.getD j true = false → (∀ e ∈ oj.after, Region.binds md e = true → e.on ≠ i) → oi.apart ops oj = true) →
   i ∈ Region.ready md ops listed → CalmOp P ops W oi v a →
   feAny P md ops W I L f (listed.setIfInBounds i true) s (a.put oi.dst v) → feAny P md ops W I L (f + 1) listed s a := by
 intro f
 induction f with
 | zero =>
  intro listed s a _ hr hy H
  refine ⟨(fun h => by rw [h] at hr; cases hr), fun j hj => ?_⟩
  by_cases hji : j = i
  ·subst hji; exact .inl ⟨oi, hi, v, hy, H⟩
  ·have := ready_mono hj hji
   rw [H.1] at this
   cases this
 | succ f ih =>
  intro listed s a hfree hr hy H
  have hun := (mem_ready.1 hr).1
  refine ⟨(fun h => by rw [h] at hr; cases hr), fun j hj => ?_⟩
  by_cases hji : j = i
  ·subst hji; exact .inl ⟨oi, hi, v, hy, H⟩
  have h1 := H.2 j (ready_mono hj hji)
  obtain ⟨hjun, oj, hoj, hall⟩ := mem_ready.1 hj
  have hnot : ∀ e ∈ oj.after, Region.binds md e = true → e.on ≠ i := fun e he hb heq => by
   have h1 := hall e he hb
   rw [heq, getD_both hun] at h1
   cases h1
  have h2 := feOp_put hoj (hfree j oj hoj hji hjun hnot) (fun cs b => hsel i oi cs b hi) (fun cs b => hsel j oj cs b hoj) hy h1
  have hfree' : ∀ k ok, ops[k]? = some ok → k ≠ i → (listed.setIfInBounds j true).getD k true = false →
    (∀ e ∈ ok.after, Region.binds md e = true → e.on ≠ i) → oi.apart ops ok = true := fun k ok hk hki hu hno => by
   refine hfree k ok hk hki ?_ hno
   by_cases hjk : j = k
   ·subst hjk; exact hjun
   ·rw [getD_set_ne true hjk] at hu; exact hu
  refine feOp_mono (fun s' a' h3 => ih (listed.setIfInBounds j true) s' a' hfree' (ready_mono hr (Ne.symm hji)) h3.1 ?_) h2
  rw [Array.setIfInBounds_comm _ _ hji]
  exact h3.2
end
section
variable {P : Program} {md : Region.Mode} {W : World} {S : Type} {I : S → World → Prop} {l : List Oper} {Lq : S → Act → Prop}
def wpEfs (P : Program) (ops : Array Oper) (W : World) (I : S → World → Prop) (Q : S → Act → Prop) : List Oper → S → Act → Prop
 | [], s, a => Q s a
 | o :: r, s, a => (∃ v, CalmOp P ops W o v a ∧ wpEfs P ops W I Q r s (a.put o.dst v)) ∨ (Region.wanted o (yielded ops a.tmps) = true ∧ ∀ w, I s w → EffAt P o a w (fun v w' => ∃ s', I s' w' ∧ wpEfs P ops W I Q r s' (a.put o.dst v)))
theorem wpEfs_nil {ops : Array Oper} {Q : S → Act → Prop} {s : S} {a : Act} (h : Q s a) : wpEfs P ops W I Q [] s a := h
theorem wpEfs_eff {ops : Array Oper} {Q : S → Act → Prop} {s : S} {a : Act} {o : Oper} {r : List Oper} (hg : o.guard = none) (h : ∀ w, I s w → EffAt P o a w (fun v w' => ∃ s', I s' w' ∧ wpEfs P ops W I Q r s' (a.put o.dst v))) : wpEfs P ops W I Q (o :: r) s a :=
 .inr ⟨by simp [Region.wanted, hg], h⟩
theorem feAny_seq : ∀ (ss : List Nat) (listed : Array Bool) (s : S) (a : Act), seqOne md l.toArray ss listed = true → wpEfs P l.toArray W I Lq (pick l ss) s a → feAny P md l.toArray W I Lq ss.length listed s a
 | [], listed, s, a, hB, h => ⟨by simpa [seqOne] using hB, h⟩
 | k :: r, listed, s, a, hB, h => by
  simp only [seqOne, Bool.and_eq_true, decide_eq_true_eq] at hB
  refine ⟨(fun h0 => by rw [hB.1] at h0; cases h0), fun i hi => ?_⟩
  have hk : k ∈ Region.ready md l.toArray listed := by rw [hB.1]; simp
  obtain ⟨_, o, ho, _⟩ := mem_ready.1 hk
  have ho' : l[k]? = some o := by simpa using ho
  rw [hB.1] at hi
  obtain rfl : i = k := by simpa using hi
  rw [pick_cons ho'] at h
  rcases h with ⟨v, hv, hr⟩ | ⟨hg, hs⟩
  ·exact .inl ⟨o, ho, v, hv, feAny_seq r _ _ _ hB.2 hr⟩
  exact .inr ⟨o, ho, hg, fun w hw => effUpon_mono (fun v w' ⟨s', h1, h2⟩ => ⟨s', h1, feAny_seq r _ _ _ hB.2 h2⟩) _ (hs w hw)⟩
theorem feAny_lex (hsel : Region.noSelect l.toArray = true) (ss : List Nat) :
  ∀ (qs : List Nat) (listed : Array Bool) (s : S) (a : Act), seqFree md l.toArray ss qs listed = true → wpCalm P l.toArray W (fun a' => wpEfs P l.toArray W I Lq (pick l ss) s a') (pick l qs) a →
   feAny P md l.toArray W I Lq (qs.length + ss.length) listed s a
 | [], listed, s, a, hB, h => by
  rw [List.length_nil, Nat.zero_add]
  exact feAny_seq ss listed s a hB h
 | k :: r, listed, s, a, hB, h => by
  simp only [seqFree, Bool.and_eq_true] at hB
  obtain ⟨⟨hr, hf⟩, hB'⟩ := hB
  have hr' : k ∈ Region.ready md l.toArray listed := by simpa using hr
  obtain ⟨_, o, ho, _⟩ := mem_ready.1 hr'
  have ho' : l[k]? = some o := by simpa using ho
  rw [pick_cons ho'] at h
  rw [show (k :: r).length + ss.length = (r.length + ss.length) + 1 by simp; omega]
  unfold wpCalm at h
  by_cases hw : Region.wanted o (yielded l.toArray a.tmps) = true
  ·simp only [hw, if_true] at h
   obtain ⟨v, hv, hk⟩ := h
   exact feAny_first ho (Region.noSelect_spec hsel) _ listed s a (Region.free_spec ho hf) hr' (.inl ⟨hw, hv⟩) (feAny_lex hsel ss r _ _ _ hB' hk)
  ·simp only [hw] at h
   exact feAny_first ho (Region.noSelect_spec hsel) _ listed s a (Region.free_spec ho hf) hr' (.inr ⟨by simpa using hw, rfl⟩) (feAny_lex hsel ss r _ _ _ hB' h)
theorem wp_region_eff {id : Nat} {Q : Exit → Act → World → Prop} {a : Act} {w : World} (G : Ghost W I) (s : S) (hw : I s w.drew) (qs ss : List Nat) (hm : P.follows .mixedOrders = true) (hB : lateB .any l.toArray qs ss = true)
  (h : wpCalm P l.toArray W (fun a' => wpEfs P l.toArray W I (fun s a3 => ∀ w', I s w' → Q .normal a3 w') (pick l ss) s a') (pick l qs) a) : (Code.region id l.toArray true).wp P Q a w := by
 simp only [lateB, Bool.and_eq_true, decide_eq_true_eq] at hB
 obtain ⟨⟨hsel, hlen⟩, hlex⟩ := hB
 have H := feAny_lex (md := .any) (P := P) (W := W) (I := I) hsel ss qs _ s a hlex h
 refine wp_region_any hm ?_
 have := feAny_any (Q' := Q) G (fun s a' w' hw' (hL : ∀ w', I s w' → Q .normal a' w') => hL w' hw') _ _ _ _ _ hw H
 rw [hlen] at this
 exact this
end
structure Blk1 (W : World) (X : Nat) (T : TypeId) where
 cs : Array Value
 e : World → Prop
 grow : ∀ w w', e w → Gr w w' → e w'
 set : ∀ w o v cs, BlockAt w X cs T → e w → e (w.setCell ⟨X, o, none⟩ v)
def Blk1.other {W : World} {X : Nat} {T : TypeId} (s : Blk1 W X T) (R : Nat) (zs : Array Value) (U : TypeId) (hne : R ≠ X) : Blk1 W X T :=
 ⟨s.cs, fun w => BlockAt w R zs U ∧ s.e w, fun w w' h g => ⟨h.1.gr g, s.grow _ _ h.2 g⟩, fun w o v cs hb h => ⟨by haveI := h.1; haveI : BNe R X := ⟨hne⟩; infer_instance, s.set _ _ _ _ hb h.2⟩⟩
def Blk1.one (W : World) (X : Nat) (T : TypeId) (cs : Array Value) : Blk1 W X T := ⟨cs, fun _ => True, fun _ _ _ _ => trivial, fun _ _ _ _ _ _ => trivial⟩
def Blk1.put {W : World} {X : Nat} {T : TypeId} (s : Blk1 W X T) (o : Nat) (v : Value) : Blk1 W X T := ⟨s.cs.setIfInBounds o v, s.e, s.grow, s.set⟩
def Blk1.and {W : World} {X : Nat} {T : TypeId} (s : Blk1 W X T) (e : World → Prop) (hg : ∀ w w', e w → Gr w w' → e w') (hs : ∀ w o v cs, BlockAt w X cs T → e w → e (w.setCell ⟨X, o, none⟩ v)) : Blk1 W X T :=
 ⟨s.cs, fun w => e w ∧ s.e w, fun w w' h g => ⟨hg _ _ h.1 g, s.grow _ _ h.2 g⟩, fun w o v cs hb h => ⟨hs _ _ _ _ hb h.1, s.set _ _ _ _ hb h.2⟩⟩
section
variable {P : Program} {md : Region.Mode} {W : World} {S : Type} {I : S → World → Prop} {l : List Oper} {Lq : S → Act → Prop}
def freeAll (md : Region.Mode) (ops : Array Oper) : List Nat → Array Bool → Bool
 | [], _ => true
 | k :: r, listed => (Region.ready md ops listed).contains k && Region.free md ops listed k && freeAll md ops r (listed.setIfInBounds k true)
def listAll : List Nat → Array Bool → Array Bool
 | [], z => z
 | k :: r, z => listAll r (z.setIfInBounds k true)
theorem feAny_lexT (hsel : Region.noSelect l.toArray = true) (n : Nat) :
  ∀ (qs : List Nat) (listed : Array Bool) (s : S) (a : Act), freeAll md l.toArray qs listed = true → wpCalm P l.toArray W (fun a' => feAny P md l.toArray W I Lq n (listAll qs listed) s a') (pick l qs) a →
   feAny P md l.toArray W I Lq (qs.length + n) listed s a
 | [], listed, s, a, hB, h => by
  rw [List.length_nil, Nat.zero_add]
  exact h
 | k :: r, listed, s, a, hB, h => by
  simp only [freeAll, Bool.and_eq_true] at hB
  obtain ⟨⟨hr, hf⟩, hB'⟩ := hB
  have hr' : k ∈ Region.ready md l.toArray listed := by simpa using hr
  obtain ⟨_, o, ho, _⟩ := mem_ready.1 hr'
  have ho' : l[k]? = some o := by simpa using ho
  rw [pick_cons ho'] at h
  rw [show (k :: r).length + n = (r.length + n) + 1 by simp; omega]
  unfold wpCalm at h
  by_cases hw : Region.wanted o (yielded l.toArray a.tmps) = true
  ·simp only [hw, if_true] at h
   obtain ⟨v, hv, hk⟩ := h
   exact feAny_first ho (Region.noSelect_spec hsel) _ listed s a (Region.free_spec ho hf) hr' (.inl ⟨hw, hv⟩) (feAny_lexT hsel n r _ _ _ hB' hk)
  ·simp only [hw] at h
   exact feAny_first ho (Region.noSelect_spec hsel) _ listed s a (Region.free_spec ho hf) hr' (.inr ⟨by simpa using hw, rfl⟩) (feAny_lexT hsel n r _ _ _ hB' h)
def treeB (md : Region.Mode) (ops : Array Oper) (qs : List Nat) (n : Nat) : Bool :=
 Region.noSelect ops && decide (qs.length + n = ops.size) && freeAll md ops qs (Array.replicate ops.size false)
theorem wp_region_tree {id : Nat} {Q : Exit → Act → World → Prop} {a : Act} {w : World} (G : Ghost W I) (s : S) (hw : I s w.drew) (qs : List Nat) (n : Nat) (hm : P.follows .mixedOrders = true) (hB : treeB .any l.toArray qs n = true)
  (h : wpCalm P l.toArray W (fun a' => feAny P .any l.toArray W I (fun s a3 => ∀ w', I s w' → Q .normal a3 w') n (listAll qs (Array.replicate l.toArray.size false)) s a') (pick l qs) a) : (Code.region id l.toArray true).wp P Q a w := by
 simp only [treeB, Bool.and_eq_true, decide_eq_true_eq] at hB
 obtain ⟨⟨hsel, hlen⟩, hlex⟩ := hB
 have H := feAny_lexT (md := .any) (P := P) (W := W) (I := I) hsel n qs _ s a hlex h
 refine wp_region_any hm ?_
 have := feAny_any (Q' := Q) G (fun s a' w' hw' (hL : ∀ w', I s w' → Q .normal a' w') => hL w' hw') _ _ _ _ _ hw H
 rw [hlen] at this
 exact this
section
variable {ops : Array Oper} {L : S → Act → Prop} {f : Nat} {listed : Array Bool} {s : S} {a : Act}
theorem fe_one (i : Nat) (hr : Region.ready md ops listed = [i]) (h : feOp P ops W I i (feAny P md ops W I L f (listed.setIfInBounds i true)) s a) : feAny P md ops W I L (f + 1) listed s a :=
 ⟨fun h0 => by (rw [hr] at h0; cases h0), fun k hk => by (rw [hr] at hk; obtain rfl : k = i := by simpa using hk); exact h⟩
theorem fe_two (i j : Nat) (hr : Region.ready md ops listed = [i, j]) (hi : feOp P ops W I i (feAny P md ops W I L f (listed.setIfInBounds i true)) s a) (hj : feOp P ops W I j (feAny P md ops W I L f (listed.setIfInBounds j true)) s a) : feAny P md ops W I L (f + 1) listed s a :=
 ⟨fun h0 => by (rw [hr] at h0; cases h0), fun k hk => by
  rw [hr] at hk
  rcases List.mem_cons.1 hk with rfl | hk
  ·exact hi
  ·obtain rfl : k = j := by simpa using hk
   exact hj⟩
end
end
structure Cls (W : World) where
 e : World → Prop
 grow : ∀ w w', e w → Gr w w' → e w'
def InCls (W : World) (s : Cls W) (w : World) : Prop := Gr W w ∧ s.e w
theorem inCls_ghost (W : World) : Ghost W (InCls W) := ⟨fun s w w' h g => ⟨h.1.trans g, s.grow _ _ h.2 g⟩, fun s w h => h.1⟩
def Cls.none (W : World) : Cls W := ⟨fun _ => True, fun _ _ _ _ => trivial⟩
theorem effAt_alloc {P : Program} {o : Oper} {a : Act} {w : World} {T : TypeId} {z : Value} {R : Value → World → Prop} (ho : o.op = .alloc T) (hz : ∀ w, (zeroValue T).run P w = .ok z w) (h : R (.pointer (some ⟨w.heap.size, 0, none⟩)) (w.alloc (.cells z.cells T))) : EffAt P o a w R := by
 unfold EffAt execOp
 simp only [ho]
 simp [Sem.run_bind, hz, go_sem]
 exact h
def KeptT (T : TypeId) (w w' : World) : Prop := ∀ B cs, BlockAt w B cs T → BlockAt w' B cs T
theorem KeptT.refl (T : TypeId) (w : World) : KeptT T w w := fun _ _ h => h
theorem KeptT.gr {T : TypeId} {w w' : World} (g : Gr w w') : KeptT T w w' := fun _ _ h => h.gr g
theorem KeptT.trans {T : TypeId} {a b c : World} (h : KeptT T a b) (k : KeptT T b c) : KeptT T a c := fun B cs hb => k B cs (h B cs hb)
section
variable {P : Program} {md : Region.Mode} {W : World} {S : Type} {I : S → World → Prop} {l : List Oper} {T : TypeId} {zc : Array Value}
def wpFlo (P : Program) (ops : Array Oper) (W : World) (I : S → World → Prop) (T : TypeId) (Q : S → Act → Prop) : List (Oper × Bool) → S → Act → Prop
 | [], s, a => Q s a
 | (o, true) :: r, s, a => ∃ v, CalmOp P ops W o v a ∧ wpFlo P ops W I T Q r s (a.put o.dst v)
 | (o, false) :: r, s, a => Region.wanted o (yielded ops a.tmps) = true ∧ ∀ w, I s w → EffAt P o a w (fun v w' => KeptT T w w' ∧ ∃ s', I s' w' ∧ wpFlo P ops W I T Q r s' (a.put o.dst v))
def pickF (l : List Oper) : List (Nat × Bool) → List (Oper × Bool)
 | [] => []
 | (k, b) :: r => match l[k]? with
  | some o => (o, b) :: pickF l r
  | none => []
theorem pickF_cons {k : Nat} {b : Bool} {r : List (Nat × Bool)} {o : Oper} (h : l[k]? = some o) : pickF l ((k, b) :: r) = (o, b) :: pickF l r := by
 simp [pickF, h]
def apartB (ops : Array Oper) (i k : Nat) : Bool := match ops[i]?, ops[k]? with
 | some oi, some ok => oi.apart ops ok
 | _, _ => false
def floB (md : Region.Mode) (ops : Array Oper) (k m : Nat) (ts : List Nat) : List (Nat × Bool) → Array Bool → Bool
 | [], listed => decide (Region.ready md ops listed = [k]) && decide (Region.ready md ops (listed.setIfInBounds k true) = [m]) && (freeAll md ops ts ((listed.setIfInBounds k true).setIfInBounds m true) && decide (Region.ready md ops (listAll ts ((listed.setIfInBounds k true).setIfInBounds m true)) = [])) && !(k == m)
 | (i, true) :: r, listed => (Region.ready md ops listed).contains i && Region.free md ops listed i && (Region.ready md ops (listed.setIfInBounds k true)).contains i && Region.free md ops (listed.setIfInBounds k true) i && apartB ops i k && !(k == i) && floB md ops k m ts r (listed.setIfInBounds i true)
 | (i, false) :: r, listed => (decide (Region.ready md ops listed = [i, k]) || decide (Region.ready md ops listed = [k, i])) && decide (Region.ready md ops (listed.setIfInBounds k true) = [i]) && apartB ops i k && !(k == i) && floB md ops k m ts r (listed.setIfInBounds i true)
def InFlo (W : World) (I : S → World → Prop) (T : TypeId) (zc : Array Value) (sx : S × Option Nat) (w : World) : Prop := I sx.1 w ∧ ∀ X, sx.2 = some X → BlockAt w X zc T ∧ W.heap.size ≤ X
theorem inFlo_ghost (G : Ghost W I) : Ghost W (InFlo W I T zc) := ⟨fun s w w' h g => ⟨G.grow _ _ _ h.1 g, fun X hX => ⟨(h.2 X hX).1.gr g, (h.2 X hX).2⟩⟩, fun s w h => G.out _ _ h.1⟩
def ptrAt (X : Nat) : Value := .pointer (some ⟨X, 0, none⟩)
def FloEnd (P : Program) (W : World) (I : S → World → Prop) (T : TypeId) (zc : Array Value) (ok om : Oper) (ops : Array Oper) (tl : List Oper) (E : Act → World → Prop) (s : S) (a : Act) : Prop :=
 ∀ X, Region.wanted om (yielded ops (a.put ok.dst (ptrAt X)).tmps) = true ∧ ∀ w, I s w → BlockAt w X zc T → W.heap.size ≤ X → EffAt P om (a.put ok.dst (ptrAt X)) w (fun v w' => ∃ s', I s' w' ∧ wpCalm P ops W (fun a' => ∀ w'', I s' w'' → E a' w'') tl ((a.put ok.dst (ptrAt X)).put om.dst v))
variable {k m : Nat} {ts : List Nat} {ok om : Oper} {E : Act → World → Prop}
theorem wpCalm_mono {ops : Array Oper} {Q Q' : Act → Prop} (hq : ∀ a, Q a → Q' a) : ∀ (r : List Oper) (a : Act), wpCalm P ops W Q r a → wpCalm P ops W Q' r a
 | [], a, h => hq a h
 | o :: r, a, h => by
  unfold wpCalm at h ⊢
  split at h
  ·rename_i hw
   simp only [hw, if_true]
   obtain ⟨v, hv, hk⟩ := h
   exact ⟨v, hv, wpCalm_mono hq r _ hk⟩
  ·rename_i hw
   simp only [hw]
   exact wpCalm_mono hq r _ h
theorem flo_done (G : Ghost W I) (hsel : Region.noSelect l.toArray = true) (hk : l.toArray[k]? = some ok) (hm : l.toArray[m]? = some om) :
  ∀ (ss : List (Nat × Bool)) (listed : Array Bool) (s : S) (a : Act) (X : Nat), floB md l.toArray k m ts ss listed = true → wpFlo P l.toArray W I T (FloEnd P W I T zc ok om l.toArray (pick l ts) E) (pickF l ss) s a →
   feAny P md l.toArray W (InFlo W I T zc) (fun sx a' => ∀ w', InFlo W I T zc sx w' → E a' w') (ts.length + 1 + ss.length) (listed.setIfInBounds k true) (s, some X) (a.put ok.dst (ptrAt X))
 | [], listed, s, a, X, hB, h => by
  simp only [floB, Bool.and_eq_true, decide_eq_true_eq] at hB
  obtain ⟨⟨⟨_, h2⟩, h0, h3⟩, _⟩ := hB
  obtain ⟨hw, hE⟩ := h X
  refine fe_one m h2 (.inr ⟨om, hm, hw, fun w hI => ?_⟩)
  refine effUpon_mono (fun v w' ⟨s', hs', hf⟩ => ⟨(s', none), ⟨hs', fun X hX => by cases hX⟩, ?_⟩) _ (hE w hI.1 (hI.2 X rfl).1 (hI.2 X rfl).2)
  have := feAny_lexT (md := md) (P := P) (W := W) (I := InFlo W I T zc) (Lq := fun sx a' => ∀ w', InFlo W I T zc sx w' → E a' w') hsel 0 ts _ (s', none) _ h0 (wpCalm_mono (fun a' ha => ⟨h3, fun w'' hw'' => ha w'' hw''.1⟩) _ _ hf)
  exact this
 | (i, true) :: r, listed, s, a, X, hB, h => by
  simp only [floB, Bool.and_eq_true] at hB
  obtain ⟨⟨⟨⟨⟨⟨_, _⟩, hr⟩, hf⟩, hap⟩, hne⟩, hB'⟩ := hB
  have hr' : i ∈ Region.ready md l.toArray (listed.setIfInBounds k true) := by simpa using hr
  obtain ⟨_, oi, hi, _⟩ := mem_ready.1 hr'
  have hi' : l[i]? = some oi := by simpa using hi
  rw [pickF_cons hi'] at h
  obtain ⟨v, hv, hr2⟩ := h
  simp only [apartB, hi, hk] at hap
  obtain ⟨p1, p2, p3⟩ := Oper.apart_spec hap
  have hki : ¬ k = i := by simpa using hne
  have IH := flo_done G hsel hk hm r (listed.setIfInBounds i true) s (a.put oi.dst v) X hB' hr2
  refine feAny_first hi (Region.noSelect_spec hsel) _ _ _ _ (Region.free_spec hi hf) hr' (hv.put (fun cs b => Region.noSelect_spec hsel i oi cs b hi) p3) ?_
  rw [Array.setIfInBounds_comm _ _ hki, Act.put_comm a (ptrAt X) v (fun d hd he => p2 d he hd)]
  exact IH
 | (i, false) :: r, listed, s, a, X, hB, h => by
  simp only [floB, Bool.and_eq_true, decide_eq_true_eq] at hB
  obtain ⟨⟨⟨⟨_, hr⟩, hap⟩, hne⟩, hB'⟩ := hB
  have hr' : i ∈ Region.ready md l.toArray (listed.setIfInBounds k true) := by rw [hr]; simp
  obtain ⟨_, oi, hi, _⟩ := mem_ready.1 hr'
  have hi' : l[i]? = some oi := by simpa using hi
  rw [pickF_cons hi'] at h
  obtain ⟨hw, hE⟩ := h
  simp only [apartB, hi, hk] at hap
  obtain ⟨p1, p2, p3⟩ := Oper.apart_spec hap
  have hki : ¬ k = i := by simpa using hne
  have hse := fun cs b => Region.noSelect_spec hsel i oi cs b hi
  refine fe_one i hr (.inr ⟨oi, hi, by rw [wanted_put oi a ok.dst (ptrAt X) p3]; exact hw, fun w hI => ?_⟩)
  have h3 := hE w hI.1
  unfold EffAt at *
  rw [execOp_put oi hse a ok.dst (ptrAt X) p3]
  refine effUpon_mono (fun v w' ⟨hkp, s', hs', hf⟩ => ⟨(s', some X), ⟨hs', fun Y hY => ⟨hkp _ _ (hI.2 Y hY).1, (hI.2 Y hY).2⟩⟩, ?_⟩) _ h3
  have IH := flo_done G hsel hk hm r (listed.setIfInBounds i true) s' (a.put oi.dst v) X hB' hf
  rw [Array.setIfInBounds_comm _ _ hki, Act.put_comm a (ptrAt X) v (fun d hd he => p2 d he hd)]
  exact IH
theorem flo_alloc {z : Value} (ho : ok.op = .alloc T) (hg : ok.guard = none) (hz : ∀ w, (zeroValue T).run P w = .ok z w) (G : Ghost W I) {K : S × Option Nat → Act → Prop} {ops : Array Oper} (hk : ops[k]? = some ok) {s : S} {a : Act}
  (h : ∀ X, K (s, some X) (a.put ok.dst (ptrAt X))) : feOp P ops W (InFlo W I T z.cells) k K (s, none) a := by
 refine .inr ⟨ok, hk, by simp [Region.wanted, hg], fun w hI => ?_⟩
 refine effAt_alloc ho hz ⟨(s, some w.heap.size), ⟨G.grow _ _ _ hI.1 (Gr.of (below_alloc (Below.refl _ _) _)), fun X hX => ?_⟩, h _⟩
 obtain rfl := Option.some.inj hX
 exact ⟨inferInstance, (G.out _ _ hI.1).below.size⟩
theorem flo_any {z : Value} (ho : ok.op = .alloc T) (hg : ok.guard = none) (hz : ∀ w, (zeroValue T).run P w = .ok z w) (G : Ghost W I) (hsel : Region.noSelect l.toArray = true) (hk : l.toArray[k]? = some ok) (hm : l.toArray[m]? = some om) :
  ∀ (ss : List (Nat × Bool)) (listed : Array Bool) (s : S) (a : Act), floB md l.toArray k m ts ss listed = true → wpFlo P l.toArray W I T (FloEnd P W I T z.cells ok om l.toArray (pick l ts) E) (pickF l ss) s a →
   feAny P md l.toArray W (InFlo W I T z.cells) (fun sx a' => ∀ w', InFlo W I T z.cells sx w' → E a' w') (ts.length + 2 + ss.length) listed (s, none) a
 | [], listed, s, a, hB, h => by
  have hB0 := hB
  simp only [floB, Bool.and_eq_true, decide_eq_true_eq] at hB
  obtain ⟨⟨⟨h1, _⟩, _⟩, _⟩ := hB
  exact fe_one k h1 (flo_alloc ho hg hz G hk fun X => flo_done G hsel hk hm [] listed s a X hB0 h)
 | (i, true) :: r, listed, s, a, hB, h => by
  simp only [floB, Bool.and_eq_true] at hB
  obtain ⟨⟨⟨⟨⟨⟨hr, hf⟩, _⟩, _⟩, hap⟩, hne⟩, hB'⟩ := hB
  have hr' : i ∈ Region.ready md l.toArray listed := by simpa using hr
  obtain ⟨_, oi, hi, _⟩ := mem_ready.1 hr'
  have hi' : l[i]? = some oi := by simpa using hi
  rw [pickF_cons hi'] at h
  obtain ⟨v, hv, hr2⟩ := h
  exact feAny_first hi (Region.noSelect_spec hsel) _ _ _ _ (Region.free_spec hi hf) hr' hv (flo_any ho hg hz G hsel hk hm r _ s _ hB' hr2)
 | (i, false) :: r, listed, s, a, hB, h => by
  have hB0 := hB
  have h0 := h
  simp only [floB, Bool.and_eq_true, decide_eq_true_eq, Bool.or_eq_true] at hB
  obtain ⟨⟨⟨⟨hrd, _⟩, hap⟩, hne⟩, hB'⟩ := hB
  have hr' : i ∈ Region.ready md l.toArray listed := by rcases hrd with h | h <;> (rw [h]; simp)
  obtain ⟨_, oi, hi, _⟩ := mem_ready.1 hr'
  have hi' : l[i]? = some oi := by simpa using hi
  rw [pickF_cons hi'] at h
  obtain ⟨hw, hE⟩ := h
  have step1 : feOp P l.toArray W (InFlo W I T z.cells) i (feAny P md l.toArray W (InFlo W I T z.cells) (fun sx a' => ∀ w', InFlo W I T z.cells sx w' → E a' w') (ts.length + 2 + r.length) (listed.setIfInBounds i true)) (s, none) a := by
   refine .inr ⟨oi, hi, hw, fun w hI => ?_⟩
   have h3 := hE w hI.1
   unfold EffAt at *
   refine effUpon_mono (fun v w' ⟨_, s', hs', hf⟩ => ⟨(s', none), ⟨hs', fun Y hY => by cases hY⟩, flo_any ho hg hz G hsel hk hm r _ s' _ hB' hf⟩) _ h3
  have step2 : feOp P l.toArray W (InFlo W I T z.cells) k (feAny P md l.toArray W (InFlo W I T z.cells) (fun sx a' => ∀ w', InFlo W I T z.cells sx w' → E a' w') (ts.length + 2 + r.length) (listed.setIfInBounds k true)) (s, none) a :=
   flo_alloc ho hg hz G hk fun X => by
    have h9 := flo_done G hsel hk hm ((i, false) :: r) listed s a X hB0 h0
    rw [show ts.length + 1 + ((i, false) :: r).length = ts.length + 2 + r.length by (simp only [List.length_cons]; omega)] at h9
    exact h9
  rcases hrd with h | h
  ·exact fe_two i k h step1 step2
  ·exact fe_two k i h step2 step1
theorem wp_region_flo {id : Nat} {Q : Exit → Act → World → Prop} {a : Act} {w : World} {z : Value} (G : Ghost W I) (s : S) (hw : I s w.drew) (qs : List Nat) (ss : List (Nat × Bool)) (k m : Nat) (ts : List Nat) (ho : ok.op = .alloc T) (hg : ok.guard = none) (hz : ∀ w, (zeroValue T).run P w = .ok z w)
  (hk : l.toArray[k]? = some ok) (hm : l.toArray[m]? = some om) (hmix : P.follows .mixedOrders = true) (hB : treeB .any l.toArray qs (ts.length + 2 + ss.length) = true) (hF : floB .any l.toArray k m ts ss (listAll qs (Array.replicate l.toArray.size false)) = true)
  (h : wpCalm P l.toArray W (fun a' => wpFlo P l.toArray W I T (FloEnd P W I T z.cells ok om l.toArray (pick l ts) (fun a3 w3 => Q .normal a3 w3)) (pickF l ss) s a') (pick l qs) a) : (Code.region id l.toArray true).wp P Q a w := by
 have hsel : Region.noSelect l.toArray = true := by
  have := hB
  simp only [treeB, Bool.and_eq_true] at this
  exact this.1.1
 refine wp_region_tree (I := InFlo W I T z.cells) (inFlo_ghost G) (s, none) ⟨hw, fun X hX => by cases hX⟩ qs (ts.length + 2 + ss.length) hmix hB ?_
 exact wpCalm_mono (fun a' ha => flo_any ho hg hz G hsel hk hm ss _ s a' hF ha) _ _ h
theorem flo_calm {ops : Array Oper} {Q : S → Act → Prop} {s : S} {a : Act} {o : Oper} {r : List (Oper × Bool)} (v : Value) (hg : o.guard = none) (hc : ∀ g : Growth W, calmAt P o a (grown W g) v) (h : wpFlo P ops W I T Q r s (a.put o.dst v)) : wpFlo P ops W I T Q ((o, true) :: r) s a :=
 ⟨v, .inl ⟨by simp [Region.wanted, hg], hc⟩, h⟩
theorem flo_eff {ops : Array Oper} {Q : S → Act → Prop} {s : S} {a : Act} {o : Oper} {r : List (Oper × Bool)} (hg : o.guard = none) (h : ∀ w, I s w → EffAt P o a w (fun v w' => KeptT T w w' ∧ ∃ s', I s' w' ∧ wpFlo P ops W I T Q r s' (a.put o.dst v))) : wpFlo P ops W I T Q ((o, false) :: r) s a :=
 ⟨by simp [Region.wanted, hg], h⟩
theorem flo_end {ops : Array Oper} {tl : List Oper} {ok om : Oper} {s : S} {a : Act} (hg : om.guard = none) (h : ∀ X w, I s w → BlockAt w X zc T → W.heap.size ≤ X → EffAt P om (a.put ok.dst (ptrAt X)) w (fun v w' => ∃ s', I s' w' ∧ wpCalm P ops W (fun a' => ∀ w'', I s' w'' → E a' w'') tl ((a.put ok.dst (ptrAt X)).put om.dst v))) : wpFlo P ops W I T (FloEnd P W I T zc ok om ops tl E) [] s a :=
 fun X => ⟨by simp [Region.wanted, hg], fun w hw hX hl => h X w hw hX hl⟩
theorem effAt_call {o : Oper} {a : Act} {w : World} {R : Value → World → Prop} (f : FuncId) (args : Array Value) (he : (execOp a.eval o).run P w = .ok (.enter f args) w) (h : Calls P f args w (fun e w' => ∃ v, e = .returned v ∧ R v w')) : EffAt P o a w R := by
 unfold EffAt
 rw [he]
 exact h
end
def Cls.and {W : World} (s : Cls W) (e : World → Prop) (hg : ∀ w w', e w → Gr w w' → e w') : Cls W := ⟨fun w => e w ∧ s.e w, fun w w' h g => ⟨hg _ _ h.1 g, s.grow _ _ h.2 g⟩⟩
def Cls.just (W : World) (e : World → Prop) (hg : ∀ w w', e w → Gr w w' → e w') : Cls W := ⟨e, hg⟩
structure AM.OkR (W : World) (x : AM) : Prop where
 bd : Bd x.a.o.v x.a.o.t x.a.o.s x.a.o.a x.a.o.c
 n0 : -9223372036854775808 ≤ x.a.nd
 n1 : x.a.nd ≤ 9223372036854775807
 m0 : -9223372036854775808 ≤ x.a.m
 m1 : x.a.m ≤ 9223372036854775807
 ld : x.a.o.d.length ≤ x.qd
 bq : x.a.o.d.length ≤ 9223372036854775807
 d : Row bv W x.Ad x.a.o.d
 lv : x.a.pk.length ≤ x.qv
 bv : x.a.pk.length ≤ 9223372036854775807
 pk : Pk x.a.pk
 v : Row (Value.int .i64) W x.Av x.a.pk
theorem AM.OkR.gr {W W' : World} {x : AM} (h : x.OkR W) (g : Gr W W') : x.OkR W' := ⟨h.bd, h.n0, h.n1, h.m0, h.m1, h.ld, h.bq, h.d.gr g, h.lv, h.bv, h.pk, h.v.gr g⟩
def CellsA (W : World) (b p : Nat) (xs : List AM) : Prop := ∀ (j : Nat) (x : AM), xs[j]? = some x → ∀ (i : Nat) (u : Value), x.cs[i]? = some u → W.cell? ⟨b, p + j * 12 + i, none⟩ = some u
theorem CellsA.gr {W W' : World} {b p : Nat} {xs : List AM} (h : CellsA W b p xs) (hb : b < W.heap.size) (g : Gr W W') : CellsA W' b p xs := fun j x hj i u hu => (g.below.cell (p := ⟨b, p + j * 12 + i, none⟩) hb).trans (h j x hj i u hu)
theorem CellsA.take {W : World} {b p : Nat} {xs : List AM} (h : CellsA W b p xs) (n : Nat) : CellsA W b p (xs.take n) := fun j x hj => h j x (by
 rw [List.getElem?_take] at hj
 split at hj
 ·exact hj
 ·cases hj)
theorem CellsA.drop {W : World} {b p : Nat} {xs : List AM} (h : CellsA W b p xs) (n : Nat) : CellsA W b (p + n * 12) (xs.drop n) := fun j x hj i u hu => by
 rw [List.getElem?_drop] at hj
 have := h (n + j) x hj i u hu
 rw [show p + n * 12 + j * 12 + i = p + (n + j) * 12 + i by omega]
 exact this
theorem rowA_am {W : World} {A : Option Addr} {l : List ActV} (h : RowA W A l) (hne : l ≠ []) : ∃ b p xs, A = some ⟨b, p, none⟩ ∧ b < W.heap.size ∧ xs.map (·.a) = l ∧ (∀ x ∈ xs, x.OkR W) ∧ CellsA W b p xs := by
 obtain ⟨b, p, rfl, hb, hc⟩ := h.at_ hne
 have hex : ∃ f : Nat → AM, ∀ (j : Nat) (a : ActV), l[j]? = some a → (f j).a = a ∧ ActM W b (p + j * 12) a (f j).Ad (f j).qd (f j).Av (f j).qv := by
  refine ⟨fun j => @dite AM (∃ x : AM, ∀ a, l[j]? = some a → x.a = a ∧ ActM W b (p + j * 12) a x.Ad x.qd x.Av x.qv) (Classical.propDecidable _) (fun h => Classical.choose h) (fun _ => ⟨zA, none, 0, none, 0⟩), fun j a hj => ?_⟩
  have hx : ∃ x : AM, ∀ a, l[j]? = some a → x.a = a ∧ ActM W b (p + j * 12) a x.Ad x.qd x.Av x.qv := by
   obtain ⟨Ad, qd, Av, qv, hm⟩ := hc j a hj
   exact ⟨⟨a, Ad, qd, Av, qv⟩, fun a' h' => by rw [hj] at h'; cases h'; exact ⟨rfl, hm⟩⟩
  simp only [dif_pos hx]
  exact Classical.choose_spec hx a hj
 obtain ⟨f, hf⟩ := hex
 refine ⟨b, p, (List.range l.length).map f, rfl, hb, ?_, ?_, ?_⟩
 ·rw [List.map_map]
  refine List.ext_getElem? fun j => ?_
  rw [List.getElem?_map]
  by_cases hj : j < l.length
  ·rw [List.getElem?_range hj, List.getElem?_eq_getElem hj]
   simp only [Option.map_some, Function.comp]
   rw [(hf j _ (List.getElem?_eq_getElem hj)).1]
  ·rw [List.getElem?_eq_none (by simpa using hj), List.getElem?_eq_none (by omega)]; rfl
 ·intro x hx
  obtain ⟨j, hj, rfl⟩ := List.mem_map.1 hx
  have hj : j < l.length := by simpa using hj
  obtain ⟨h1, h2⟩ := hf j _ (List.getElem?_eq_getElem hj)
  rw [← h1] at h2
  exact ⟨h2.bd, h2.n0, h2.n1, h2.m0, h2.m1, h2.ld, h2.bq, h2.d, h2.lv, h2.bv, h2.pk, h2.v⟩
 ·intro j x hj i u hu
  rw [List.getElem?_map] at hj
  have hjl : j < l.length := by
   rcases Nat.lt_or_ge j l.length with h | h
   ·exact h
   ·rw [List.getElem?_eq_none (by simpa using h)] at hj; cases hj
  rw [List.getElem?_range hjl] at hj
  simp only [Option.map_some, Option.some.injEq] at hj
  subst hj
  obtain ⟨h1, h2⟩ := hf j _ (List.getElem?_eq_getElem hjl)
  rw [← h1] at h2
  refine h2.c i u ?_
  rw [AM.cs, Array.getElem?_toList] at hu
  exact hu
theorem cellsA_row {W : World} {b p : Nat} {xs : List AM} (hb : b < W.heap.size) (hc : CellsA W b p xs) (hx : ∀ x ∈ xs, x.OkR W) : RowA W (some ⟨b, p, none⟩) (xs.map (·.a)) :=
 ⟨fun _ => ⟨b, p, rfl, hb, fun j a hj => by
  rw [List.getElem?_map] at hj
  cases hy : xs[j]? with
  | none => rw [hy] at hj; cases hj
  | some x =>
   rw [hy] at hj
   cases hj
   obtain ⟨bd, n0, n1, m0, m1, ld, bq, hd, lv, bv, pk, hv⟩ := hx x (List.mem_of_getElem? hy)
   exact ⟨x.Ad, x.qd, x.Av, x.qv, ⟨fun i u hu => hc j x hy i u (by rw [AM.cs, Array.getElem?_toList]; exact hu), bd, n0, n1, m0, m1, ld, bq, hd, lv, bv, pk, hv⟩⟩⟩⟩
theorem OwnA.cells {base : Nat} {W : World} {v : Value} {xs : List AM} (h : OwnA base W v xs) (hne : xs ≠ []) : ∃ g c, v = .slice (some ⟨g, 0, none⟩) xs.length c ∧ base ≤ g ∧ g < W.heap.size ∧ xs.length ≤ c ∧ CellsA W g 0 xs ∧ ∀ o, W.frozen? ⟨g, o, none⟩ = false := by
 have h0 := h
 rcases h.2 with ⟨_, hn⟩ | ⟨g, cap, cur, rfl, hb, hh, hnc, _⟩
 ·exact absurd (List.eq_nil_of_length_eq_zero hn) hne
 ·refine ⟨g, cap, rfl, hb, (Array.getElem?_eq_some_iff.1 hh).1, hnc, fun j x hj i u hu => ?_, fun o => by simp [World.frozen?, hh]⟩
  have h1 := World.ownsRow.cells h0 (g := g) rfl (j * 12 + i) u (flatA_at xs j i x u hj hu)
  rw [Go.WideShapes.add_plain] at h1
  rw [Nat.zero_add] at h1 ⊢
  exact h1
theorem flatA_of : ∀ (xs : List AM) (j : Nat) (u : Value), (xs.flatMap AM.cs)[j]? = some u → ∃ q i x, j = q * 12 + i ∧ xs[q]? = some x ∧ x.cs[i]? = some u
 | [], j, u, h => by simp at h
 | x :: xs, j, u, h => by
  rw [List.flatMap_cons] at h
  by_cases hj : j < x.cs.length
  ·rw [List.getElem?_append_left hj] at h
   exact ⟨0, j, x, by omega, rfl, h⟩
  ·rw [List.getElem?_append_right (by omega)] at h
   obtain ⟨q, i, y, h1, h2, h3⟩ := flatA_of xs _ u h
   rw [x.cs_len] at h1
   rw [x.cs_len] at hj
   exact ⟨q + 1, i, y, by omega, by simpa using h2, h3⟩
theorem flatA_one (xs : List AM) : ∀ u ∈ xs.flatMap AM.cs, u.oneCell' = true := by
 intro u hu
 obtain ⟨x, _, hx⟩ := List.mem_flatMap.1 hu
 simp only [AM.cs, actB, List.mem_cons, List.mem_nil_iff, or_false] at hx
 rcases hx with rfl | rfl | rfl | rfl | rfl | rfl | rfl | rfl | rfl | rfl | rfl | rfl <;> rfl
structure AppAs (base : Nat) (W : World) (xs ys : List AM) (v' : Value) (W' : World) : Prop where
 own : OwnA base W' v' (xs ++ ys)
 below : Below base W W'
 size : W.heap.size ≤ W'.heap.size
 keep : ∀ B cs t, BlockAt W B cs t → t ≠ 42 → BlockAt W' B cs t
theorem effAt_append_acts {o : Oper} {a : Act} {w : World} {R : Value → World → Prop} (sx x : Operand) (ho : o.op = .call { callee := .builtin .append, args := #[sx, x], argTypes := #[56, 56] })
  (base : Nat) (v : Value) (xs : List AM) (hs : a.eval sx = v) (hown : OwnA base w v xs) (b p : Nat) (ys : List AM) (m c : Nat) (hm : ys.length = m) (hx : a.eval x = .slice (some ⟨b, p, none⟩) m c) (hc : CellsA w b p ys) (hlen : xs.length + ys.length ≤ 1000000) (hbase : base ≤ w.heap.size)
  (h : ∀ v' w', AppAs base w xs ys v' w' → R v' w') : EffAt Tryz.prog o a w R := by
 subst hm
 obtain ⟨i0, hi, hz0, hz2, hz3⟩ := info_parts infoA
 obtain ⟨v', w', hrun, hown', hgrow, _⟩ := run_append_own (P := Tryz.prog) w base 56 o.type 42 i0 _ 12 128 Tryz.underlying56 hi hz0 hz2 hz3 rfl (by decide) v xs.length (xs.flatMap AM.cs) hown ⟨b, p, none⟩ ys.length c (ys.flatMap AM.cs) (by rw [flatA_len]) (fun j u hj => by
  obtain ⟨q, i, y, rfl, h1, h2⟩ := flatA_of ys j u hj
  rw [Go.WideShapes.add_plain, ← Nat.add_assoc]
  exact hc q y h1 i u h2) (flatA_one ys) (by unfold maxLen; omega) (by omega) hbase
 have hR := h v' w' ⟨by unfold OwnA; rw [List.length_append, List.flatMap_append]; exact hown', (Below.refl base w).grown hgrow hbase (fun q hq => (World.ownsRow.lt hown q hq).1), hgrow.size, fun B cs t hB ht => hB.grown hgrow (fun e => by
  rcases hown.2 with ⟨rfl, _⟩ | ⟨g, cap, cur, rfl, _, hh, _⟩
  ·simp [Value.ownBlock] at e
  ·have e2 : B = g := by simpa [Value.ownBlock] using e
   subst e2
   have := hB.eq
   rw [hh] at this
   cases this
   exact ht rfl)⟩
 unfold EffAt
 simp [execOp, ho, resolve, invoke, builtin, hs, hx, hrun, Result.andThen, effUpon]
 exact hR
theorem cellsA_set {W : World} {g : Nat} {xs : List AM} (hc : CellsA W g 0 xs) (j : Nat) (hj : j < xs.length) (y : AM) : CellsA (W.setCells g (j * 12) y.cs) g 0 (xs.set j y) := by
 have hx := List.getElem?_eq_getElem hj
 have hsome : ∀ i, i < y.cs.length → (W.cell? ⟨g, j * 12 + i, none⟩).isSome = true := fun i hi => by
  rw [y.cs_len] at hi
  have hu : (xs[j]).cs[i]? = some ((xs[j]).cs[i]'(by rw [AM.cs_len]; exact hi)) := List.getElem?_eq_getElem _
  have := hc j _ hx i _ hu
  rw [Nat.zero_add] at this
  rw [this]; rfl
 intro q x hq i u hu
 have hi : i < 12 := by
  have := (List.getElem?_eq_some_iff.1 hu).1
  rw [AM.cs_len] at this
  exact this
 rw [Nat.zero_add]
 by_cases hqj : q = j
 ·subst hqj
  rw [List.getElem?_set_self hj] at hq
  cases hq
  rw [World.cell?_setCells_in g y.cs (q * 12) W hsome i (by rw [AM.cs_len]; exact hi)]
  rw [List.getElem?_eq_getElem (by rw [AM.cs_len]; exact hi)] at hu
  exact hu
 ·rw [List.getElem?_set_ne (Ne.symm hqj)] at hq
  rw [World.cell?_setCells_out g _ _ _ _ (fun _ _ => by
   rw [AM.cs_len]
   rcases Nat.lt_or_ge q j with h | h
   ·exact Or.inl (by show q * 12 + i < j * 12; omega)
   ·exact Or.inr (by show j * 12 + 12 ≤ q * 12 + i; omega))]
  have := hc q x hq i u hu
  rw [Nat.zero_add] at this
  exact this
def CellsS (W : World) (b p : Nat) (xs : List ByteArray) : Prop := ∀ (j : Nat) (x : ByteArray), xs[j]? = some x → W.cell? ⟨b, p + j, none⟩ = some (.string x)
theorem CellsS.gr {W W' : World} {b p : Nat} {xs : List ByteArray} (h : CellsS W b p xs) (hb : b < W.heap.size) (g : Gr W W') : CellsS W' b p xs := fun j x hj => (g.below.cell (p := ⟨b, p + j, none⟩) hb).trans (h j x hj)
theorem CellsS.take {W : World} {b p : Nat} {xs : List ByteArray} (h : CellsS W b p xs) (n : Nat) : CellsS W b p (xs.take n) := fun j x hj => h j x (by
 rw [List.getElem?_take] at hj
 split at hj
 ·exact hj
 ·cases hj)
theorem CellsS.drop {W : World} {b p : Nat} {xs : List ByteArray} (h : CellsS W b p xs) (n : Nat) : CellsS W b (p + n) (xs.drop n) := fun j x hj => by
 rw [List.getElem?_drop] at hj
 rw [Nat.add_assoc]
 exact h (n + j) x hj
theorem CellsS.row {W : World} {b p : Nat} {xs : List ByteArray} (h : CellsS W b p xs) (hb : b < W.heap.size) : Row Value.string W (some ⟨b, p, none⟩) xs := ⟨fun _ => ⟨b, p, rfl, hb, h⟩⟩
theorem OwnS.cells {base : Nat} {W : World} {v : Value} {xs : List ByteArray} (h : OwnS base W v xs) (hne : xs ≠ []) : ∃ g c, v = .slice (some ⟨g, 0, none⟩) xs.length c ∧ base ≤ g ∧ g < W.heap.size ∧ xs.length ≤ c ∧ CellsS W g 0 xs ∧ ∀ o, W.frozen? ⟨g, o, none⟩ = false := by
 have h0 := h
 rcases h.2 with ⟨_, hn⟩ | ⟨g, cap, cur, rfl, hb, hh, hnc, _⟩
 ·exact absurd (List.eq_nil_of_length_eq_zero hn) hne
 ·refine ⟨g, cap, rfl, hb, (Array.getElem?_eq_some_iff.1 hh).1, hnc, fun j x hj => ?_, fun o => by simp [World.frozen?, hh]⟩
  have h1 := World.ownsRow.cells h0 (g := g) rfl j (Value.string x) (by rw [List.getElem?_map, hj]; rfl)
  rw [Go.WideShapes.add_plain] at h1
  exact h1
structure AppSs (base : Nat) (W : World) (xs ys : List ByteArray) (v' : Value) (W' : World) : Prop where
 own : OwnS base W' v' (xs ++ ys)
 below : Below base W W'
 size : W.heap.size ≤ W'.heap.size
 keep : ∀ B cs t, BlockAt W B cs t → t ≠ 9 → BlockAt W' B cs t
theorem effAt_append_strs {o : Oper} {a : Act} {w : World} {R : Value → World → Prop} (sx x : Operand) (ho : o.op = .call { callee := .builtin .append, args := #[sx, x], argTypes := #[69, 69] })
  (base : Nat) (v : Value) (xs : List ByteArray) (hs : a.eval sx = v) (hown : OwnS base w v xs) (b p : Nat) (ys : List ByteArray) (m c : Nat) (hm : ys.length = m) (hx : a.eval x = .slice (some ⟨b, p, none⟩) m c) (hc : CellsS w b p ys) (hlen : xs.length + ys.length ≤ 1000000) (hbase : base ≤ w.heap.size)
  (h : ∀ v' w', AppSs base w xs ys v' w' → R v' w') : EffAt Tryz.prog o a w R := by
 subst hm
 obtain ⟨i0, hi, hz0, hz1, hz2⟩ := info_parts infoString
 obtain ⟨v', w', hrun, hown', hgrow, _⟩ := run_append_own (P := Tryz.prog) w base 69 o.type 9 i0 (.string ⟨#[]⟩) 1 16 Tryz.underlying69 hi hz0 hz1 hz2 rfl (by decide) v xs.length (xs.map Value.string) hown ⟨b, p, none⟩ ys.length c (ys.map Value.string) (by simp) (fun j u hj => by
  rw [List.getElem?_map] at hj
  cases hy : ys[j]? with
  | none => rw [hy] at hj; cases hj
  | some y => rw [hy] at hj; cases hj; rw [Go.WideShapes.add_plain]; exact hc j y hy) (fun u hu => by
  obtain ⟨y, _, rfl⟩ := List.mem_map.1 hu
  rfl) (by unfold maxLen; omega) (by omega) hbase
 have hR := h v' w' ⟨by unfold OwnS; rw [List.length_append, List.map_append]; exact hown', (Below.refl base w).grown hgrow hbase (fun q hq => (World.ownsRow.lt hown q hq).1), hgrow.size, fun B cs t hB ht => hB.grown hgrow (fun e => by
  rcases hown.2 with ⟨rfl, _⟩ | ⟨g, cap, cur, rfl, _, hh, _⟩
  ·simp [Value.ownBlock] at e
  ·have e2 : B = g := by simpa [Value.ownBlock] using e
   subst e2
   have := hB.eq
   rw [hh] at this
   cases this
   exact ht rfl)⟩
 unfold EffAt
 simp [execOp, ho, resolve, invoke, builtin, hs, hx, hrun, Result.andThen, effUpon]
 exact hR
theorem OwnA.rowR {base : Nat} {W : World} {v : Value} {xs : List AM} (h : OwnA base W v xs) (hx : ∀ x ∈ xs, x.OkR W) : ∃ A c, v = .slice A xs.length c ∧ xs.length ≤ c ∧ RowA W A (xs.map (·.a)) := by
 by_cases hne : xs = []
 ·subst hne
  rcases h.2 with ⟨rfl, _⟩ | ⟨g, cap, cur, rfl, _, _, hnc, _⟩
  ·exact ⟨none, 0, rfl, Nat.le_refl _, RowA.nil⟩
  ·exact ⟨_, cap, rfl, hnc, RowA.nil⟩
 ·obtain ⟨g, c, rfl, _, hg, hc, hcl, _⟩ := h.cells hne
  exact ⟨_, c, rfl, hc, cellsA_row hg hcl hx⟩
def set6 (w : World) (X : Nat) (c0 c1 c2 c3 c4 c5 : Value) : World := (((((w.setCell ⟨X, 0, none⟩ c0).setCell ⟨X, 1, none⟩ c1).setCell ⟨X, 2, none⟩ c2).setCell ⟨X, 3, none⟩ c3).setCell ⟨X, 4, none⟩ c4).setCell ⟨X, 5, none⟩ c5
theorem set6_below {base : Nat} {w : World} {X : Nat} (h : base ≤ X) (c0 c1 c2 c3 c4 c5 : Value) : Below base w (set6 w X c0 c1 c2 c3 c4 c5) :=
 (((((((Below.refl base w).setCell (p := ⟨X, 0, none⟩) h _).setCell (p := ⟨X, 1, none⟩) h _).setCell (p := ⟨X, 2, none⟩) h _).setCell (p := ⟨X, 3, none⟩) h _).setCell (p := ⟨X, 4, none⟩) h _).setCell (p := ⟨X, 5, none⟩) h _)
theorem set6_block {w : World} {X : Nat} {z0 z1 z2 z3 z4 z5 : Value} {T : TypeId} [h : BlockAt w X #[z0, z1, z2, z3, z4, z5] T] (c0 c1 c2 c3 c4 c5 : Value) : BlockAt (set6 w X c0 c1 c2 c3 c4 c5) X #[c0, c1, c2, c3, c4, c5] T := by
 unfold set6
 show BlockAt _ _ #[c0, c1, c2, c3, c4, c5] _
 infer_instance
theorem set6_own {base : Nat} {w : World} {v : Value} {xs : List AM} {X : Nat} {z0 z1 z2 z3 z4 z5 : Value} (h : OwnA base w v xs) (hX : BlockAt w X #[z0, z1, z2, z3, z4, z5] 58) (c0 c1 c2 c3 c4 c5 : Value) : OwnA base (set6 w X c0 c1 c2 c3 c4 c5) v xs := by
 haveI := hX
 unfold set6
 exact ((((((h.set_ X 0 c0 (by decide)).set_ X 1 c1 (by decide)).set_ X 2 c2 (by decide)).set_ X 3 c3 (by decide)).set_ X 4 c4 (by decide)).set_ X 5 c5 (by decide))
theorem effAt_store6 {o : Oper} {a : Act} {w : World} {R : Value → World → Prop} {x y : Operand} {X : Nat} {z0 z1 z2 z3 z4 : Int} {z5 : Value} {a0 a1 a2 a3 a4 : Int} {A : Option Addr} {n q : Nat} (ho : o.op = .store 58 x y) (hx : a.eval x = .pointer (some ⟨X, 0, none⟩)) (hy : a.eval y = .agg #[.int .i64 a0, .int .i64 a1, .int .i64 a2, .int .i64 a3, .int .i64 a4, .slice A n q])
  (hX : BlockAt w X #[.int .i64 z0, .int .i64 z1, .int .i64 z2, .int .i64 z3, .int .i64 z4, z5] 58) (h : R undef (set6 w X (.int .i64 a0) (.int .i64 a1) (.int .i64 a2) (.int .i64 a3) (.int .i64 a4) (.slice A n q))) : EffAt Tryz.prog o a w R := by
 have x0 : w.cell? ⟨X, 0, none⟩ = some (.int .i64 z0) := (@block_cells _ _ 0 _ _ hX).trans rfl
 have x1 : w.cell? ⟨X, 1, none⟩ = some (.int .i64 z1) := (@block_cells _ _ 1 _ _ hX).trans rfl
 have x2 : w.cell? ⟨X, 2, none⟩ = some (.int .i64 z2) := (@block_cells _ _ 2 _ _ hX).trans rfl
 have x3 : w.cell? ⟨X, 3, none⟩ = some (.int .i64 z3) := (@block_cells _ _ 3 _ _ hX).trans rfl
 have x4 : w.cell? ⟨X, 4, none⟩ = some (.int .i64 z4) := (@block_cells _ _ 4 _ _ hX).trans rfl
 have x5 : w.cell? ⟨X, 5, none⟩ = some z5 := (@block_cells _ _ 5 _ _ hX).trans rfl
 have u0 : w.frozen? ⟨X, 0, none⟩ = false := @block_frozen _ _ 0 _ _ hX
 have u1 : w.frozen? ⟨X, 1, none⟩ = false := @block_frozen _ _ 1 _ _ hX
 have u2 : w.frozen? ⟨X, 2, none⟩ = false := @block_frozen _ _ 2 _ _ hX
 have u3 : w.frozen? ⟨X, 3, none⟩ = false := @block_frozen _ _ 3 _ _ hX
 have u4 : w.frozen? ⟨X, 4, none⟩ = false := @block_frozen _ _ 4 _ _ hX
 have u5 : w.frozen? ⟨X, 5, none⟩ = false := @block_frozen _ _ 5 _ _ hX
 unfold set6 at h
 unfold EffAt execOp
 simp only [ho, hx, hy]
 go_simp
 first
  | exact h
  | (simp only [effUpon]; exact h)
section
variable {P : Program} {md : Region.Mode} {W : World} {S : Type} {I : S → World → Prop} {l : List Oper} {Lq : S → Act → Prop} {k : Nat} {ok : Oper} {v : Value}
def fltB (md : Region.Mode) (ops : Array Oper) (k : Nat) : List Nat → Array Bool → Bool
 | [], listed => decide (Region.ready md ops listed = [k]) && seqOne md ops [] (listed.setIfInBounds k true)
 | i :: r, listed => seqOne md ops (i :: r) (listed.setIfInBounds k true) && (decide (Region.ready md ops listed = [k]) || ((decide (Region.ready md ops listed = [i, k]) || decide (Region.ready md ops listed = [k, i])) && apartB ops k i && !(k == i) && fltB md ops k r (listed.setIfInBounds i true)))
def SameAt (P : Program) (I : S → World → Prop) (ok : Oper) (v : Value) (a : Act) : Prop := ∀ s w, I s w → EffAt P ok a w (fun u w' => u = v ∧ w' = w)
theorem flt_take (hk : l.toArray[k]? = some ok) (ss : List Nat) (listed : Array Bool) (s : S) (a : Act) (hl : Region.wanted ok (yielded l.toArray a.tmps) = true) (hs : SameAt P I ok v a) (hB : seqOne md l.toArray ss (listed.setIfInBounds k true) = true)
  (h : wpEfs P l.toArray W I Lq (pick l ss) s (a.put ok.dst v)) : feOp P l.toArray W I k (feAny P md l.toArray W I Lq ss.length (listed.setIfInBounds k true)) s a :=
 .inr ⟨ok, hk, hl, fun w hw => effUpon_mono (fun u w' ⟨e1, e2⟩ => ⟨s, by rw [e2]; exact hw, by rw [e1]; exact feAny_seq ss _ s _ hB h⟩) _ (hs s w hw)⟩
theorem flt_any (hsel : Region.noSelect l.toArray = true) (hk : l.toArray[k]? = some ok) :
  ∀ (ss : List Nat) (listed : Array Bool) (s : S) (a : Act), fltB md l.toArray k ss listed = true → Region.wanted ok (yielded l.toArray a.tmps) = true → SameAt P I ok v a → wpEfs P l.toArray W I Lq (pick l ss) s (a.put ok.dst v) →
   feAny P md l.toArray W I Lq (ss.length + 1) listed s a
 | [], listed, s, a, hB, hl, hs, h => by
  simp only [fltB, Bool.and_eq_true, decide_eq_true_eq] at hB
  exact fe_one k hB.1 (flt_take hk [] listed s a hl hs hB.2 h)
 | i :: r, listed, s, a, hB, hl, hs, h => by
  simp only [fltB, Bool.and_eq_true, decide_eq_true_eq, Bool.or_eq_true] at hB
  obtain ⟨hseq, hB⟩ := hB
  have stepk := flt_take hk (i :: r) listed s a hl hs hseq h
  rcases hB with h1 | ⟨⟨⟨hrd, hap⟩, hne⟩, hB'⟩
  ·exact fe_one k h1 stepk
  have hr' : i ∈ Region.ready md l.toArray listed := by rcases hrd with h | h <;> (rw [h]; simp)
  obtain ⟨_, oi, hi, _⟩ := mem_ready.1 hr'
  have hi' : l[i]? = some oi := by simpa using hi
  rw [pick_cons hi'] at h
  simp only [apartB, hi, hk] at hap
  obtain ⟨p1, p2, p3⟩ := Oper.apart_spec hap
  have hsi := fun cs b => Region.noSelect_spec hsel i oi cs b hi
  have hsk := fun cs b => Region.noSelect_spec hsel k ok cs b hk
  have next : ∀ (s' : S) (u : Value), wpEfs P l.toArray W I Lq (pick l r) s' ((a.put ok.dst v).put oi.dst u) → feAny P md l.toArray W I Lq (r.length + 1) (listed.setIfInBounds i true) s' (a.put oi.dst u) := fun s' u h2 => by
   refine flt_any hsel hk r _ s' _ hB' (by rw [wanted_put ok a oi.dst u p3]; exact hl) (fun s2 w2 hw2 => ?_) (by rw [Act.put_comm a u v (fun d hd he => p2 d he hd)]; exact h2)
   have h3 := hs s2 w2 hw2
   unfold EffAt at *
   rw [execOp_put ok hsk a oi.dst u p3]
   exact h3
  have stepi : feOp P l.toArray W I i (feAny P md l.toArray W I Lq (r.length + 1) (listed.setIfInBounds i true)) s a := by
   rcases h with ⟨u, hu, h2⟩ | ⟨hw, hE⟩
   ·exact .inl ⟨oi, hi, u, hu.unput hsi p1, next s u h2⟩
   ·refine .inr ⟨oi, hi, by rw [wanted_put oi a ok.dst v p1] at hw; exact hw, fun w hI => ?_⟩
    have h3 := hE w hI
    unfold EffAt at *
    rw [execOp_put oi hsi a ok.dst v p1] at h3
    exact effUpon_mono (fun u w' ⟨s', h4, h5⟩ => ⟨s', h4, next s' u h5⟩) _ h3
  rcases hrd with h | h
  ·exact fe_two i k h stepi stepk
  ·exact fe_two k i h stepk stepi
theorem wp_region_flt {id : Nat} {Q : Exit → Act → World → Prop} {a : Act} {w : World} (G : Ghost W I) (s : S) (hw : I s w.drew) (qs ss : List Nat) (k : Nat) (v : Value) (hg : ok.guard = none)
  (hk : l.toArray[k]? = some ok) (hmix : P.follows .mixedOrders = true) (hB : treeB .any l.toArray qs (ss.length + 1) = true) (hF : fltB .any l.toArray k ss (listAll qs (Array.replicate l.toArray.size false)) = true)
  (h : wpCalm P l.toArray W (fun a' => SameAt P I ok v a' ∧ wpEfs P l.toArray W I (fun s a3 => ∀ w', I s w' → Q .normal a3 w') (pick l ss) s (a'.put ok.dst v)) (pick l qs) a) : (Code.region id l.toArray true).wp P Q a w := by
 have hsel : Region.noSelect l.toArray = true := by
  have := hB
  simp only [treeB, Bool.and_eq_true] at this
  exact this.1.1
 refine wp_region_tree G s hw qs (ss.length + 1) hmix hB ?_
 exact wpCalm_mono (fun a' ha => flt_any hsel hk ss _ s a' hF (by simp [Region.wanted, hg]) ha.1 ha.2) _ _ h
theorem effAt_val {o : Oper} {a : Act} {w : World} {R : Value → World → Prop} (u : Value) (h : (execOp a.eval o).run P w = .ok (.value u) w) (hr : R u w) : EffAt P o a w R := by
 unfold EffAt
 rw [h]
 exact hr
end
theorem AM.cs12 (y : AM) : ∃ c0 c1 c2 c3 c4 c5 c6 c7 c8 c9 c10 c11, y.cs = [c0, c1, c2, c3, c4, c5, c6, c7, c8, c9, c10, c11] := ⟨_, _, _, _, _, _, _, _, _, _, _, _, rfl⟩
theorem AM.cs1 (y : AM) : ∀ u ∈ y.cs, u.oneCell' = true := fun u hu => flatA_one [y] u (by simpa using hu)
theorem below_setCells {base g : Nat} (h : base ≤ g) : ∀ (vs : List Value) (o : Nat) (w W : World), Below base w W → Below base w (W.setCells g o vs)
 | [], _, _, _, hb => hb
 | v :: r, o, w, W, hb => below_setCells h r (o + 1) w _ (hb.setCell (p := ⟨g, o, none⟩) h v)
theorem heap_setCells {B g : Nat} (hne : B ≠ g) : ∀ (vs : List Value) (o : Nat) (W : World), (W.setCells g o vs).heap[B]? = W.heap[B]?
 | [], _, _ => rfl
 | v :: r, o, W => (heap_setCells hne r (o + 1) _).trans (by simp [World.setCell, Array.getElem?_modify, Ne.symm hne])
theorem block_setCells {W : World} {B g o : Nat} {vs : List Value} {cs : Array Value} {T : TypeId} (h : BlockAt W B cs T) (hne : B ≠ g) : BlockAt (W.setCells g o vs) B cs T := ⟨(heap_setCells hne vs o W).trans h.eq⟩
def OfT (w : World) (g : Nat) (T : TypeId) : Prop := ∃ cur, w.heap[g]? = some (.cells cur T (0, 0))
theorem OfT.lt {w : World} {g : Nat} {T : TypeId} (h : OfT w g T) : g < w.heap.size := by
 obtain ⟨cur, hh⟩ := h
 exact (Array.getElem?_eq_some_iff.1 hh).1
theorem OfT.gr {w w' : World} {g : Nat} {T : TypeId} (h : OfT w g T) (gr : Gr w w') : OfT w' g T := by
 have hl := h.lt
 obtain ⟨cur, hh⟩ := h
 exact ⟨cur, (gr.below.block g hl).trans hh⟩
theorem OfT.froz {w : World} {g : Nat} {T : TypeId} (h : OfT w g T) (o : Nat) : w.frozen? ⟨g, o, none⟩ = false := by
 obtain ⟨cur, hh⟩ := h
 simp [World.frozen?, hh]
theorem OfT.set {w : World} {g g' o : Nat} {T : TypeId} (h : OfT w g T) (v : Value) : OfT (w.setCell ⟨g', o, none⟩ v) g T := by
 obtain ⟨cur, hh⟩ := h
 by_cases e : g' = g
 ·subst e
  exact ⟨cur.setIfInBounds o v, by simp [World.setCell, Array.getElem?_modify, hh]⟩
 ·exact ⟨cur, by simp [World.setCell, Array.getElem?_modify, e, hh]⟩
theorem OfT.sets {g g' : Nat} {T : TypeId} : ∀ (vs : List Value) (o : Nat) (w : World), OfT w g T → OfT (w.setCells g' o vs) g T
 | [], _, _, h => h
 | v :: r, o, w, h => OfT.sets r (o + 1) _ (h.set v)
theorem OfT.ne {w : World} {g B : Nat} {T U : TypeId} {cs : Array Value} (h : OfT w g T) (hB : BlockAt w B cs U) (hT : U ≠ T) : B ≠ g := by
 rintro rfl
 obtain ⟨cur, hh⟩ := h
 have := hB.eq
 rw [hh] at this
 cases this
 exact hT rfl
theorem OwnA.ofT {base : Nat} {W : World} {g n c : Nat} {xs : List AM} (h : OwnA base W (.slice (some ⟨g, 0, none⟩) n c) xs) : OfT W g 42 := by
 rcases h.2 with ⟨h0, _⟩ | ⟨g', cap, cur, e, _, hh, _⟩
 ·cases h0
 ·cases e
  exact ⟨cur, hh⟩
theorem OwnS.ofT {base : Nat} {W : World} {g n c : Nat} {xs : List ByteArray} (h : OwnS base W (.slice (some ⟨g, 0, none⟩) n c) xs) : OfT W g 9 := by
 rcases h.2 with ⟨h0, _⟩ | ⟨g', cap, cur, e, _, hh, _⟩
 ·cases h0
 ·cases e
  exact ⟨cur, hh⟩
theorem cellsS_set {W : World} {g : Nat} {xs : List ByteArray} (hc : CellsS W g 0 xs) (j : Nat) (hj : j < xs.length) (y : ByteArray) : CellsS (W.setCell ⟨g, j, none⟩ (.string y)) g 0 (xs.set j y) := fun q x hq => by
 rw [Nat.zero_add]
 by_cases hqj : q = j
 ·subst hqj
  rw [List.getElem?_set_self hj] at hq
  cases hq
  have h0 := hc q _ (List.getElem?_eq_getElem hj)
  rw [Nat.zero_add] at h0
  exact World.cell?_setCell_same _ _ _ h0
 ·rw [List.getElem?_set_ne (Ne.symm hqj)] at hq
  have := hc q x hq
  rw [Nat.zero_add] at this
  have e := World.cell?_setCell_other (w := W) (a := ⟨g, j, none⟩) (b := ⟨g, q, none⟩) (v := .string y) (by intro e; cases e; exact hqj rfl)
  rw [e]
  exact this
def InX (W : World) (X : Nat) (cs : Array Value) (T : TypeId) (s : Cls W) (w : World) : Prop := Gr W w ∧ BlockAt w X cs T ∧ s.e w
theorem inX_ghost (W : World) (X : Nat) (cs : Array Value) (T : TypeId) : Ghost W (InX W X cs T) := ⟨fun s w w' h g => ⟨h.1.trans g, h.2.1.gr g, s.grow _ _ h.2.2 g⟩, fun s w h => h.1⟩
def actsAt (W : World) (g : Nat) (ys : List AM) : Cls W := Cls.just W (fun w => OfT w g 42 ∧ CellsA w g 0 ys) (fun _ _ h g => ⟨h.1.gr g, h.2.gr h.1.lt g⟩)
def strsAt (W : World) (g : Nat) (ys : List ByteArray) : Cls W := Cls.just W (fun w => OfT w g 9 ∧ CellsS w g 0 ys) (fun _ _ h g => ⟨h.1.gr g, h.2.gr h.1.lt g⟩)
theorem effAt_putA {W : World} {X g : Nat} {cs : Array Value} {T : TypeId} {ys : List AM} {o : Oper} {a : Act} {w : World} {R : Value → World → Prop} {x z : Operand} (ho : o.op = .store 42 x z) (hT : T ≠ 42) (hW : W.heap.size ≤ g) (hI : InX W X cs T (actsAt W g ys) w) (j : Nat) (y : AM) (hj : j < ys.length)
  (hx : a.eval x = .pointer (some ⟨g, j * 12, none⟩)) (hz : a.eval z = .agg y.cs.toArray) (h : ∀ w', InX W X cs T (actsAt W g (ys.set j y)) w' → R undef w') : EffAt Tryz.prog o a w R := by
 obtain ⟨hg, hb, ho1, hc⟩ := hI
 have ht : w.there g (j * 12) y.cs.toArray.size := fun i hi => by
  refine ⟨?_, ho1.froz _⟩
  have hi' : i < (ys[j]).cs.length := by
   rw [AM.cs_len]
   have : y.cs.toArray.size = 12 := by rw [List.size_toArray, AM.cs_len]
   omega
  have := hc j _ (List.getElem?_eq_getElem hj) i _ (List.getElem?_eq_getElem hi')
  rw [Nat.zero_add] at this
  rw [this]; rfl
 have hrun := run_storeAt_mid (P := Tryz.prog) w g (j * 12) 42 y.cs.toArray ht (by rw [List.size_toArray, AM.cs_len]; kernel_rfl) (all_oneCell_toArray (AM.cs1 y))
 have hR := h (w.setCells g (j * 12) y.cs) ⟨Gr.of (below_setCells hW _ _ _ _ hg.below), block_setCells hb (ho1.ne hb hT), ho1.sets _ _ _, cellsA_set hc j hj y⟩
 unfold EffAt execOp
 simp only [ho, hx, hz, hrun, Sem.run_bind, Result.andThen_ok, Sem.run_pure]
 first
  | exact hR
  | (simp only [effUpon]; exact hR)
theorem effAt_putS {W : World} {X g : Nat} {cs : Array Value} {T : TypeId} {ys : List ByteArray} {o : Oper} {a : Act} {w : World} {R : Value → World → Prop} {x z : Operand} (ho : o.op = .store 9 x z) (hT : T ≠ 9) (hW : W.heap.size ≤ g) (hI : InX W X cs T (strsAt W g ys) w) (j : Nat) (y : ByteArray) (hj : j < ys.length)
  (hx : a.eval x = .pointer (some ⟨g, j, none⟩)) (hz : a.eval z = .string y) (h : ∀ w', InX W X cs T (strsAt W g (ys.set j y)) w' → R undef w') : EffAt Tryz.prog o a w R := by
 obtain ⟨hg, hb, ho1, hc⟩ := hI
 have h0 := hc j _ (List.getElem?_eq_getElem hj)
 rw [Nat.zero_add] at h0
 have h1 := ho1.froz j
 have hR := h (w.setCell ⟨g, j, none⟩ (.string y)) ⟨Gr.of (hg.below.setCell (p := ⟨g, j, none⟩) hW _), block_setCells (o := j) (vs := [.string y]) hb (ho1.ne hb hT), ho1.set _, cellsS_set hc j hj y⟩
 unfold EffAt execOp
 simp only [ho, hx, hz]
 go_simp
 first
  | exact hR
  | (simp only [effUpon]; exact hR)
theorem wp_append_strsP {ops : Array Oper} {rest : List Oper} {o : Oper} {a : Act} {Q : Exit → Act → World → Prop} (hgd : o.guard = none) (s x : Operand)
  (ho : o.op = .call { callee := .builtin .append, args := #[s, x], argTypes := #[69, 69] })
  (base : Nat) {W : World} (v : Value) (xs : List ByteArray) (hs : a.eval s = v) (hown : OwnS base W v xs) (b p : Nat) (ys : List ByteArray) (m c : Nat) (hm : ys.length = m) (hx : a.eval x = .slice (some ⟨b, p, none⟩) m c)
  (hc : CellsS W b p ys) (hlen : xs.length + ys.length ≤ 1000000) (hbase : base ≤ W.heap.size)
  (h : ∀ v' W', AppSs base W xs ys v' W' → wpList Tryz.prog ops Q rest (a.put o.dst v') W') : wpList Tryz.prog ops Q (o :: rest) a W := by
 subst hm
 obtain ⟨i0, hi, hz0, hz1, hz2⟩ := info_parts infoString
 refine wpList_append_own W hgd s x 69 ho base 9 i0 (.string ⟨#[]⟩) 1 16 Tryz.underlying69 hi hz0 hz1 hz2 rfl (by decide) v xs.length (xs.map Value.string) hs hown ⟨b, p, none⟩ ys.length c (ys.map Value.string) hx (by simp) ?_ ?_ ?_ ?_ hbase ?_
 ·intro j u hj
  rw [List.getElem?_map] at hj
  cases hy : ys[j]? with
  | none => rw [hy] at hj; cases hj
  | some y =>
   rw [hy] at hj
   cases hj
   rw [Go.WideShapes.add_plain]
   exact hc j y hy
 ·intro u hu
  simp only [List.mem_map] at hu
  obtain ⟨y, _, rfl⟩ := hu
  rfl
 ·unfold maxLen; omega
 ·omega
 ·intro v' W' hown' hgrow _
  refine h v' W' ⟨by simpa [OwnS] using hown', (Below.refl base W).grown hgrow hbase (fun q hq => (hown.lt q hq).1), hgrow.size, fun B cs t hB ht => hB.grown hgrow (fun e => ?_)⟩
  rcases hown.2 with ⟨rfl, _⟩ | ⟨g, cap, cur, rfl, _, hh, _⟩
  ·simp [Value.ownBlock] at e
  ·have : B = g := by simpa [Value.ownBlock] using e
   subst this
   have := hB.eq
   rw [hh] at this
   cases this
   exact ht rfl
def lines (m0 m1 d0 d1 g : Int) (l : List ActV) : List ByteArray := (linesOf m0 m1 d0 d1 g l).map lineB
theorem lines_cons (m0 m1 d0 d1 g : Int) (l : List ActV) : lines m0 m1 d0 d1 g l = lineB (stageTextL m0 m1 d0 d1 g) :: l.map fun a => lineB a.text := by
 simp [lines, linesOf]
theorem lines_len (m0 m1 d0 d1 g : Int) (l : List ActV) : (lines m0 m1 d0 d1 g l).length = l.length + 1 := by simp [lines_cons]
theorem lines_less (m0 m1 d0 d1 g : Int) (l : List ActV) (i : Nat) : (lines m0 m1 d0 d1 g l).take (i + 1) ++ (lines m0 m1 d0 d1 g l).drop (i + 2) = lines m0 m1 d0 d1 g (l.take i ++ l.drop (i + 1)) := by
 simp [lines_cons, List.map_take, List.map_drop]
theorem lines_swap (m0 m1 d0 d1 g : Int) (l : List ActV) (i k : Nat) (x y : ActV) : ((lines m0 m1 d0 d1 g l).set (i + 1) (lineB y.text)).set (k + 1) (lineB x.text) = lines m0 m1 d0 d1 g ((l.set i y).set k x) := by
 simp [lines_cons, List.map_set]
theorem lines_at (m0 m1 d0 d1 g : Int) (l : List ActV) (i : Nat) (x : ActV) (h : l[i]? = some x) : (lines m0 m1 d0 d1 g l)[i + 1]? = some (lineB x.text) := by
 simp [lines_cons, h]
theorem lines_tail (m0 m1 d0 d1 g : Int) (l : List ActV) : (lines m0 m1 d0 d1 g l).drop 1 = l.map fun a => lineB a.text := by simp [lines_cons]
def glueB (L : List ByteArray) : ByteArray := ⟨(glueL (L.map (·.data.toList))).toArray⟩
theorem glueB_lines (m0 m1 d0 d1 g : Int) (l : List ActV) : glueB (lines m0 m1 d0 d1 g l) = ⟨(scTextL m0 m1 d0 d1 g l).toArray⟩ := by
 have e : (lines m0 m1 d0 d1 g l).map (·.data.toList) = linesOf m0 m1 d0 d1 g l := by
  rw [lines, List.map_map]
  conv => rhs; rw [← List.map_id (linesOf m0 m1 d0 d1 g l)]
  exact List.map_congr_left fun x _ => by simp [lineB]
 rw [glueB, e]; rfl
theorem glueB_back (m0 m1 d0 d1 g : Int) (l : List ActV) (hs : mayStB m0 m1 d0 d1 g = true) (hl : ∀ a ∈ l, a.may = true) (hn : l.length ≤ 5000) : BackS (glueB (lines m0 m1 d0 d1 g l)) m0 m1 d0 d1 g l :=
 script_back _ _ _ _ _ _ _ hs hl hn (by rw [glueB_lines])
theorem glueB_small (m0 m1 d0 d1 g : Int) (l : List ActV) (hs : mayStB m0 m1 d0 d1 g = true) (hl : ∀ a ∈ l, a.may = true) (hb : ∀ a ∈ l, ABd a) (hn : l.length ≤ 30) : (glueB (lines m0 m1 d0 d1 g l)).size ≤ 200000 := by
 rw [glueB_lines]
 have := script_small m0 m1 d0 d1 g l hs hl hb hn
 show (scTextL m0 m1 d0 d1 g l).length ≤ 200000
 omega
theorem stage_head (m0 m1 d0 d1 g : Int) : (stageTextL m0 m1 d0 d1 g).head? = some 115 := by
 simp only [stageTextL, stageWords, List.map_cons, List.map_nil, join_two]
 rfl
theorem act_head (a : ActV) : a.text.head? ≠ some 115 := by
 unfold ActV.text actTextL actPieces
 repeat' split
 all_goals
  simp only [List.map_cons, List.map_nil, join_two, join_one]
  first
   | (intro h; cases h; done)
   | (simp [Lib.join]; done)
   | (intro h; simp at h; done)
theorem act_noStage (a : ActV) : goodSt (lineB a.text) = false := by
 rcases Bool.eq_false_or_eq_true (goodSt (lineB a.text)) with h | h
 ·exfalso
  simp only [goodSt, Bool.and_eq_true, beq_iff_eq] at h
  have h2 := congrArg List.head? h.2
  rw [stage_head] at h2
  exact act_head a (by simpa [lineB] using h2.symm)
 ·exact h
theorem tail_bad (l : List ActV) (hne : l ≠ []) : pAt (glueB (l.map fun a => lineB a.text)) = 0 ∧ pE (glueB (l.map fun a => lineB a.text)) = 4 := by
 have e0 : (l.map fun a => lineB a.text).map (·.data.toList) = l.map ActV.text := by
  rw [List.map_map]
  exact List.map_congr_left fun x _ => by simp [lineB]
 obtain ⟨e1, e2⟩ := glue_lines (l.map ActV.text) (fun x hx => by
  obtain ⟨a, _, rfl⟩ := List.mem_map.1 hx
  exact actText_no10 a) (glueB (l.map fun a => lineB a.text)) (by rw [glueB, e0])
 cases l with
 | nil => exact absurd rfl hne
 | cons a l =>
  have hb : badAt 0 (linesB (glueB ((a :: l).map fun a => lineB a.text))) = 0 := by
   rw [e1, List.map_cons, List.map_cons, badAt, if_neg]
   rw [goodL, if_pos rfl, act_noStage]; simp
  have hg : pGood (glueB ((a :: l).map fun a => lineB a.text)) = false := by
   rw [pGood, hb, e1]; simp
  exact ⟨by rw [pAt, if_neg (by rw [hg]; simp), hb], by rw [pE, if_neg (by rw [hg]; simp)]⟩
theorem tail_small (m0 m1 d0 d1 g : Int) (l : List ActV) (hs : mayStB m0 m1 d0 d1 g = true) (hl : ∀ a ∈ l, a.may = true) (hb : ∀ a ∈ l, ABd a) (hn : l.length ≤ 30) : (glueB (l.map fun a => lineB a.text)).size ≤ 200000 := by
 have h1 := glueB_small m0 m1 d0 d1 g l hs hl hb hn
 have e : (glueB (lines m0 m1 d0 d1 g l)).size = (stageTextL m0 m1 d0 d1 g).length + 1 + (glueB (l.map fun a => lineB a.text)).size := by
  rw [lines_cons]
  show (glueL _).length = _ + (glueL _).length
  simp only [List.map_cons, glueL, List.length_append, List.length_cons]
  simp [lineB]; omega
 omega
theorem glueB_snoc (p : List ByteArray) (x : ByteArray) : glueB (p ++ [x]) = glueB p ++ x ++ ⟨#[10]⟩ := by
 have h : (glueB (p ++ [x])).data.toList = (glueB p ++ x ++ (⟨#[10]⟩ : ByteArray)).data.toList := by
  simp [glueB, glueL_snoc]
 cases h1 : glueB (p ++ [x])
 cases h2 : glueB p ++ x ++ (⟨#[10]⟩ : ByteArray)
 rw [h1, h2] at h
 simp_all
theorem glueB_take (L : List ByteArray) (j : Nat) : (glueB (L.take j)).size ≤ (glueB L).size := by
 have := glue_take_le (L.map (·.data.toList)) j
 rw [← List.map_take] at this
 exact this
set_option maxRecDepth 100000 in
set_option maxHeartbeats 4000000 in
theorem glue_any (A : Option Addr) (n c : Nat) (L : List ByteArray) (w : World) (hL : L.length = n) (hn : n ≤ 9223372036854775807) (h : Row Value.string w A L) (hsz : (glueB L).size ≤ 1000000) :
  Calls Tryz.prog 32 #[.slice A n c] w fun e w' => e = .returned (.string (glueB L)) ∧ Gr w w' := by
 have HL := Lib.hid hL; have H := Lib.hid h; have HSZ := Lib.hid hsz; clear hL h hsz
 go_enter Tryz.func32, Tryz.ntmps32
 go_wp2
 go_loopw [3, 4] (fun sv iv wr => ∃ j : Nat, sv = .string (glueB (L.take j)) ∧ iv = .int .i64 j ∧ j ≤ n ∧ Gr w wr) (fun _ iv _ => n - (intOf iv).toNat)
 case atStart => exact ⟨0, rfl, rfl, Nat.zero_le _, gri⟩
 case round =>
  obtain ⟨j, rfl, rfl, hj, gj, rfl⟩ := hrel
  have h1 := glueB_take L j
  by_cases hlt : j < n
  ·have hjl : j < L.length := by have := HL.out; omega
   obtain ⟨x, hx⟩ : ∃ x, L[j]? = some x := ⟨L[j], List.getElem?_eq_getElem hjl⟩
   obtain ⟨b, o, rfl, hb, hc⟩ := (H.out.gr (Gr.of (grown_below w gj))).at_ (by rintro rfl; simp at hjl)
   have xj := hc j x hx
   have htk : L.take (j + 1) = L.take j ++ [x] := by rw [List.take_add_one, hx]; rfl
   have h2 := glueB_take L (j + 1)
   have hgs := glueB_snoc (L.take j) x
   rw [← htk] at hgs
   rw [hgs] at h2
   obtain ⟨S0, hS0⟩ : ∃ S0, glueB (L.take j) = S0 := ⟨_, rfl⟩
   rw [hS0] at h1 h2 hgs ⊢
   have hz := HSZ.out
   rw [ByteArray.size_append, ByteArray.size_append] at h2
   have h3 : S0.size ≤ 1000000 := by omega
   have h4 : x.size ≤ 1000000 := by omega
   have h5 : (S0 ++ x).size ≤ 1000000 := by rw [ByteArray.size_append]; omega
   have hji : (j : Int) < (n : Int) := by omega
   have HGS := Lib.hid hgs
   clear hc hx htk hgs h1 h2 hz hS0 hjl
   go_wp2
   go_roundw
   case rel => exact ⟨j + 1, by rw [HGS.out], by go_num, by omega, gri⟩
   case measure => simp [intOf]; omega
  ·have hji : ¬ (j : Int) < (n : Int) := by omega
   have hall : L.take j = L := List.take_of_length_le (by have := HL.out; omega)
   rw [hall]
   clear h1
   go_wp2
   go_ret
   exact ⟨rfl, gri⟩
end Go.Proofs.YtgjdgafoidppaaaGreatDoor
