/- A region that draws its order: operations one behind the other (or calm ones, anywhere), among which one 'var x T' floats; a store into it comes .. -/
import Derived.Test.YtddckdhnolmjoaaGreatW03
import Derived.Test.YtddckdhnolmjoaaGreatW14
import Derived.Test.YtddckdhnolmjoaaGreatW08
import Derived.Deep.WholeRow
set_option linter.unusedVariables false
set_option linter.unusedSimpArgs false
set_option linter.unnecessarySimpa false
set_option maxRecDepth 100000
set_option maxHeartbeats 8000000
namespace Go.Proofs.YtddckdhnolmjoaaGreat
open Go.RowKit
def KeptT (T : TypeId) (w w' : World) : Prop := ∀ B cs, BlockAt w B cs T → BlockAt w' B cs T
theorem KeptT.refl (T : TypeId) (w : World) : KeptT T w w := fun _ _ h => h
theorem KeptT.gr {T : TypeId} {w w' : World} (g : Gr w w') : KeptT T w w' := fun _ _ h => h.gr g
theorem KeptT.trans {T : TypeId} {a b c : World} (h : KeptT T a b) (k : KeptT T b c) : KeptT T a c := fun B cs hb => k B cs (h B cs hb)
section
variable {P : Program} {md : Region.Mode} {W : World} {S : Type} {I : S → World → Prop} {l : List Oper} {T : TypeId} {zc : Array Value}
def wpFlo (P : Program) (ops : Array Oper) (W : World) (I : S → World → Prop) (T : TypeId) (Q : S → Act → Prop) : List (Oper × Bool) → S → Act → Prop
 | [], s, a => Q s a
 | (o, true) :: r, s, a => ∃ v, CalmOp P ops W o v a ∧ wpFlo P ops W I T Q r s (a.put o.dst v)
 | (o, false) :: r, s, a => Region.wanted o (yielded ops a.tmps) = true ∧ ∀ w, I s w → EffAt P o a w (fun v w' => KeptT T w w' ∧ ∃ s', I s' w' ∧ wpFlo P ops W I T Q r s' (a.put o.dst v))
def pickF (l : List Oper) : List (Nat × Bool) → List (Oper × Bool)
 | [] => []
 | (k, b) :: r => match l[k]? with
  | some o => (o, b) :: pickF l r
  | none => []
theorem pickF_cons {k : Nat} {b : Bool} {r : List (Nat × Bool)} {o : Oper} (h : l[k]? = some o) : pickF l ((k, b) :: r) = (o, b) :: pickF l r := by
 simp [pickF, h]
def apartB (ops : Array Oper) (i k : Nat) : Bool := match ops[i]?, ops[k]? with
 | some oi, some ok => oi.apart ops ok
 | _, _ => false
def floB (md : Region.Mode) (ops : Array Oper) (k m : Nat) (ts : List Nat) : List (Nat × Bool) → Array Bool → Bool
 | [], listed => decide (Region.ready md ops listed = [k]) && decide (Region.ready md ops (listed.setIfInBounds k true) = [m]) && (freeAll md ops ts ((listed.setIfInBounds k true).setIfInBounds m true) && decide (Region.ready md ops (listAll ts ((listed.setIfInBounds k true).setIfInBounds m true)) = [])) && !(k == m)
 | (i, true) :: r, listed => (Region.ready md ops listed).contains i && Region.free md ops listed i && (Region.ready md ops (listed.setIfInBounds k true)).contains i && Region.free md ops (listed.setIfInBounds k true) i && apartB ops i k && !(k == i) && floB md ops k m ts r (listed.setIfInBounds i true)
 | (i, false) :: r, listed => (decide (Region.ready md ops listed = [i, k]) || decide (Region.ready md ops listed = [k, i])) && decide (Region.ready md ops (listed.setIfInBounds k true) = [i]) && apartB ops i k && !(k == i) && floB md ops k m ts r (listed.setIfInBounds i true)
def InFlo (W : World) (I : S → World → Prop) (T : TypeId) (zc : Array Value) (sx : S × Option Nat) (w : World) : Prop := I sx.1 w ∧ ∀ X, sx.2 = some X → BlockAt w X zc T ∧ W.heap.size ≤ X
theorem inFlo_ghost (G : Ghost W I) : Ghost W (InFlo W I T zc) := ⟨fun s w w' h g => ⟨G.grow _ _ _ h.1 g, fun X hX => ⟨(h.2 X hX).1.gr g, (h.2 X hX).2⟩⟩, fun s w h => G.out _ _ h.1⟩
def ptrAt (X : Nat) : Value := .pointer (some ⟨X, 0, none⟩)
def FloEnd (P : Program) (W : World) (I : S → World → Prop) (T : TypeId) (zc : Array Value) (ok om : Oper) (ops : Array Oper) (tl : List Oper) (E : Act → World → Prop) (s : S) (a : Act) : Prop :=
 ∀ X, Region.wanted om (yielded ops (a.put ok.dst (ptrAt X)).tmps) = true ∧ ∀ w, I s w → BlockAt w X zc T → W.heap.size ≤ X → EffAt P om (a.put ok.dst (ptrAt X)) w (fun v w' => ∃ s', I s' w' ∧ wpCalm P ops W (fun a' => ∀ w'', I s' w'' → E a' w'') tl ((a.put ok.dst (ptrAt X)).put om.dst v))
variable {k m : Nat} {ts : List Nat} {ok om : Oper} {E : Act → World → Prop}
theorem wpCalm_mono {ops : Array Oper} {Q Q' : Act → Prop} (hq : ∀ a, Q a → Q' a) : ∀ (r : List Oper) (a : Act), wpCalm P ops W Q r a → wpCalm P ops W Q' r a
 | [], a, h => hq a h
 | o :: r, a, h => by
  unfold wpCalm at h ⊢
  split at h
  ·rename_i hw
   simp only [hw, if_true]
   obtain ⟨v, hv, hk⟩ := h
   exact ⟨v, hv, wpCalm_mono hq r _ hk⟩
  ·rename_i hw
   simp only [hw]
   exact wpCalm_mono hq r _ h
theorem flo_done (G : Ghost W I) (hsel : Region.noSelect l.toArray = true) (hk : l.toArray[k]? = some ok) (hm : l.toArray[m]? = some om) :
  ∀ (ss : List (Nat × Bool)) (listed : Array Bool) (s : S) (a : Act) (X : Nat), floB md l.toArray k m ts ss listed = true → wpFlo P l.toArray W I T (FloEnd P W I T zc ok om l.toArray (pick l ts) E) (pickF l ss) s a →
   feAny P md l.toArray W (InFlo W I T zc) (fun sx a' => ∀ w', InFlo W I T zc sx w' → E a' w') (ts.length + 1 + ss.length) (listed.setIfInBounds k true) (s, some X) (a.put ok.dst (ptrAt X))
 | [], listed, s, a, X, hB, h => by
  simp only [floB, Bool.and_eq_true, decide_eq_true_eq] at hB
  obtain ⟨⟨⟨_, h2⟩, h0, h3⟩, _⟩ := hB
  obtain ⟨hw, hE⟩ := h X
  refine fe_one m h2 (.inr ⟨om, hm, hw, fun w hI => ?_⟩)
  refine effUpon_mono (fun v w' ⟨s', hs', hf⟩ => ⟨(s', none), ⟨hs', fun X hX => by cases hX⟩, ?_⟩) _ (hE w hI.1 (hI.2 X rfl).1 (hI.2 X rfl).2)
  have := feAny_lexT (md := md) (P := P) (W := W) (I := InFlo W I T zc) (Lq := fun sx a' => ∀ w', InFlo W I T zc sx w' → E a' w') hsel 0 ts _ (s', none) _ h0 (wpCalm_mono (fun a' ha => ⟨h3, fun w'' hw'' => ha w'' hw''.1⟩) _ _ hf)
  exact this
 | (i, true) :: r, listed, s, a, X, hB, h => by
  simp only [floB, Bool.and_eq_true] at hB
  obtain ⟨⟨⟨⟨⟨⟨_, _⟩, hr⟩, hf⟩, hap⟩, hne⟩, hB'⟩ := hB
  have hr' : i ∈ Region.ready md l.toArray (listed.setIfInBounds k true) := by simpa using hr
  obtain ⟨_, oi, hi, _⟩ := mem_ready.1 hr'
  have hi' : l[i]? = some oi := by simpa using hi
  rw [pickF_cons hi'] at h
  obtain ⟨v, hv, hr2⟩ := h
  simp only [apartB, hi, hk] at hap
  obtain ⟨p1, p2, p3⟩ := Oper.apart_spec hap
  have hki : ¬ k = i := by simpa using hne
  have IH := flo_done G hsel hk hm r (listed.setIfInBounds i true) s (a.put oi.dst v) X hB' hr2
  refine feAny_first hi (Region.noSelect_spec hsel) _ _ _ _ (Region.free_spec hi hf) hr' (hv.put (fun cs b => Region.noSelect_spec hsel i oi cs b hi) p3) ?_
  rw [Array.setIfInBounds_comm _ _ hki, Act.put_comm a (ptrAt X) v (fun d hd he => p2 d he hd)]
  exact IH
 | (i, false) :: r, listed, s, a, X, hB, h => by
  simp only [floB, Bool.and_eq_true, decide_eq_true_eq] at hB
  obtain ⟨⟨⟨⟨_, hr⟩, hap⟩, hne⟩, hB'⟩ := hB
  have hr' : i ∈ Region.ready md l.toArray (listed.setIfInBounds k true) := by rw [hr]; simp
  obtain ⟨_, oi, hi, _⟩ := mem_ready.1 hr'
  have hi' : l[i]? = some oi := by simpa using hi
  rw [pickF_cons hi'] at h
  obtain ⟨hw, hE⟩ := h
  simp only [apartB, hi, hk] at hap
  obtain ⟨p1, p2, p3⟩ := Oper.apart_spec hap
  have hki : ¬ k = i := by simpa using hne
  have hse := fun cs b => Region.noSelect_spec hsel i oi cs b hi
  refine fe_one i hr (.inr ⟨oi, hi, by rw [wanted_put oi a ok.dst (ptrAt X) p3]; exact hw, fun w hI => ?_⟩)
  have h3 := hE w hI.1
  unfold EffAt at *
  rw [execOp_put oi hse a ok.dst (ptrAt X) p3]
  refine effUpon_mono (fun v w' ⟨hkp, s', hs', hf⟩ => ⟨(s', some X), ⟨hs', fun Y hY => ⟨hkp _ _ (hI.2 Y hY).1, (hI.2 Y hY).2⟩⟩, ?_⟩) _ h3
  have IH := flo_done G hsel hk hm r (listed.setIfInBounds i true) s' (a.put oi.dst v) X hB' hf
  rw [Array.setIfInBounds_comm _ _ hki, Act.put_comm a (ptrAt X) v (fun d hd he => p2 d he hd)]
  exact IH
theorem flo_alloc {z : Value} (ho : ok.op = .alloc T) (hg : ok.guard = none) (hz : ∀ w, (zeroValue T).run P w = .ok z w) (G : Ghost W I) {K : S × Option Nat → Act → Prop} {ops : Array Oper} (hk : ops[k]? = some ok) {s : S} {a : Act}
  (h : ∀ X, K (s, some X) (a.put ok.dst (ptrAt X))) : feOp P ops W (InFlo W I T z.cells) k K (s, none) a := by
 refine .inr ⟨ok, hk, by simp [Region.wanted, hg], fun w hI => ?_⟩
 refine effAt_alloc ho hz ⟨(s, some w.heap.size), ⟨G.grow _ _ _ hI.1 (Gr.of (below_alloc (Below.refl _ _) _)), fun X hX => ?_⟩, h _⟩
 obtain rfl := Option.some.inj hX
 exact ⟨inferInstance, (G.out _ _ hI.1).below.size⟩
theorem flo_any {z : Value} (ho : ok.op = .alloc T) (hg : ok.guard = none) (hz : ∀ w, (zeroValue T).run P w = .ok z w) (G : Ghost W I) (hsel : Region.noSelect l.toArray = true) (hk : l.toArray[k]? = some ok) (hm : l.toArray[m]? = some om) :
  ∀ (ss : List (Nat × Bool)) (listed : Array Bool) (s : S) (a : Act), floB md l.toArray k m ts ss listed = true → wpFlo P l.toArray W I T (FloEnd P W I T z.cells ok om l.toArray (pick l ts) E) (pickF l ss) s a →
   feAny P md l.toArray W (InFlo W I T z.cells) (fun sx a' => ∀ w', InFlo W I T z.cells sx w' → E a' w') (ts.length + 2 + ss.length) listed (s, none) a
 | [], listed, s, a, hB, h => by
  have hB0 := hB
  simp only [floB, Bool.and_eq_true, decide_eq_true_eq] at hB
  obtain ⟨⟨⟨h1, _⟩, _⟩, _⟩ := hB
  exact fe_one k h1 (flo_alloc ho hg hz G hk fun X => flo_done G hsel hk hm [] listed s a X hB0 h)
 | (i, true) :: r, listed, s, a, hB, h => by
  simp only [floB, Bool.and_eq_true] at hB
  obtain ⟨⟨⟨⟨⟨⟨hr, hf⟩, _⟩, _⟩, hap⟩, hne⟩, hB'⟩ := hB
  have hr' : i ∈ Region.ready md l.toArray listed := by simpa using hr
  obtain ⟨_, oi, hi, _⟩ := mem_ready.1 hr'
  have hi' : l[i]? = some oi := by simpa using hi
  rw [pickF_cons hi'] at h
  obtain ⟨v, hv, hr2⟩ := h
  exact feAny_first hi (Region.noSelect_spec hsel) _ _ _ _ (Region.free_spec hi hf) hr' hv (flo_any ho hg hz G hsel hk hm r _ s _ hB' hr2)
 | (i, false) :: r, listed, s, a, hB, h => by
  have hB0 := hB
  have h0 := h
  simp only [floB, Bool.and_eq_true, decide_eq_true_eq, Bool.or_eq_true] at hB
  obtain ⟨⟨⟨⟨hrd, _⟩, hap⟩, hne⟩, hB'⟩ := hB
  have hr' : i ∈ Region.ready md l.toArray listed := by rcases hrd with h | h <;> (rw [h]; simp)
  obtain ⟨_, oi, hi, _⟩ := mem_ready.1 hr'
  have hi' : l[i]? = some oi := by simpa using hi
  rw [pickF_cons hi'] at h
  obtain ⟨hw, hE⟩ := h
  have step1 : feOp P l.toArray W (InFlo W I T z.cells) i (feAny P md l.toArray W (InFlo W I T z.cells) (fun sx a' => ∀ w', InFlo W I T z.cells sx w' → E a' w') (ts.length + 2 + r.length) (listed.setIfInBounds i true)) (s, none) a := by
   refine .inr ⟨oi, hi, hw, fun w hI => ?_⟩
   have h3 := hE w hI.1
   unfold EffAt at *
   refine effUpon_mono (fun v w' ⟨_, s', hs', hf⟩ => ⟨(s', none), ⟨hs', fun Y hY => by cases hY⟩, flo_any ho hg hz G hsel hk hm r _ s' _ hB' hf⟩) _ h3
  have step2 : feOp P l.toArray W (InFlo W I T z.cells) k (feAny P md l.toArray W (InFlo W I T z.cells) (fun sx a' => ∀ w', InFlo W I T z.cells sx w' → E a' w') (ts.length + 2 + r.length) (listed.setIfInBounds k true)) (s, none) a :=
   flo_alloc ho hg hz G hk fun X => by
    have h9 := flo_done G hsel hk hm ((i, false) :: r) listed s a X hB0 h0
    rw [show ts.length + 1 + ((i, false) :: r).length = ts.length + 2 + r.length by (simp only [List.length_cons]; omega)] at h9
    exact h9
  rcases hrd with h | h
  ·exact fe_two i k h step1 step2
  ·exact fe_two k i h step2 step1
theorem wp_region_flo {id : Nat} {Q : Exit → Act → World → Prop} {a : Act} {w : World} {z : Value} (G : Ghost W I) (s : S) (hw : I s w.drew) (qs : List Nat) (ss : List (Nat × Bool)) (k m : Nat) (ts : List Nat) (ho : ok.op = .alloc T) (hg : ok.guard = none) (hz : ∀ w, (zeroValue T).run P w = .ok z w)
  (hk : l.toArray[k]? = some ok) (hm : l.toArray[m]? = some om) (hmix : P.follows .mixedOrders = true) (hB : treeB .any l.toArray qs (ts.length + 2 + ss.length) = true) (hF : floB .any l.toArray k m ts ss (listAll qs (Array.replicate l.toArray.size false)) = true)
  (h : wpCalm P l.toArray W (fun a' => wpFlo P l.toArray W I T (FloEnd P W I T z.cells ok om l.toArray (pick l ts) (fun a3 w3 => Q .normal a3 w3)) (pickF l ss) s a') (pick l qs) a) : (Code.region id l.toArray true).wp P Q a w := by
 have hsel : Region.noSelect l.toArray = true := by
  have := hB
  simp only [treeB, Bool.and_eq_true] at this
  exact this.1.1
 refine wp_region_tree (I := InFlo W I T z.cells) (inFlo_ghost G) (s, none) ⟨hw, fun X hX => by cases hX⟩ qs (ts.length + 2 + ss.length) hmix hB ?_
 exact wpCalm_mono (fun a' ha => flo_any ho hg hz G hsel hk hm ss _ s a' hF ha) _ _ h
theorem flo_calm {ops : Array Oper} {Q : S → Act → Prop} {s : S} {a : Act} {o : Oper} {r : List (Oper × Bool)} (v : Value) (hg : o.guard = none) (hc : ∀ g : Growth W, calmAt P o a (grown W g) v) (h : wpFlo P ops W I T Q r s (a.put o.dst v)) : wpFlo P ops W I T Q ((o, true) :: r) s a :=
 ⟨v, .inl ⟨by simp [Region.wanted, hg], hc⟩, h⟩
theorem flo_eff {ops : Array Oper} {Q : S → Act → Prop} {s : S} {a : Act} {o : Oper} {r : List (Oper × Bool)} (hg : o.guard = none) (h : ∀ w, I s w → EffAt P o a w (fun v w' => KeptT T w w' ∧ ∃ s', I s' w' ∧ wpFlo P ops W I T Q r s' (a.put o.dst v))) : wpFlo P ops W I T Q ((o, false) :: r) s a :=
 ⟨by simp [Region.wanted, hg], h⟩
theorem flo_end {ops : Array Oper} {tl : List Oper} {ok om : Oper} {s : S} {a : Act} (hg : om.guard = none) (h : ∀ X w, I s w → BlockAt w X zc T → W.heap.size ≤ X → EffAt P om (a.put ok.dst (ptrAt X)) w (fun v w' => ∃ s', I s' w' ∧ wpCalm P ops W (fun a' => ∀ w'', I s' w'' → E a' w'') tl ((a.put ok.dst (ptrAt X)).put om.dst v))) : wpFlo P ops W I T (FloEnd P W I T zc ok om ops tl E) [] s a :=
 fun X => ⟨by simp [Region.wanted, hg], fun w hw hX hl => h X w hw hX hl⟩
end
def Cls.and {W : World} (s : Cls W) (e : World → Prop) (hg : ∀ w w', e w → Gr w w' → e w') : Cls W := ⟨fun w => e w ∧ s.e w, fun w w' h g => ⟨hg _ _ h.1 g, s.grow _ _ h.2 g⟩⟩
def Cls.just (W : World) (e : World → Prop) (hg : ∀ w w', e w → Gr w w' → e w') : Cls W := ⟨e, hg⟩
structure StJ where
 j : World → Prop
 e : World → Prop
section
variable {P : Program} {ops : Array Oper} {md : Region.Mode}
def SameJ (P : Program) (ops : Array Oper) (s : StJ) (o : Oper) (v : Value) (a : Act) : Prop :=
 (Region.wanted o (yielded ops a.tmps) = true ∧ ∀ w, s.j w → EffAt P o a w (fun u w' => u = v ∧ w' = w)) ∨ (Region.wanted o (yielded ops a.tmps) = false ∧ v = undef)
def efJ (P : Program) (ops : Array Oper) (i : Nat) (K : StJ → Act → Prop) (s : StJ) (a : Act) : Prop :=
 ∃ o, ops[i]? = some o ∧ Region.wanted o (yielded ops a.tmps) = true ∧ ∀ w, s.j w → s.e w → EffAt P o a w (fun v w' => ∃ s' : StJ, (s'.j w' ∧ s'.e w') ∧ (∀ x, s'.j x → s.j x) ∧ K s' (a.put o.dst v))
def jOp (P : Program) (ops : Array Oper) (i : Nat) (K : StJ → Act → Prop) (s : StJ) (a : Act) : Prop := (∃ o, ops[i]? = some o ∧ ∃ v, SameJ P ops s o v a ∧ K s (a.put o.dst v)) ∨ efJ P ops i K s a
theorem jOp_mono {i : Nat} {K K' : StJ → Act → Prop} {s : StJ} {a : Act} (h : ∀ s' a, (∀ x, s'.j x → s.j x) → K s' a → K' s' a) (hh : jOp P ops i K s a) : jOp P ops i K' s a :=
 hh.imp (fun ⟨o, ho, v, hv, hk⟩ => ⟨o, ho, v, hv, h _ _ (fun _ h => h) hk⟩) (fun ⟨o, ho, hg, hs⟩ => ⟨o, ho, hg, fun w h1 h2 => effUpon_mono (fun v w' ⟨s', h1, h2, h3⟩ => ⟨s', h1, h2, h _ _ h2 h3⟩) _ (hs w h1 h2)⟩)
def jAny (P : Program) (md : Region.Mode) (ops : Array Oper) (L : StJ → Act → Prop) : Nat → Array Bool → StJ → Act → Prop
 | 0, listed, s, a => Region.ready md ops listed = [] ∧ L s a
 | f + 1, listed, s, a => (Region.ready md ops listed = [] → L s a) ∧ ∀ i ∈ Region.ready md ops listed, jOp P ops i (jAny P md ops L f (listed.setIfInBounds i true)) s a
theorem jAny_any {L : StJ → Act → Prop} {Q' : Exit → Act → World → Prop} (hL : ∀ (s : StJ) a w, s.j w → s.e w → L s a → Q' .normal a w) :
  ∀ (f : Nat) (listed : Array Bool) (s : StJ) (a : Act) (w : World), s.j w → s.e w → jAny P md ops L f listed s a → wpAny P md ops Q' f listed a w
 | 0, listed, s, a, w, hj, he, h => ⟨h.1, hL _ _ _ hj he h.2⟩
 | f + 1, listed, s, a, w, hj, he, h => by
  refine ⟨fun h0 => hL _ _ _ hj he (h.1 h0), fun i hi => ?_⟩
  unfold wpOp
  rcases h.2 i hi with ⟨o, ho, v, hv, hk⟩ | ⟨o, ho, hg, hs⟩
  ·simp only [ho]
   rcases hv with ⟨hw1, hc⟩ | ⟨hw1, rfl⟩
   ·simp only [hw1, if_true]
    refine .inl ?_
    have h3 := hc w hj
    unfold EffAt at h3
    unfold Oper.wp
    generalize (execOp a.eval o).run P w = r at *
    cases r with
    | ok nx w' =>
     cases nx <;> simp only [effUpon] at h3 <;> simp only [Oper.upon]
     case value u => obtain ⟨e1, e2⟩ := h3; rw [e1, e2]; exact jAny_any hL f _ _ _ _ hj he hk
     case skip => obtain ⟨e1, e2⟩ := h3; rw [e1, e2]; exact jAny_any hL f _ _ _ _ hj he hk
     case enter f' args => exact h3.mono fun e w'' ⟨v', he', e1, e2⟩ => by subst he'; rw [e1, e2]; exact jAny_any hL f _ _ _ _ hj he hk
    | halt x w' => simp only [effUpon] at h3
   ·simp only [hw1, Bool.false_eq_true, if_false]; exact jAny_any hL f _ _ _ _ hj he hk
  ·simp only [ho, hg, if_true]
   refine .inl ?_
   have h3 := hs w hj he
   unfold EffAt at h3
   unfold Oper.wp
   generalize (execOp a.eval o).run P w = r at *
   cases r with
   | ok nx w' =>
    cases nx <;> simp only [effUpon] at h3 <;> simp only [Oper.upon]
    case value u => obtain ⟨s', ⟨hj', he'⟩, _, hk⟩ := h3; exact jAny_any hL f _ _ _ _ hj' he' hk
    case skip => obtain ⟨s', ⟨hj', he'⟩, _, hk⟩ := h3; exact jAny_any hL f _ _ _ _ hj' he' hk
    case enter f' args => exact h3.mono fun e w'' ⟨v, he, s', ⟨hj', he'⟩, _, hk⟩ => by subst he; exact jAny_any hL f _ _ _ _ hj' he' hk
   | halt x w' => simp only [effUpon] at h3
theorem SameJ.put {oi : Oper} {v u : Value} {s : StJ} {a : Act} {d : Option Tmp} (hsi : ∀ cs b, oi.op ≠ .select cs b) (p : ∀ x, d = some x → x ∉ oi.looksAt ops) (h : SameJ P ops s oi v a) : SameJ P ops s oi v (a.put d u) := by
 unfold SameJ EffAt at *
 rw [execOp_put oi hsi a d u p, wanted_put oi a d u p]
 exact h
theorem SameJ.unput {oi : Oper} {v u : Value} {s : StJ} {a : Act} {d : Option Tmp} (hsi : ∀ cs b, oi.op ≠ .select cs b) (p : ∀ x, d = some x → x ∉ oi.looksAt ops) (h : SameJ P ops s oi v (a.put d u)) : SameJ P ops s oi v a := by
 unfold SameJ EffAt at *
 rw [execOp_put oi hsi a d u p, wanted_put oi a d u p] at h
 exact h
theorem SameJ.later {oi : Oper} {v : Value} {s s' : StJ} {a : Act} (hs : ∀ x, s'.j x → s.j x) (h : SameJ P ops s oi v a) : SameJ P ops s' oi v a :=
 h.imp (fun ⟨h1, h2⟩ => ⟨h1, fun w hw => h2 w (hs w hw)⟩) id
theorem jOp_put {j : Nat} {oi oj : Oper} {v : Value} (hj : ops[j]? = some oj) (hap : oi.apart ops oj = true)
  (hsi : ∀ cs b, oi.op ≠ .select cs b) (hsj : ∀ cs b, oj.op ≠ .select cs b) {K : StJ → Act → Prop} {s : StJ} {a : Act}
  (hy : SameJ P ops s oi v a) (h : jOp P ops j K s (a.put oi.dst v)) :
  jOp P ops j (fun s' a' => SameJ P ops s' oi v a' ∧ K s' (a'.put oi.dst v)) s a := by
 obtain ⟨p1, p2, p3⟩ := Oper.apart_spec hap
 rcases h with ⟨o, ho, u, hu, hk⟩ | ⟨o, ho, hg, hs⟩
 ·obtain rfl : o = oj := Option.some.inj (ho.symm.trans hj)
  exact .inl ⟨o, hj, u, hu.unput hsj p1, hy.put hsi p3, by rw [← Act.put_comm a v u p2]; exact hk⟩
 ·obtain rfl : o = oj := Option.some.inj (ho.symm.trans hj)
  refine .inr ⟨o, hj, by rw [wanted_put o a oi.dst v p1] at hg; exact hg, fun w h1 h2 => ?_⟩
  have h3 := hs w h1 h2
  unfold EffAt at *
  rw [execOp_put o hsj a oi.dst v p1] at h3
  exact effUpon_mono (fun u w' ⟨s', h1, h2, h4⟩ => ⟨s', h1, h2, (hy.put hsi p3).later h2, by rw [← Act.put_comm a v u p2]; exact h4⟩) _ h3
theorem jAny_first {i : Nat} {oi : Oper} {v : Value} {L : StJ → Act → Prop} (hi : ops[i]? = some oi) (hsel : ∀ (j : Nat) (o : Oper) cs b, ops[j]? = some o → o.op ≠ .select cs b) :
  ∀ (f : Nat) (listed : Array Bool) (s : StJ) (a : Act),
   (∀ j oj, ops[j]? = some oj → j ≠ i → listed.getD j true = false → (∀ e ∈ oj.after, Region.binds md e = true → e.on ≠ i) → oi.apart ops oj = true) →
   i ∈ Region.ready md ops listed → SameJ P ops s oi v a →
   jAny P md ops L f (listed.setIfInBounds i true) s (a.put oi.dst v) → jAny P md ops L (f + 1) listed s a := by
 intro f
 induction f with
 | zero =>
  intro listed s a _ hr hy H
  refine ⟨(fun h => by rw [h] at hr; cases hr), fun j hj => ?_⟩
  by_cases hji : j = i
  ·subst hji; exact .inl ⟨oi, hi, v, hy, H⟩
  ·have := ready_mono hj hji
   rw [H.1] at this
   cases this
 | succ f ih =>
  intro listed s a hfree hr hy H
  have hun := (mem_ready.1 hr).1
  refine ⟨(fun h => by rw [h] at hr; cases hr), fun j hj => ?_⟩
  by_cases hji : j = i
  ·subst hji; exact .inl ⟨oi, hi, v, hy, H⟩
  have h1 := H.2 j (ready_mono hj hji)
  obtain ⟨hjun, oj, hoj, hall⟩ := mem_ready.1 hj
  have hnot : ∀ e ∈ oj.after, Region.binds md e = true → e.on ≠ i := fun e he hb heq => by
   have h1 := hall e he hb
   rw [heq, getD_both hun] at h1
   cases h1
  have h2 := jOp_put hoj (hfree j oj hoj hji hjun hnot) (fun cs b => hsel i oi cs b hi) (fun cs b => hsel j oj cs b hoj) hy h1
  have hfree' : ∀ k ok, ops[k]? = some ok → k ≠ i → (listed.setIfInBounds j true).getD k true = false →
    (∀ e ∈ ok.after, Region.binds md e = true → e.on ≠ i) → oi.apart ops ok = true := fun k ok hk hki hu hno => by
   refine hfree k ok hk hki ?_ hno
   by_cases hjk : j = k
   ·subst hjk; exact hjun
   ·rw [getD_set_ne true hjk] at hu; exact hu
  refine jOp_mono (fun s' a' _ h3 => ih (listed.setIfInBounds j true) s' a' hfree' (ready_mono hr (Ne.symm hji)) h3.1 ?_) h2
  rw [Array.setIfInBounds_comm _ _ hji]
  exact h3.2
end
section
variable {P : Program} {md : Region.Mode} {l : List Oper} {Lq : StJ → Act → Prop}
def pickP (l : List Oper) : List (Bool × Nat) → List (Bool × Oper)
 | [] => []
 | (b, k) :: r => ((l.drop k).take 1).map (fun o => (b, o)) ++ pickP l r
theorem pickP_cons {b : Bool} {k : Nat} {r : List (Bool × Nat)} {o : Oper} (h : l[k]? = some o) : pickP l ((b, k) :: r) = (b, o) :: pickP l r := by
 obtain ⟨h1, rfl⟩ := List.getElem?_eq_some_iff.1 h
 rw [pickP, List.drop_eq_getElem_cons h1]
 rfl
def wpPlan (P : Program) (ops : Array Oper) (Lq : StJ → Act → Prop) : List (Bool × Oper) → StJ → Act → Prop
 | [], s, a => Lq s a
 | (true, o) :: r, s, a => ∃ v, SameJ P ops s o v a ∧ wpPlan P ops Lq r s (a.put o.dst v)
 | (false, o) :: r, s, a => Region.wanted o (yielded ops a.tmps) = true ∧ ∀ w, s.j w → s.e w → EffAt P o a w (fun v w' => ∃ s' : StJ, (s'.j w' ∧ s'.e w') ∧ (∀ x, s'.j x → s.j x) ∧ wpPlan P ops Lq r s' (a.put o.dst v))
def planB (md : Region.Mode) (ops : Array Oper) : List (Bool × Nat) → Array Bool → Bool
 | [], listed => decide (Region.ready md ops listed = [])
 | (true, k) :: r, listed => (Region.ready md ops listed).contains k && Region.free md ops listed k && planB md ops r (listed.setIfInBounds k true)
 | (false, k) :: r, listed => decide (Region.ready md ops listed = [k]) && planB md ops r (listed.setIfInBounds k true)
theorem jAny_plan (hsel : Region.noSelect l.toArray = true) :
  ∀ (plan : List (Bool × Nat)) (listed : Array Bool) (s : StJ) (a : Act), planB md l.toArray plan listed = true → wpPlan P l.toArray Lq (pickP l plan) s a → jAny P md l.toArray Lq plan.length listed s a
 | [], listed, s, a, hB, h => ⟨by simpa [planB] using hB, h⟩
 | (true, k) :: r, listed, s, a, hB, h => by
  simp only [planB, Bool.and_eq_true] at hB
  obtain ⟨⟨hr, hf⟩, hB'⟩ := hB
  have hr' : k ∈ Region.ready md l.toArray listed := by simpa using hr
  obtain ⟨_, o, ho, _⟩ := mem_ready.1 hr'
  have ho' : l[k]? = some o := by simpa using ho
  rw [pickP_cons ho'] at h
  obtain ⟨v, hv, hk⟩ := h
  exact jAny_first ho (Region.noSelect_spec hsel) _ listed s a (Region.free_spec ho hf) hr' hv (jAny_plan hsel r _ _ _ hB' hk)
 | (false, k) :: r, listed, s, a, hB, h => by
  simp only [planB, Bool.and_eq_true, decide_eq_true_eq] at hB
  obtain ⟨hrd, hB'⟩ := hB
  have hr' : k ∈ Region.ready md l.toArray listed := by rw [hrd]; simp
  obtain ⟨_, o, ho, _⟩ := mem_ready.1 hr'
  have ho' : l[k]? = some o := by simpa using ho
  rw [pickP_cons ho'] at h
  refine ⟨(fun h0 => by rw [hrd] at h0; cases h0), fun j hj => ?_⟩
  rw [hrd] at hj
  obtain rfl : j = k := by simpa using hj
  exact .inr ⟨o, ho, h.1, fun w h1 h2 => effUpon_mono (fun v w' ⟨s', h3, h4, h5⟩ => ⟨s', h3, h4, jAny_plan hsel r _ _ _ hB' h5⟩) _ (h.2 w h1 h2)⟩
def treePB (md : Region.Mode) (ops : Array Oper) (plan : List (Bool × Nat)) : Bool :=
 Region.noSelect ops && decide (plan.length = ops.size) && planB md ops plan (Array.replicate ops.size false)
theorem wp_region_plan {id : Nat} {Q : Exit → Act → World → Prop} {a : Act} {w : World} (s : StJ) (hj : s.j w.drew) (he : s.e w.drew) (plan : List (Bool × Nat)) (hm : P.follows .mixedOrders = true) (hB : treePB .any l.toArray plan = true)
  (h : wpPlan P l.toArray (fun s a3 => ∀ w', s.j w' → s.e w' → Q .normal a3 w') (pickP l plan) s a) : (Code.region id l.toArray true).wp P Q a w := by
 simp only [treePB, Bool.and_eq_true, decide_eq_true_eq] at hB
 obtain ⟨⟨hsel, hlen⟩, hp⟩ := hB
 have H := jAny_plan (md := .any) (P := P) hsel plan _ s a hp h
 refine wp_region_any hm ?_
 have := jAny_any (Q' := Q) (fun s a' w' h1 h2 (hL : ∀ w', s.j w' → s.e w' → Q .normal a' w') => hL w' h1 h2) _ _ _ _ _ hj he H
 rw [hlen] at this
 exact this
section
variable {ops : Array Oper} {s : StJ} {a : Act} {o : Oper} {r : List (Bool × Oper)} {L : StJ → Act → Prop}
theorem effAt_of {w w' : World} {R : Value → World → Prop} {v : Value} (h : (execOp a.eval o).run P w = .ok (.value v) w') (hR : R v w') : EffAt P o a w R := by
 unfold EffAt
 rw [h]
 exact hR
theorem p_same (v : Value) {d : Tmp} (hd : o.dst = some d) (hw : Region.wanted o (yielded ops a.tmps) = true) (h : ∀ w, s.j w → (execOp a.eval o).run P w = .ok (.value v) w) (hk : wpPlan P ops L r s (a.put (some d) v)) : wpPlan P ops L ((true, o) :: r) s a :=
 ⟨v, .inl ⟨hw, fun w h1 => effAt_of (h w h1) ⟨rfl, rfl⟩⟩, by rw [hd]; exact hk⟩
theorem p_eff {d : Tmp} (hd : o.dst = some d) (hw : Region.wanted o (yielded ops a.tmps) = true) (h : ∀ w, s.j w → s.e w → EffAt P o a w (fun v w' => ∃ s' : StJ, (s'.j w' ∧ s'.e w') ∧ (∀ x, s'.j x → s.j x) ∧ wpPlan P ops L r s' (a.put (some d) v))) : wpPlan P ops L ((false, o) :: r) s a :=
 ⟨hw, by rw [hd]; exact h⟩
theorem p_eff0 (hd : o.dst = none) (hw : Region.wanted o (yielded ops a.tmps) = true) (h : ∀ w, s.j w → s.e w → EffAt P o a w (fun v w' => ∃ s' : StJ, (s'.j w' ∧ s'.e w') ∧ (∀ x, s'.j x → s.j x) ∧ wpPlan P ops L r s' a)) : wpPlan P ops L ((false, o) :: r) s a :=
 ⟨hw, by rw [hd]; exact h⟩
theorem p_nil (h : L s a) : wpPlan P ops L [] s a := h
end
end
abbrev mayP (may : List CallC) : List (Int × OpM) := may.map fun c => (c.num, c.o.o)
def AddC (w : World) (X S Bs Bm Ba : Nat) (Am : Option Addr) (nm cm : Nat) (may : List CallC) (f : Nat) : Prop :=
 ∀ (W : World) (x : WrC) (seen : List Byt) (out : List WrC) (v : Value) (seen' : List Byt) (outM : List WM), StA w X S Bs Bm Ba Am nm cm may seen out v W → WrP W x → Safe X S v x → (∀ y ∈ out, Dj y x) → out.Pairwise Dj → addM f (mayP may) x.p (seen, out.map WrC.p) = some (seen', outM) →
  Calls Tryz.prog 94 #[.agg #[.pointer (some ⟨x.D, 0, none⟩), .map (some x.M)], ptrB Bs, ptrB X, ptrB Bm, ptrB Ba] W (AddPost w X S Bs Bm Ba Am nm cm may W x out seen' outM)
@[go_sem] theorem fieldIs (b : Bool) (w : World) : (Instr.field 174 (.agg #[.bool b]) 0).run Tryz.prog w = .ok (.bool b) w := by kernel_rfl
theorem zeroIs (w : World) : (zeroValue 174).run Tryz.prog w = .ok (.agg #[.bool false]) w := by kernel_rfl
section
variable {w : World} {X S Bs Bm Ba : Nat} {Am : Option Addr} {nm cm : Nat} {may : List CallC}
theorem add_seen {W : World} {x : WrC} {seen : List Byt} {out : List WrC} {v : Value} (h : StA w X S Bs Bm Ba Am nm cm may seen out v W) (hx : WrP W x) (hpw : out.Pairwise Dj) (h1 : x.dev.length ≤ 40) (h2 : x.as_.length ≤ 40) (hk : keyM x.dev (plainA x.as_) ∈ seen) :
  Calls Tryz.prog 94 #[.agg #[.pointer (some ⟨x.D, 0, none⟩), .map (some x.M)], ptrB Bs, ptrB X, ptrB Bm, ptrB Ba] W (AddPost w X S Bs Bm Ba Am nm cm may W x out seen (out.map WrC.p)) := by
 have HK := hd_ (fun W' (g : Gr W W') => key_any x.lo x.D x.M x.dev x.as_ W' (hx.dev.at_.gr g) h1 (hx.map.gr g) h2 (fun p hp => (hx.ans p hp).gr g) hx.num)
 have H := hd_ h
 have HM := hd_ ((baB_mem (k := keyM x.dev (plainA x.as_))).2 hk)
 unfold keyM at HM
 have bs0 : W.cell? ⟨Bs, 0, none⟩ = some (.map (some S)) := (bc 0 h.bs).trans rfl
 haveI := h.bs.old
 have hfin : ∀ W', Gr W W' → AddPost w X S Bs Bm Ba Am nm cm may W x out seen (out.map WrC.p) (.returned (.bool true)) W' := fun W' g => ⟨v, [], rfl, by rw [List.append_nil]; exact h.grow g, by rw [List.append_nil], KX.gr g h.bx.lt, by simp, by rw [List.append_nil]; exact hpw⟩
 have HF := hd_ hfin
 obtain ⟨KK, hKK⟩ : ∃ KK, KK = bytesK x.dev ++ List.flatMap keyOne (plainA x.as_) := ⟨_, rfl⟩
 unfold keyM at HK
 rw [← hKK] at HK HM
 clear h hx hk hfin hpw hKK
 go_enter Tryz.func94, Tryz.ntmps94
 go_wp2_with (first
  | (go_at_call 95; ((with_reducible refine (HK.out _ gri).mono ?_); rintro _ _ ⟨rfl, g1, rfl⟩))
  | (at_lookup; refine wpList_lookupS (b := S) (S := seen.map baB) rfl _ _ rfl (baB KK) true Tryz.underlying171 Tryz.underlying9 (zeroIs _) (H.out.seen.gr gri) ⟨fun _ => rfl, fun _ => HM.out⟩ rfl rfl ?_))
 refine bodyPost_ret (results_tmp rfl _ _ _) rfl ?_
 exact HF.out _ gri
theorem add_new {f : Nat} (IH : AddC w X S Bs Bm Ba Am nm cm may f) (hml : may.length = nm) (hnm : nm ≤ 1000) (hck : ∀ c ∈ may, CallOk w c) {W : World} {x : WrC} {seen : List Byt} {out : List WrC} {v : Value} {seen' : List Byt} {outM : List WM}
  (h : StA w X S Bs Bm Ba Am nm cm may seen out v W) (hx : WrP W x) (hs : Safe X S v x) (hd : ∀ y ∈ out, Dj y x) (hpw : out.Pairwise Dj) (h1 : x.dev.length ≤ 40) (h2 : x.as_.length ≤ 40) (hk : keyM x.dev (plainA x.as_) ∉ seen) (hl : out.length < 5000)
  (hf : (mayP may).foldlM (fun st c => if (getK x.p.2 c.1).isSome then some st else (waysK x.p.1 c.2).foldlM (fun st a => addM f (mayP may) (doneK x.p.1 c.2 a, putK x.p.2 c.1 a) st) st) (keyM x.dev (plainA x.as_) :: seen, (out ++ [x]).map WrC.p) = some (seen', outM)) :
  Calls Tryz.prog 94 #[.agg #[.pointer (some ⟨x.D, 0, none⟩), .map (some x.M)], ptrB Bs, ptrB X, ptrB Bm, ptrB Ba] W (AddPost w X S Bs Bm Ba Am nm cm may W x out seen' outM) := by
 have HK := hd_ (fun W' (g : Gr W W') => key_any x.lo x.D x.M x.dev x.as_ W' (hx.dev.at_.gr g) h1 (hx.map.gr g) h2 (fun p hp => (hx.ans p hp).gr g) hx.num)
 have H := hd_ h
 obtain ⟨KK, hKK⟩ : ∃ KK, KK = keyM x.dev (plainA x.as_) := ⟨_, rfl⟩
 rw [← hKK] at HK hk hf
 have HNM := hd_ (fun hS => hk ((baB_mem (k := KK) (S := seen)).1 hS))
 have bs0 : W.cell? ⟨Bs, 0, none⟩ = some (.map (some S)) := (bc 0 h.bs).trans rfl
 haveI := h.bs.old
 haveI := h.bx.old
 have HX := hd_ hx
 have HS := hd_ hs
 have HPW := hd_ hpw
 have HDJ := hd_ hd
 have HF := hd_ hf
 have HLN := hd_ hl
 have HIH := hd_ IH
 have HML := hd_ hml
 have HCK := hd_ hck
 have hp : Hid (x.p = (x.dev, plainA x.as_)) := hd_ rfl
 clear h hx hs hk hd hpw hf hl IH hml hck hKK
 go_enter Tryz.func94, Tryz.ntmps94
 go_wp2_with (first
  | (go_at_call 95; ((with_reducible refine (HK.out _ gri).mono ?_); rintro _ _ ⟨rfl, g1, rfl⟩))
  | (at_lookup; refine wpList_lookupS (b := S) (S := seen.map baB) rfl _ _ rfl (baB KK) false Tryz.underlying171 Tryz.underlying9 (zeroIs _) (H.out.seen.gr gri) ⟨fun hS => absurd hS HNM.out, fun e => by cases e⟩ rfl rfl ?_)
  | (refine wpList_updateS (b := S) (S := seen.map baB) rfl _ _ _ rfl (baB KK) Tryz.underlying171 Tryz.underlying9 (H.out.seen.gr gri) HNM.out rfl rfl rfl fun W2 hs2 ho2 => ?_; have b5 : BlockAt W2 W.heap.size #[.pointer (some ⟨x.D, 0, none⟩), .map (some x.M)] 79 := ⟨(ho2.block (show W.heap.size ≠ S by have := H.out.seen.lt; omega)).trans (inferInstance : BlockAt (grown (W.alloc (.cells #[.pointer (some ⟨x.D, 0, none⟩), .map (some x.M)] 79)) g1) W.heap.size #[.pointer (some ⟨x.D, 0, none⟩), .map (some x.M)] 79).eq⟩; have bx2 : BlockAt W2 X #[v] 80 := ⟨(ho2.block H.out.neXS).trans (H.out.bx.gr (gri : Gr W (grown (W.alloc (.cells #[.pointer (some ⟨x.D, 0, none⟩), .map (some x.M)] 79)) g1))).eq⟩; have c50 : W2.cell? ⟨W.heap.size, 0, none⟩ = some (.pointer (some ⟨x.D, 0, none⟩)) := (bc 0 b5).trans rfl; have c51 : W2.cell? ⟨W.heap.size, 1, none⟩ = some (.map (some x.M)) := (bc 1 b5).trans rfl; have cx2 : W2.cell? ⟨X, 0, none⟩ = some v := (bc 0 bx2).trans rfl; haveI := b5.old; haveI := bx2.old; have HS2 := hd_ hs2; have HO2 := hd_ ho2; have HB5 := hd_ b5; have HBX2 := hd_ bx2; have hw2 := sta_own H.out gri ho2; have HW2 := hd_ hw2.1; have HSZ2 := hd_ hw2.2; clear hs2 ho2 b5 bx2 hw2)
  | (at_builtin; refine wp_append_n (base := w.heap.size) (v := v) (xs := out) wrIs rfl _ _ rfl rfl (HW2.out.gr gri) _ 0 [x] 1 1 rfl rfl (fun _ _ => trivial) (CellsN.block _ inferInstance rfl) (by have := HLN.out; simp <;> omega) (by have := HSZ2.out; simp <;> omega) (by simp) ?_; intro v1 Wd hd1; obtain ⟨A1, c1, hv1, hq1, hq2, hq3⟩ := hd1.own.form wrIs; obtain ⟨n1, hn1⟩ : ∃ n1, n1 = (out ++ [x]).length := ⟨_, rfl⟩; rw [← hn1] at hv1; subst hv1; obtain ⟨W5, hW5⟩ : ∃ W5, W5 = Wd.setCell ⟨X, 0, none⟩ (.slice A1 n1 c1) := ⟨_, rfl⟩; have st5 := sta_push (k := KK) H.out gri HO2.out HS2.out gri hd1 HX.out HS.out; have bx5 := sta_box H.out gri hd1 HB5.out (Nat.le_refl _); have bxd := hd1.keep X _ _ (HBX2.out.gr gri) (by decide); have hrun := run_storeX X n1 c1 A1 v Wd bxd; rw [← hW5] at hrun; rw [← hW5] at st5 bx5; have HRUN := hd_ hrun; have HST5 := hd_ st5; have HB55 := hd_ bx5; have HN1 := hd_ hn1; clear hd1 hq1 hq2 hq3 hn1 st5 bx5 bxd hrun hW5)
  | (refine wpStoreG rfl _ _ rfl ⟨X, 0, none⟩ _ rfl rfl W5 HRUN.out ?_; haveI := HST5.out.1.bx.old; haveI := HST5.out.1.bm.old; haveI := HB55.out.1.old; have cx5 : W5.cell? ⟨X, 0, none⟩ = some (.slice A1 n1 c1) := (bc 0 HST5.out.1.bx).trans rfl; have cm5 : W5.cell? ⟨Bm, 0, none⟩ = some (.slice Am nm cm) := (bc 0 HST5.out.1.bm).trans rfl; have hn5 : ¬ (5000 : Int) < (n1 : Int) := by (have a1 := HN1.out; have a2 := HLN.out; rw [List.length_append, List.length_singleton] at a1; omega)))
 have hpw5 : (out ++ [x]).Pairwise Dj := List.pairwise_append.2 ⟨HPW.out, by simp, fun a ha b hb => by rw [List.mem_singleton] at hb; subst hb; exact HDJ.out a ha⟩
 have hxw : X < W.heap.size := H.out.bx.lt
 have hlp : Lp w X S Bs Bm Ba Am nm cm may W x out (KK :: seen) [x] (.slice A1 n1 c1) W5 := ⟨HST5.out.1, HST5.out.2.1, fun y hy => .inl (List.mem_singleton.1 hy), hpw5, List.mem_singleton.2 rfl, HB55.out.1, HB55.out.2, hxw⟩
 have HLP := hd_ hlp
 obtain ⟨G, hG⟩ : ∃ G : SoM → (Int × OpM) → Option SoM, G = fun st c => if (getK x.p.2 c.1).isSome then some st else (waysK x.p.1 c.2).foldlM (fun st a => addM f (mayP may) (doneK x.p.1 c.2 a, putK x.p.2 c.1 a) st) st := ⟨_, rfl⟩
 rw [← hG] at HF
 have HG := hd_ hG
 have HXW := hd_ (And.intro h1 h2)
 have hxs := HX.out.map.sort
 have HXS := hd_ hxs
 have HXD := hd_ (HX.out.dev.at_)
 have HSW : Hid (W.heap.size < W5.heap.size) := hd_ HB55.out.1.lt
 clear hpw5 hxw hlp hG h1 h2 hxs HX HS HPW HDJ HB55 HST5 HRUN HW2 HSZ2 HB5 HBX2 HS2 HO2 HK HNM bs0 cx2 c50 c51 cx5 cm5 hn5
 go_loopw [33] (fun i ws => ∃ (k : Nat) (sn : List Byt) (new : List WrC) (v' : Value), k ≤ nm ∧ i = .int .i64 (k : Int) ∧ Lp w X S Bs Bm Ba Am nm cm may W x out sn new v' ws ∧ ((mayP may).drop k).foldlM G (sn, (out ++ new).map WrC.p) = some (seen', outM)) (fun i _ => nm - (intOf i).toNat)
 case atStart => exact ⟨0, _, _, _, Nat.zero_le _, rfl, HLP.out, HF.out⟩
 case round =>
  obtain ⟨k, sn, new, v', hk, rfl, hlp, hfo⟩ := hrel
  have HL1 := hd_ hlp
  have HFO := hd_ hfo
  clear HLP HF hlp hfo
  by_cases hlt : k < nm
  ·have HLT := hd_ hlt
   obtain ⟨c, hc⟩ : ∃ c, may[k]? = some c := ⟨_, List.getElem?_eq_getElem (by rw [HML.out]; exact hlt)⟩
   have hcm := List.mem_of_getElem? hc
   obtain ⟨gm, cm', hvm, hgm0, hgm, _, _, hcl, _⟩ := HL1.out.st.mr.cells callIs (by rintro rfl; simp at hc)
   simp only [Value.slice.injEq] at hvm
   obtain ⟨rfl, hml9, rfl⟩ := hvm
   have hrow : ∀ (j : Nat) u, (callL c)[j]? = some u → wr.cell? ((⟨gm, k * 18, none⟩ : Addr).add j) = some u := fun j u hu => by
    have := hcl k c hc j u hu
    rw [Go.WideShapes.add_plain]
    simpa [callE] using this
   have HROW := hd_ hrow
   haveI : Old gm wr := ⟨hgm⟩
   have hdrop : (mayP may).drop k = (c.num, c.o.o) :: (mayP may).drop (k + 1) := by
    have hk2 : (mayP may)[k]? = some (c.num, c.o.o) := by rw [List.getElem?_map, hc]; rfl
    obtain ⟨h3, h4⟩ := List.getElem?_eq_some_iff.1 hk2
    rw [List.drop_eq_getElem_cons h3, h4]
   have hfo := HFO.out
   rw [hdrop] at hfo
   obtain ⟨st1, hst1, hrest⟩ := foldM_cons _ _ _ _ hfo
   have HREST := hd_ hrest
   have HCM := hd_ hcm
   have hgk : getK x.p.2 c.num = (getK x.as_ c.num).map AnsC.m := getK_enc AnsC.m x.as_ c.num
   have hge : getK (encA x.as_) c.num = (getK x.as_ c.num).map ansV := getK_enc ansV x.as_ c.num
   rw [HG.out] at hst1
   simp only [hgk] at hst1
   have hbx := HL1.out.bx
   have cb0 : wr.cell? ⟨W.heap.size, 0, none⟩ = some (.pointer (some ⟨x.D, 0, none⟩)) := (bc 0 hbx).trans rfl
   have cb1 : wr.cell? ⟨W.heap.size, 1, none⟩ = some (.map (some x.M)) := (bc 1 hbx).trans rfl
   haveI := hbx.old
   have HXM := hd_ HL1.out.xp.map
   have hnm2 : (k : Int) < (nm : Int) := by omega
   clear hc hcm hcl hrow hdrop hfo hrest hgk hbx hgm0 hgm hml9 HFO
   cases hu : getK x.as_ c.num with
   | some a =>
    rw [hu] at hst1 hge
    simp only [Option.map_some, Option.isSome_some, if_true] at hst1 hge
    have HST1 := hd_ hst1
    have HGE : Hid (getK (encA x.as_) c.num = some (.agg #[.int .i64 a.code, .int .i64 a.done, .slice a.D a.n a.q])) := hd_ hge
    clear hu hst1 hge
    go_wp2_with (first
     | (refine wpLoadCs rfl _ _ rfl ⟨gm, k * 18, none⟩ (callL c) _ rfl Tryz.underlying51 rfl (by kernel_rfl) HROW.out ?_)
     | (refine wp_storeCall (W0 := wr) rfl _ _ rfl wr.heap.size c _ rfl rfl inferInstance rfl gri (Nat.le_refl _) ?_; obtain ⟨B9, hB9⟩ : ∃ B9, B9 = wr.heap.size := ⟨_, rfl⟩; rw [← hB9]; intro W7 g7 b9;have d0 : W7.cell? ⟨B9, 0, none⟩ = some (.int .u64 c.num) := (bc 0 b9).trans rfl; have d1 : W7.cell? ⟨B9, 1, none⟩ = some (.int .i64 c.node) := (bc 1 b9).trans rfl; have d2 : W7.cell? ⟨B9, 2, none⟩ = some (.int .i64 c.o.o.k) := (bc 2 b9).trans rfl; have d3 : W7.cell? ⟨B9, 3, none⟩ = some (.int .u64 c.o.o.v) := (bc 3 b9).trans rfl; have d4 : W7.cell? ⟨B9, 4, none⟩ = some (.int .u64 c.o.o.t) := (bc 4 b9).trans rfl; have d5 : W7.cell? ⟨B9, 5, none⟩ = some (.int .i64 c.o.o.s) := (bc 5 b9).trans rfl; have d6 : W7.cell? ⟨B9, 6, none⟩ = some (.int .i64 c.o.o.a) := (bc 6 b9).trans rfl; have d7 : W7.cell? ⟨B9, 7, none⟩ = some (.int .i64 c.o.o.c) := (bc 7 b9).trans rfl; have d8 : W7.cell? ⟨B9, 8, none⟩ = some (.slice c.o.D c.o.n c.o.q) := (bc 8 b9).trans rfl; haveI := b9.old; haveI := grc_of g7; haveI := from_of g7; have cc0 := (g7.below.cell (p := ⟨W.heap.size, 0, none⟩) HL1.out.bx.lt).trans cb0; have cc1 := (g7.below.cell (p := ⟨W.heap.size, 1, none⟩) HL1.out.bx.lt).trans cb1; haveI := (HL1.out.bx.gr g7).old; have G7 := hd_ g7; have HB9 := hd_ b9; have HBL := hd_ (Nat.le_of_eq hB9.symm); clear hB9 b9 g7)
     | (at_lookup; refine wpList_lookupK (q := .u64) (b := x.M) rfl _ _ rfl c.num Tryz.underlying77 Tryz.underlying24 (Tryz.zeroValue38 _) (HXM.out.gr (G7.out.trans gri)) rfl rfl ?_; rw [HGE.out]))
    have hst2 : (sn, (out ++ new).map WrC.p) = st1 := Option.some.inj HST1.out
    go_roundw
    case rel => exact ⟨k + 1, sn, new, v', HLT.out, by go_num, HL1.out.gr (G7.out.trans gri), by rw [hst2]; exact HREST.out⟩
    case measure => have := HLT.out; simp [intOf]; omega
   | none =>
    rw [hu] at hst1 hge
    simp only [Option.map_none, Option.isSome_none, Bool.false_eq_true, if_false] at hst1
    have HST1 := hd_ hst1
    have HGE : Hid (getK (encA x.as_) c.num = none) := hd_ hge
    have HCO := hd_ (HCK.out c HCM.out)
    have HWY := hd_ (fun W' (g : Gr wr W') => ways_any c.o.o.k c.o.o.v c.o.o.t c.o.o.s c.o.o.a c.o.o.c c.o.D c.o.n c.o.q HCO.out.op.cap c.o.o.l HCO.out.op.len x.lo x.D x.dev W' (HL1.out.xp.dev.at_.gr g) (HCO.out.op.row.gr (HL1.out.st.gr.trans g)) HCO.out.op.small)
    clear hu hst1 hge
    go_wp2_with (first
     | (refine wpLoadCs rfl _ _ rfl ⟨gm, k * 18, none⟩ (callL c) _ rfl Tryz.underlying51 rfl (by kernel_rfl) HROW.out ?_)
     | (refine wp_storeCall (W0 := wr) rfl _ _ rfl wr.heap.size c _ rfl rfl inferInstance rfl gri (Nat.le_refl _) ?_; obtain ⟨B9, hB9⟩ : ∃ B9, B9 = wr.heap.size := ⟨_, rfl⟩; rw [← hB9]; intro W7 g7 b9;have d0 : W7.cell? ⟨B9, 0, none⟩ = some (.int .u64 c.num) := (bc 0 b9).trans rfl; have d1 : W7.cell? ⟨B9, 1, none⟩ = some (.int .i64 c.node) := (bc 1 b9).trans rfl; have d2 : W7.cell? ⟨B9, 2, none⟩ = some (.int .i64 c.o.o.k) := (bc 2 b9).trans rfl; have d3 : W7.cell? ⟨B9, 3, none⟩ = some (.int .u64 c.o.o.v) := (bc 3 b9).trans rfl; have d4 : W7.cell? ⟨B9, 4, none⟩ = some (.int .u64 c.o.o.t) := (bc 4 b9).trans rfl; have d5 : W7.cell? ⟨B9, 5, none⟩ = some (.int .i64 c.o.o.s) := (bc 5 b9).trans rfl; have d6 : W7.cell? ⟨B9, 6, none⟩ = some (.int .i64 c.o.o.a) := (bc 6 b9).trans rfl; have d7 : W7.cell? ⟨B9, 7, none⟩ = some (.int .i64 c.o.o.c) := (bc 7 b9).trans rfl; have d8 : W7.cell? ⟨B9, 8, none⟩ = some (.slice c.o.D c.o.n c.o.q) := (bc 8 b9).trans rfl; haveI := b9.old; haveI := grc_of g7; haveI := from_of g7; have cc0 := (g7.below.cell (p := ⟨W.heap.size, 0, none⟩) HL1.out.bx.lt).trans cb0; have cc1 := (g7.below.cell (p := ⟨W.heap.size, 1, none⟩) HL1.out.bx.lt).trans cb1; haveI := (HL1.out.bx.gr g7).old; have G7 := hd_ g7; have HB9 := hd_ b9; have HBL := hd_ (Nat.le_of_eq hB9.symm); clear hB9 b9 g7)
     | (at_lookup; refine wpList_lookupK (q := .u64) (b := x.M) rfl _ _ rfl c.num Tryz.underlying77 Tryz.underlying24 (Tryz.zeroValue38 _) (HXM.out.gr (G7.out.trans gri)) rfl rfl ?_; rw [HGE.out])
     | (go_at_call 11; ((with_reducible refine (HWY.out _ (G7.out.trans gri)).mono ?_); rintro _ _ ⟨va, xs, rfl, hov, hxs, hxo, ⟨g8, rfl⟩⟩; obtain ⟨Aa, ca, hva, hca, hcb, hcc⟩ := hov.form ansIs; obtain ⟨N, hN⟩ : ∃ N, N = xs.length := ⟨_, rfl⟩; rw [← hN] at hva; subst hva; have HOV := hd_ hov; have HXO := hd_ hxo; have HXQ := hd_ hxs; have HN := hd_ hN; clear hov hxs hxo hca hcb hcc hN)))
    obtain ⟨W8, hW8⟩ : ∃ W8, W8 = grown (W7.alloc (.cells #[.int .i64 0, .int .i64 0, .slice none 0 0] 38)) g8 := ⟨_, rfl⟩
    have g78 : Gr W7 W8 := by rw [hW8]; exact gri
    have hov8 := HOV.out
    have hxo8 := HXO.out
    rw [← hW8] at hov8 hxo8
    rw [← hW8]
    have hl8 := HL1.out.gr (G7.out.trans g78)
    have hb98 := HB9.out.gr g78
    generalize (W7.alloc (.cells #[.int .i64 0, .int .i64 0, .slice none 0 0] 38)).heap.size = b8 at hov8 hxo8
    have HL8 := hd_ hl8
    have HB98 := hd_ hb98
    have HOV8 := hd_ hov8
    have HXO8 := hd_ (fun a (ha : a ∈ xs) => (hxo8 a ha).more (Nat.zero_le b8))
    have hWB : W.heap.size < B9 := by have := HBL.out; have := HL1.out.bx.lt; omega
    have HWB := hd_ hWB
    clear hW8 g78 hov8 hxo8 hl8 hb98 HOV HXO hWB HB9 G7 cb0 cb1 cc0 cc1 d0 d1 d2 d3 d4 d5 d6 d7 d8
    obtain ⟨G2, hG2⟩ : ∃ G2 : SoM → AnsM → Option SoM, G2 = fun st a => addM f (mayP may) (doneK x.p.1 c.o.o a, putK x.p.2 c.num a) st := ⟨_, rfl⟩
    have hst1 : (waysK x.dev c.o.o).foldlM G2 (sn, (out ++ new).map WrC.p) = some st1 := by rw [hG2]; exact HST1.out
    have HST2 := hd_ hst1
    have HG2 := hd_ hG2
    have hNw : N = (waysK x.dev c.o.o).length := by rw [HN.out, ← HXQ.out, List.length_map]
    have hN9 : N ≤ 100000 := by rw [hNw]; exact waysK_len _ _
    have HNW := hd_ hNw
    clear hst1 hG2 HST1 hNw
    go_loopw [52] (fun i ws => ∃ (j : Nat) (sn2 : List Byt) (new2 : List WrC) (v2 : Value), j ≤ N ∧ i = .int .i64 (j : Int) ∧ Lp w X S Bs Bm Ba (some ⟨gm, 0, none⟩) nm cm may W x out sn2 new2 v2 ws ∧ ((waysK x.dev c.o.o).drop j).foldlM G2 (sn2, (out ++ new2).map WrC.p) = some st1 ∧ BlockAt ws B9 (callL c).toArray 51 ∧ OwnN ansE b8 ws (.slice Aa N ca) xs ∧ ∀ a ∈ xs, AnsOk 0 ws a) (fun i _ => N - (intOf i).toNat)
    case atStart => exact ⟨0, sn, new, v', Nat.zero_le _, rfl, HL8.out, HST2.out, HB98.out, HOV8.out, HXO8.out⟩
    case round =>
     obtain ⟨j, sn2, new2, v2, hj, rfl, hlp, hfo, hb9, hov, hxo⟩ := hrel
     have HL2 := hd_ hlp
     have HFO2 := hd_ hfo
     have HB92 := hd_ hb9
     have HOV2 := hd_ hov
     have HXO2 := hd_ hxo
     have cb0 : wr.cell? ⟨W.heap.size, 0, none⟩ = some (.pointer (some ⟨x.D, 0, none⟩)) := (bc 0 hlp.bx).trans rfl
     have cb1 : wr.cell? ⟨W.heap.size, 1, none⟩ = some (.map (some x.M)) := (bc 1 hlp.bx).trans rfl
     have d0 : wr.cell? ⟨B9, 0, none⟩ = some (.int .u64 c.num) := (bc 0 hb9).trans rfl
     have d1 : wr.cell? ⟨B9, 1, none⟩ = some (.int .i64 c.node) := (bc 1 hb9).trans rfl
     have d2 : wr.cell? ⟨B9, 2, none⟩ = some (.int .i64 c.o.o.k) := (bc 2 hb9).trans rfl
     have d3 : wr.cell? ⟨B9, 3, none⟩ = some (.int .u64 c.o.o.v) := (bc 3 hb9).trans rfl
     have d4 : wr.cell? ⟨B9, 4, none⟩ = some (.int .u64 c.o.o.t) := (bc 4 hb9).trans rfl
     have d5 : wr.cell? ⟨B9, 5, none⟩ = some (.int .i64 c.o.o.s) := (bc 5 hb9).trans rfl
     have d6 : wr.cell? ⟨B9, 6, none⟩ = some (.int .i64 c.o.o.a) := (bc 6 hb9).trans rfl
     have d7 : wr.cell? ⟨B9, 7, none⟩ = some (.int .i64 c.o.o.c) := (bc 7 hb9).trans rfl
     have d8 : wr.cell? ⟨B9, 8, none⟩ = some (.slice c.o.D c.o.n c.o.q) := (bc 8 hb9).trans rfl
     haveI := hlp.bx.old
     haveI := hb9.old
     haveI := hlp.st.ba.old
     have ca0 : wr.cell? ⟨Ba, 0, none⟩ = some (addF X Bs Bm Ba) := (bc 0 hlp.st.ba).trans rfl
     clear hlp hfo hb9 hov hxo HL8 HB98 HOV8 HXO8 HST2
     by_cases hjn : j < N
     ·have HJN := hd_ hjn
      obtain ⟨a, ha⟩ : ∃ a, xs[j]? = some a := ⟨_, List.getElem?_eq_getElem (by rw [← HN.out]; exact hjn)⟩
      obtain ⟨ga, ca', hva, _, hga, _, _, hcl, _⟩ := HOV2.out.cells ansIs (by rintro rfl; simp at ha)
      simp only [Value.slice.injEq] at hva
      obtain ⟨rfl, hq0, rfl⟩ := hva
      clear hq0
      obtain ⟨e0, e1, e2⟩ := ansCells hcl ha
      simp only [Nat.zero_add] at e0 e1 e2
      haveI : Old ga wr := ⟨hga⟩
      have HAO := hd_ (HXO2.out a (List.mem_of_getElem? ha))
      have haw : (waysK x.dev c.o.o)[j]? = some a.m := by rw [← HXQ.out, List.getElem?_map, ha]; rfl
      have hdrop : (waysK x.dev c.o.o).drop j = a.m :: (waysK x.dev c.o.o).drop (j + 1) := by
       obtain ⟨h3, h4⟩ := List.getElem?_eq_some_iff.1 haw
       rw [List.drop_eq_getElem_cons h3, h4]
      have han := waysK_nn x.dev c.o.o a.m (List.mem_of_getElem? haw)
      have HNA : Hid (AnsN (c.num, a)) := hd_ ⟨HCO.out.n0, HCO.out.n1, han.1, by have := han.2.1; simp only [AnsC.m] at this ⊢; omega, han.2.2.1, by have := han.2.2.2; simp only [AnsC.m] at this ⊢; omega⟩
      clear han
      have hfo := HFO2.out
      rw [hdrop] at hfo
      obtain ⟨st2, hst2, hrest⟩ := foldM_cons _ _ _ _ hfo
      rw [HG2.out] at hst2
      have HST2 := hd_ hst2
      have HREST2 := hd_ hrest
      clear hcl ha haw hdrop hfo hst2 hrest HFO2
      go_wp2
      obtain ⟨W9, hW9⟩ : ∃ W9, W9 = wr.alloc (.cells #[.int .i64 a.code, .int .i64 a.done, .slice a.D a.n a.q] 38) := ⟨_, rfl⟩
      obtain ⟨B13, hB13⟩ : ∃ B13, B13 = wr.heap.size := ⟨_, rfl⟩
      have g9 : Gr wr W9 := by rw [hW9]; exact gri
      have b13 : BlockAt W9 B13 #[.int .i64 a.code, .int .i64 a.done, .slice a.D a.n a.q] 38 := by rw [hW9, hB13]; infer_instance
      rw [← hW9, ← hB13]
      have cb09 := (g9.below.cell (p := ⟨W.heap.size, 0, none⟩) HL2.out.bx.lt).trans cb0
      have cb19 := (g9.below.cell (p := ⟨W.heap.size, 1, none⟩) HL2.out.bx.lt).trans cb1
      have d09 := (g9.below.cell (p := ⟨B9, 0, none⟩) HB92.out.lt).trans d0
      have d19 := (g9.below.cell (p := ⟨B9, 1, none⟩) HB92.out.lt).trans d1
      have d29 := (g9.below.cell (p := ⟨B9, 2, none⟩) HB92.out.lt).trans d2
      have d39 := (g9.below.cell (p := ⟨B9, 3, none⟩) HB92.out.lt).trans d3
      have d49 := (g9.below.cell (p := ⟨B9, 4, none⟩) HB92.out.lt).trans d4
      have d59 := (g9.below.cell (p := ⟨B9, 5, none⟩) HB92.out.lt).trans d5
      have d69 := (g9.below.cell (p := ⟨B9, 6, none⟩) HB92.out.lt).trans d6
      have d79 := (g9.below.cell (p := ⟨B9, 7, none⟩) HB92.out.lt).trans d7
      have d89 := (g9.below.cell (p := ⟨B9, 8, none⟩) HB92.out.lt).trans d8
      have f0 : W9.cell? ⟨B13, 0, none⟩ = some (.int .i64 a.code) := (bc 0 b13).trans rfl
      have f1 : W9.cell? ⟨B13, 1, none⟩ = some (.int .i64 a.done) := (bc 1 b13).trans rfl
      have f2 : W9.cell? ⟨B13, 2, none⟩ = some (.slice a.D a.n a.q) := (bc 2 b13).trans rfl
      haveI := b13.old
      haveI : Old B9 W9 := (HB92.out.gr g9).old
      haveI : Old W.heap.size W9 := (HL2.out.bx.gr g9).old
      have G9 := hd_ g9
      have HDN := hd_ (fun W' (g : Gr wr W') => done_any c.o.o.k c.o.o.v c.o.o.t c.o.o.s c.o.o.a c.o.o.c c.o.D c.o.n c.o.q HCO.out.op.cap c.o.o.l HCO.out.op.len x.lo x.D x.dev a.code a.done a.D a.n a.q a.l W' (HL2.out.xp.dev.at_.gr g) (HCO.out.op.row.gr (HL2.out.st.gr.trans g)) HCO.out.op.small)
      have HSZ9 : Hid (wr.heap.size ≤ W9.heap.size) := hd_ g9.below.size
      clear hW9 hB13 g9 b13 cb0 cb1 d0 d1 d2 d3 d4 d5 d6 d7 d8 ca0 e0 e1 e2
      refine wp_region_flo (W := W9) (I := InCls W9) (inCls_ghost _) (Cls.none _) ⟨gri, trivial⟩ [0, 1, 2, 3, 4, 6, 7] [(5, false), (8, false), (9, true)] 10 11 [] rfl rfl Tryz.zeroValue79 rfl rfl (by kernel_rfl) (by kernel_rfl) (by kernel_rfl) ?_
      simp only [pick, List.drop, List.take, List.nil_append, List.cons_append, pick, List.getElem_toArray, List.getElem_cons_succ, List.getElem_cons_zero]
      repeat (refine wpCalm_step (fun K hK => ?_); go_simp; first | (refine hK _ ?_; clear hK K) | (apply Exists.intro; refine ⟨fun _ => ?_, hK _ ?_⟩; (skip); clear hK K))
      refine wpCalm_nil ?_
      simp only [pickF, List.getElem?_cons_succ, List.getElem?_cons_zero]
      refine flo_eff rfl (fun w1 hI1 => ?_)
      refine effAt_call' 96 #[.pointer (some ⟨x.D, 0, none⟩), .agg #[.int .i64 c.o.o.k, .int .u64 c.o.o.v, .int .u64 c.o.o.t, .int .i64 c.o.o.s, .int .i64 c.o.o.a, .int .i64 c.o.o.c, .slice c.o.D c.o.n c.o.q], .agg #[.int .i64 a.code, .int .i64 a.done, .slice a.D a.n a.q]] (by go_simp) ((HDN.out w1 (G9.out.trans hI1.1)).mono ?_)
      rintro _ w2 ⟨D2, rfl, hd2, hg2⟩
      obtain ⟨lo, hlo⟩ : ∃ lo, lo = w1.heap.size := ⟨_, rfl⟩
      obtain ⟨mid, hmid⟩ : ∃ mid, mid = w2.heap.size := ⟨_, rfl⟩
      obtain ⟨dz, hdz⟩ : ∃ dz, dz = doneK x.dev c.o.o a.m := ⟨_, rfl⟩
      have hdr : DevR lo mid w2 D2 dz := by rw [hlo, hmid, hdz]; exact devR_of hd2
      have hlo9 : wr.heap.size ≤ lo := by rw [hlo]; exact Nat.le_trans HSZ9.out hI1.1.below.size
      have hlm : lo ≤ mid := by rw [hlo, hmid]; exact hg2.below.size
      refine ⟨_, rfl, KeptT.gr hg2, Cls.just W9 (fun W' => DevR lo mid W' D2 dz ∧ mid ≤ W'.heap.size) (fun _ _ h g => ⟨h.1.gr g, Nat.le_trans h.2 g.below.size⟩), ⟨hI1.1.trans hg2, hdr, by rw [hmid]; exact Nat.le_refl _⟩, ?_⟩
      have HDZ := hd_ hdz
      have HLO := hd_ (And.intro hlo9 hlm)
      clear hd2 hg2 hlo hmid hdz hdr hI1 hlo9 hlm w2 w1
      go_simp
      refine flo_eff rfl (fun w3 hI3 => ?_)
      refine effAt_call' 97 #[.map (some x.M)] (by go_simp) ((cloneMapA x.M (encA x.as_) w3 (HL2.out.xp.map.gr (G9.out.trans hI3.1))).mono ?_)
      rintro _ w4 ⟨rfl, hm4, hg4⟩
      obtain ⟨M2, hM2⟩ : ∃ M2, M2 = w3.heap.size := ⟨_, rfl⟩
      rw [← hM2] at hm4 ⊢
      have hmM : mid ≤ M2 := by rw [hM2]; exact hI3.2.2
      refine ⟨_, rfl, KeptT.gr hg4, Cls.just W9 (fun W' => DevR lo mid W' D2 dz ∧ MapAt .u64 W' M2 (encA x.as_)) (fun _ _ h g => ⟨h.1.gr g, h.2.gr g⟩), ⟨hI3.1.trans hg4, hI3.2.1.gr hg4, hm4⟩, ?_⟩
      have HMM := hd_ hmM
      clear hm4 hg4 hM2 hI3 hmM w4 w3
      go_simp
      refine flo_calm (.agg #[.pointer (some ⟨D2, 0, none⟩), .map (some M2)]) rfl (fun g => by go_simp) ?_
      go_simp
      refine flo_end rfl (fun X1 w5 hI5 hX1 hl1 => ?_)
      refine effAt_storeG rfl rfl rfl (run_storeRow X1 _ _ _ hX1 (by kernel_rfl) rfl (by simp [Value.oneCell'])) ?_
      refine ⟨Cls.just W9 (fun W' => BlockAt W' X1 #[.pointer (some ⟨D2, 0, none⟩), .map (some M2)] 79 ∧ DevR lo mid W' D2 dz ∧ MapAt .u64 W' M2 (encA x.as_)) (fun _ _ h g => ⟨h.1.gr g, h.2.1.gr g, h.2.2.gr g⟩), ⟨Gr.of (below_row hI5.1.below hl1 _), blockAt_row (h := hX1) _ _ _ _ _, hI5.2.1.row hX1, hI5.2.2.rowK hX1⟩, ?_⟩
      refine wpCalm_nil ?_
      rintro w9 ⟨⟨g5, rfl⟩, bX1, hdv, hmp⟩
      simp only [ptrAt]
      have y0 : (grown W9 g5).cell? ⟨X1, 0, none⟩ = some (.pointer (some ⟨D2, 0, none⟩)) := (bc 0 bX1).trans rfl
      have y1 : (grown W9 g5).cell? ⟨X1, 1, none⟩ = some (.map (some M2)) := (bc 1 bX1).trans rfl
      haveI := bX1.old
      have HBX1 := hd_ bX1
      have HDV := hd_ hdv
      have HMP := hd_ hmp
      clear bX1 hdv hmp hX1 hI5 hl1 w5
      go_wp2_with (first
       | (refine wpList_updateK (q := .u64) (b := M2) rfl _ _ _ rfl c.num (.agg #[.int .i64 a.code, .int .i64 a.done, .slice a.D a.n a.q]) Tryz.underlying77 Tryz.underlying24 HMP.out rfl rfl rfl fun W11 hu1 hu2 => ?_; have lp11 := HL2.out.turn (G9.out.trans gri) HMP.out hu2 (Nat.le_trans (Nat.le_trans HLO.out.1 HLO.out.2) HMM.out); have bX11 := BlockAt.onlyK HMP.out hu2 HBX1.out; have b911 := BlockAt.onlyK HMP.out hu2 (HB92.out.gr (G9.out.trans gri)); have ov11 := OwnN.onlyK HMP.out hu2 (HOV2.out.gr (G9.out.trans gri)); have bk11 : BK wr W11 := (BK.gr (G9.out.trans gri)).trans (BK.onlyK HMP.out hu2); have hx11 := wrP_next HDV.out HMP.out hu1 hu2 HLO.out.2 HMM.out (HL2.out.xp.gr (G9.out.trans gri)) (HAO.out.gr (G9.out.trans gri)) HNA.out; have sz11 : wr.heap.size ≤ W11.heap.size := (by have q1 := hu2.2; have q2 := (Gr.below (G9.out.trans (gri : Gr W9 (grown W9 g5)))).size; omega); have z0 : W11.cell? ⟨X1, 0, none⟩ = some (.pointer (some ⟨D2, 0, none⟩)) := (bc 0 bX11).trans rfl; have z1 : W11.cell? ⟨X1, 1, none⟩ = some (.map (some M2)) := (bc 1 bX11).trans rfl; have z2 : W11.cell? ⟨Ba, 0, none⟩ = some (addF X Bs Bm Ba) := (bc 0 lp11.st.ba).trans rfl; haveI := bX11.old; haveI := lp11.st.ba.old; have LP11 := hd_ lp11; have B911 := hd_ b911; have OV11 := hd_ ov11; have BK11 := hd_ bk11; have HX11 := hd_ hx11; have SZ11 := hd_ sz11; clear lp11 bX11 b911 ov11 bk11 hx11 sz11 hu1 hu2)
       | (go_at_call 94; refine (HIH.out W11 ⟨D2, M2, lo, mid, M2 + 1, dz, putK x.as_ c.num a⟩ sn2 (out ++ new2) v2 st2.1 st2.2 LP11.out.st HX11.out ⟨.inl ?s1, .inl ?s2, fun g hg => .inl ?s3⟩ (fun y hy => .inl ?s4) LP11.out.pw ?s5).mono ?s6))
      case s1 => have q1 := HL2.out.st.bx.lt; have q2 := HLO.out.1; omega
      case s2 => have q1 := HL2.out.st.seen.lt; have q2 := HLO.out.1; omega
      case s3 => have q1 := HL2.out.st.rowLt g hg; have q2 := HLO.out.1; omega
      case s4 => have q1 := (HL2.out.st.all y hy).1.hi; have q2 := HLO.out.1; omega
      case s5 =>
       show addM f (mayP may) (dz, plainA (putK x.as_ c.num a)) _ = some st2
       rw [HDZ.out, show plainA (putK x.as_ c.num a) = putK (plainA x.as_) c.num a.m from (putK_enc AnsC.m x.as_ c.num a).symm]
       exact HST2.out
      case s6 =>
       intro e W12 ha
       obtain ⟨rfl, v3, new3, hl3, hm3, hk3⟩ := LP11.out.add LP11.out.bx.lt (by have q1 := HL2.out.kx.size; have q2 := HLO.out.1; simp only; omega) ha
       have b12 := hk3.blockAt LP11.out.st.bx B911.out (LP11.out.st.neX B911.out (by decide)) (LP11.out.st.neS B911.out) (LP11.out.st.neR B911.out (by decide))
       have o12 := hk3.own LP11.out.st.bx LP11.out.st.own LP11.out.st.seen OV11.out (by decide) (by decide)
       have bk12 := BK11.out.trans hk3.bk
       have HL3 := hd_ hl3
       have HM3 := hd_ hm3
       have HB12 := hd_ b12
       have HO12 := hd_ o12
       have HBK12 := hd_ bk12
       clear ha hl3 hm3 hk3 b12 o12 bk12
       go_wp2
       go_roundw
       case rel => exact ⟨j + 1, st2.1, new3, v3, HJN.out, by go_num, HL3.out, by rw [HM3.out]; exact HREST2.out, HB12.out, HO12.out, fun a ha => (HXO2.out a ha).bk HBK12.out⟩
       case measure => have := HJN.out; simp [intOf]; omega
     ·have : j = N := by omega
      subst this
      have hfo := HFO2.out
      rw [List.drop_eq_nil_of_le (by rw [← HNW.out]; exact Nat.le_refl _)] at hfo
      have hfo2 : (sn2, (out ++ new2).map WrC.p) = st1 := Option.some.inj hfo
      have HE2 := hd_ hfo2
      clear hfo hfo2
      go_wp2
      go_roundw
      case rel => exact ⟨k + 1, sn2, new2, v2, HLT.out, by go_num, HL2.out, by rw [HE2.out]; exact HREST.out⟩
      case measure => have := HLT.out; simp [intOf]; omega
  ·have : k = nm := by omega
   subst this
   have hfo := HFO.out
   rw [List.drop_eq_nil_of_le (by rw [List.length_map, HML.out]; exact Nat.le_refl _)] at hfo
   have hfo2 : (sn, (out ++ new).map WrC.p) = (seen', outM) := Option.some.inj hfo
   have e1 := (Prod.mk.inj hfo2).1
   have e2 := (Prod.mk.inj hfo2).2
   subst e1
   have HE2 := hd_ e2
   clear hfo hfo2 e2
   go_wp2
   refine bodyPost_ret (results_tmp rfl _ _ _) rfl ?_
   exact ⟨v', new, rfl, HL1.out.st, HE2.out, HL1.out.kx, HL1.out.nw, HL1.out.pw⟩
theorem add_any (hml : may.length = nm) (hnm : nm ≤ 1000) (hck : ∀ c ∈ may, CallOk w c) : ∀ f, AddC w X S Bs Bm Ba Am nm cm may f
 | 0 => fun W x seen out v seen' outM hst hx hs hd hpw hadd => by rw [addM] at hadd; cases hadd
 | f + 1 => fun W x seen out v seen' outM hst hx hs hd hpw hadd => by
  rw [addM] at hadd
  split at hadd
  ·cases hadd
  rename_i hlen
  have h1 : x.dev.length ≤ 40 := by
   have : ¬ 40 < x.dev.length := fun h => hlen (.inl h)
   omega
  have h2 : x.as_.length ≤ 40 := by
   have : ¬ 40 < x.as_.length := fun h => hlen (.inr (by show 40 < (plainA x.as_).length; rw [List.length_map]; exact h))
   omega
  split at hadd
  ·rename_i hk
   obtain ⟨rfl, rfl⟩ := Prod.mk.inj (Option.some.inj hadd)
   exact add_seen hst hx hpw h1 h2 hk
  ·rename_i hk
   split at hadd
   ·cases hadd
   ·rename_i hl
    refine add_new (add_any hml hnm hck f) hml hnm hck hst hx hs hd hpw h1 h2 hk ?_ ?_
    ·have : ¬ 5000 ≤ out.length := fun h => hl (by show 5000 ≤ (out.map WrC.p).length; rw [List.length_map]; exact h)
     omega
    ·rw [List.map_append]
     exact hadd
end
def QAt (W : World) (v : Value) (q : Option CallC) : Prop := ∃ A n c, v = .slice A n c ∧ n ≤ c ∧ c ≤ maxLen ∧ n = q.toList.length ∧ ∀ x, q = some x → ∃ b p cs f, A = some ⟨b, p, none⟩ ∧ W.heap[b]? = some (.cells cs 51 f) ∧ CellsN callE W b p [x]
theorem QAt.keep {W W' : World} {v : Value} {q : Option CallC} (h : QAt W v q) (hk : ∀ (b : Nat) cs f, W.heap[b]? = some (Obj.cells cs 51 f) → W'.heap[b]? = W.heap[b]?) : QAt W' v q := by
 obtain ⟨A, n, c, rfl, h1, h2, h3, h4⟩ := h
 refine ⟨A, n, c, rfl, h1, h2, h3, fun x hx => ?_⟩
 obtain ⟨b, p, cs, f, rfl, hb, hc⟩ := h4 x hx
 have e := hk b cs f hb
 refine ⟨b, p, cs, f, rfl, e.trans hb, fun j y hj i u hu => ?_⟩
 rw [← hc j y hj i u hu]
 simp [World.cell?, e]
theorem QAt.gr {W W' : World} {v : Value} {q : Option CallC} (h : QAt W v q) (g : Gr W W') : QAt W' v q := h.keep fun b cs f hb => g.below.block b (Array.getElem?_eq_some_iff.1 hb).1
structure BkA (w : World) (B : Nat) (ws : List WrC) (q0 q1 : Option CallC) (gn : List CallC) (wv v0 v1 gv : Value) (W : World) : Prop where
 blk : BlockAt W B #[wv, v0, v1, gv] 83
 own : OwnN wrE w.heap.size W wv ws
 w0 : QAt W v0 q0
 w1 : QAt W v1 q1
 g : OwnN callE w.heap.size W gv gn
 gr : Gr w W
 bB : w.heap.size ≤ B
 all : ∀ x ∈ ws, WrP W x
 pw : ws.Pairwise Dj
 ck : ∀ c ∈ gn ++ (q0.toList ++ q1.toList), CallOk w c
 low : ∀ x ∈ ws, w.heap.size ≤ x.lo
section
variable {w W W' : World} {B : Nat} {ws : List WrC} {q0 q1 : Option CallC} {gn : List CallC} {wv v0 v1 gv : Value}
theorem BkA.grow (h : BkA w B ws q0 q1 gn wv v0 v1 gv W) (g : Gr W W') : BkA w B ws q0 q1 gn wv v0 v1 gv W' :=
 ⟨h.blk.gr g, h.own.gr g, h.w0.gr g, h.w1.gr g, h.g.gr g, h.gr.trans g, h.bB, fun x hx => (h.all x hx).gr g, h.pw, h.ck, h.low⟩
end
@[go_sem] theorem eqSlC (A : Option Addr) (n c : Nat) (w : World) : (binOp .eql 52 (.slice A n c) (.slice none 0 0)).run Tryz.prog w = .ok (.bool A.isNone) w :=
 Lib.run_eql_slice_nil w _ _ A n c 0 0 Tryz.underlying52
theorem idx2_0 (A C : Option Addr) (n c m d : Nat) (w : World) : (Instr.index 81 (.agg #[.slice A n c, .slice C m d]) (.int .i64 0)).run Tryz.prog w = .ok (.slice A n c) w := by kernel_rfl
theorem idx2_1 (A C : Option Addr) (n c m d : Nat) (w : World) : (Instr.index 81 (.agg #[.slice A n c, .slice C m d]) (.int .i64 1)).run Tryz.prog w = .ok (.slice C m d) w := by kernel_rfl
theorem cloneC_any (base : Nat) (gv : Value) (gn : List CallC) (w : World) (h : OwnN callE base w gv gn) (hl : gn.length ≤ 1000) : Calls Tryz.prog 64 #[gv] w fun e w' => ∃ v, e = .returned v ∧ OwnN callE w.heap.size w' v gn ∧ Gr w w' := by
 rcases h.own.2 with ⟨rfl, h0⟩ | ⟨g, cap, cur, rfl, hb, hh, hnc, hcm, _⟩
 ·obtain rfl : gn = [] := List.eq_nil_of_length_eq_zero h0
  go_enter Tryz.func64, Tryz.ntmps64
  go_wp2
  go_ret
  exact ⟨_, rfl, OwnN.nil _ _, gri⟩
 ·obtain ⟨A, c, hv, h1, h2, hr⟩ := h.form callIs
  cases hv
  have HR := hd_ hr
  obtain ⟨n, hn⟩ : ∃ n, n = gn.length := ⟨_, rfl⟩
  rw [← hn]
  have HN := hd_ hn
  clear hr hh h1 h2 hb h hn
  have HE := hd_ (fun (W : World) (g : Gr w W) (hB : BlockAt W w.heap.size #[] 51) => show OwnN callE w.heap.size W (.slice (some ⟨w.heap.size, 0, none⟩) 0 0) [] from ⟨by simp, by simp, .inr ⟨w.heap.size, 0, #[], rfl, Nat.le_refl _, hB.eq, Nat.le_refl _, Nat.zero_le _, rfl, rfl⟩⟩)
  go_enter Tryz.func64, Tryz.ntmps64
  go_wp2_with (first | (at_builtin; refine wp_append_x callIs rfl _ _ rfl rfl (HE.out _ gri inferInstance) (some ⟨g, 0, none⟩) gn n cap HN.out.symm rfl (fun e => by cases e) (HR.out.gr gri) (by have := HN.out; simp; omega) past ?_; intro v1 W1 h1; have H1 := hd_ h1; clear h1; haveI := H1.out.grc w (Nat.le_refl _); haveI := H1.out.from_ w))
  go_ret
  exact ⟨_, rfl, by have := H1.out.own; simpa using this, gri⟩
@[go_sem] theorem callL_len (x : CallC) : (callL x).length = 18 := rfl
@[go_sem] theorem fold_call (x : CallC) : List.foldl (fun (cs : Array Value) (y : Value × Nat) => cs.setIfInBounds y.2 y.1) #[.int .u64 0, .int .i64 0, .int .i64 0, .int .u64 0, .int .u64 0, .int .i64 0, .int .i64 0, .int .i64 0, .slice none 0 0, .int .i64 0, .int .i64 0, .int .i64 0, .bool false, .int .i64 0, .int .i64 0, .int .i64 0, .int .i64 0, .slice none 0 0] (callL x).zipIdx = (callL x).toArray := by
 simp [callL]
theorem cellsN_call {W : World} {B : Nat} {x : CallC} (h : BlockAt W B (callL x).toArray 51) : CellsN callE W B 0 [x] := CellsN.block x h (by simp [callE])
def qsK (q0 q1 : Option CallC) (j : Nat) : List CallC := ([q0.toList, q1.toList].take j).flatten
theorem may_any {w : World} {B : Nat} {ws : List WrC} {q0 q1 : Option CallC} {gn : List CallC} {wv v0 v1 gv : Value} {W : World} (h : BkA w B ws q0 q1 gn wv v0 v1 gv W) (hg : gn.length ≤ 900) :
  Calls Tryz.prog 93 #[ptrB B] W fun e w' => ∃ v, e = .returned v ∧ OwnN callE W.heap.size w' v (gn ++ (q0.toList ++ q1.toList)) ∧ Gr W w' := by
 obtain ⟨A0, n0, c0, hv0, h01, h02, h03, h04⟩ := h.w0
 obtain ⟨A1, n1, c1, hv1, h11, h12, h13, h14⟩ := h.w1
 subst hv0
 subst hv1
 have HC := hd_ (fun W' (g : Gr W W') => cloneC_any _ gv gn W' (h.g.gr g) (by omega))
 obtain ⟨Ag, cg, hvg, _, _, _⟩ := h.g.form callIs
 obtain ⟨ng, hng⟩ : ∃ ng, ng = gn.length := ⟨_, rfl⟩
 rw [← hng] at hvg
 subst hvg
 have b0 : W.cell? ⟨B, 0, none⟩ = some wv := (bc 0 h.blk).trans rfl
 have b1 : W.cell? ⟨B, 1, none⟩ = some (.slice A0 n0 c0) := (bc 1 h.blk).trans rfl
 have b2 : W.cell? ⟨B, 2, none⟩ = some (.slice A1 n1 c1) := (bc 2 h.blk).trans rfl
 have b3 : W.cell? ⟨B, 3, none⟩ = some (.slice Ag ng cg) := (bc 3 h.blk).trans rfl
 haveI := h.blk.old
 have H0 := hd_ (fun x (hx : q0 = some x) W' (g : Gr W W') => show ∃ b p, A0 = some ⟨b, p, none⟩ ∧ b < W'.heap.size ∧ CellsN callE W' b p [x] by
  obtain ⟨b, p, cs, f, rfl, hb, hc⟩ := h04 x hx
  have hl := (Array.getElem?_eq_some_iff.1 hb).1
  exact ⟨b, p, rfl, Nat.lt_of_lt_of_le hl g.below.size, hc.gr hl g⟩)
 have H1 := hd_ (fun x (hx : q1 = some x) W' (g : Gr W W') => show ∃ b p, A1 = some ⟨b, p, none⟩ ∧ b < W'.heap.size ∧ CellsN callE W' b p [x] by
  obtain ⟨b, p, cs, f, rfl, hb, hc⟩ := h14 x hx
  have hl := (Array.getElem?_eq_some_iff.1 hb).1
  exact ⟨b, p, rfl, Nat.lt_of_lt_of_le hl g.below.size, hc.gr hl g⟩)
 have HN0 := hd_ h03
 have HN1 := hd_ h13
 have HGL := hd_ hg
 clear h h01 h02 h03 h04 h11 h12 h13 h14 hng hg
 go_enter Tryz.func93, Tryz.ntmps93
 go_wp2_with (first | (go_at_call 64; ((with_reducible refine (HC.out _ gri).mono ?_); rintro _ _ ⟨v, rfl, hv, ⟨g2, rfl⟩⟩; have HV := hd_ hv; clear hv)))
 have HV0 := hd_ (show OwnN callE W.heap.size (grown W g2) v (gn ++ qsK q0 q1 0) by have := HV.out; simpa [qsK] using this)
 go_loopw [3, 15] (fun v i ws => ∃ j : Nat, j ≤ 2 ∧ i = .int .i64 (j : Int) ∧ OwnN callE W.heap.size ws v (gn ++ qsK q0 q1 j) ∧ Gr W ws) (fun _ i _ => 2 - (intOf i).toNat)
 case atStart => exact ⟨0, by omega, rfl, HV0.out, gri⟩
 case round =>
  obtain ⟨j, hj, rfl, ho, hg⟩ := hrel
  have HO := hd_ ho
  have HG := hd_ hg
  haveI := grc_of hg
  haveI := from_of hg
  have HQL : Hid ((qsK q0 q1 j).length ≤ 2) := hd_ (by cases q0 <;> cases q1 <;> (have : j = 0 ∨ j = 1 ∨ j = 2 := by omega) <;> rcases this with rfl | rfl | rfl <;> simp [qsK])
  have HLL : Hid ((gn ++ qsK q0 q1 j).length + 1 ≤ 100000000) := hd_ (by rw [List.length_append]; have := HQL.out; have := HGL.out; omega)
  clear ho hg HV0 HV b0 b1 b2 b3
  have h3 : j = 0 ∨ j = 1 ∨ j = 2 := by omega
  rcases h3 with rfl | rfl | rfl
  ·have hidx := fun w => idx2_0 A0 A1 n0 c0 n1 c1 w
   cases q0 with
   | none =>
    have hn := HN0.out
    simp only [Option.toList_none, List.length_nil] at hn
    subst hn
    go_wp2
    go_roundw
    case rel => exact ⟨1, by omega, by go_num, by have := HO.out; simpa [qsK] using this, HG.out⟩
    case measure => simp [intOf]
   | some x =>
    have hn := HN0.out
    simp only [Option.toList_some, List.length_singleton] at hn
    subst hn
    obtain ⟨b, p, rfl, hb, hcl⟩ := H0.out x rfl wr HG.out
    have hrow : ∀ (i : Nat) u, (callL x)[i]? = some u → wr.cell? ((⟨b, p, none⟩ : Addr).add i) = some u := fun i u hu => by
     have := hcl 0 x rfl i u hu
     rw [Go.WideShapes.add_plain]
     simpa [callE] using this
    have HROW := hd_ hrow
    haveI : Old b wr := ⟨hb⟩
    clear hcl hrow
    go_wp2_with (first
     | (refine wpLoadCs rfl _ _ rfl ⟨b, p, none⟩ (callL x) _ rfl Tryz.underlying51 rfl (by kernel_rfl) HROW.out ?_)
     | (at_builtin; refine wp_append_n (e := callE) (base := W.heap.size) (v := u3) (xs := gn ++ qsK (some x) q1 0) callIs rfl _ _ rfl rfl (HO.out.gr gri) wr.heap.size 0 [x] 1 1 rfl rfl (fun _ _ => trivial) (cellsN_call inferInstance) HLL.out past (by simp) ?_; intro v1 W1 h1; have H1' := hd_ h1; clear h1))
    go_roundw
    case rel => exact ⟨1, by omega, by go_num, by have := H1'.out.own; simpa [qsK] using this, by haveI := H1'.out.grc W (Nat.le_refl _); exact gri⟩
    case measure => simp [intOf]
  ·have hidx := fun w => idx2_1 A0 A1 n0 c0 n1 c1 w
   cases q1 with
   | none =>
    have hn := HN1.out
    simp only [Option.toList_none, List.length_nil] at hn
    subst hn
    go_wp2
    go_roundw
    case rel => exact ⟨2, by omega, by go_num, by have := HO.out; simpa [qsK] using this, HG.out⟩
    case measure => simp [intOf]
   | some x =>
    have hn := HN1.out
    simp only [Option.toList_some, List.length_singleton] at hn
    subst hn
    obtain ⟨b, p, rfl, hb, hcl⟩ := H1.out x rfl wr HG.out
    have hrow : ∀ (i : Nat) u, (callL x)[i]? = some u → wr.cell? ((⟨b, p, none⟩ : Addr).add i) = some u := fun i u hu => by
     have := hcl 0 x rfl i u hu
     rw [Go.WideShapes.add_plain]
     simpa [callE] using this
    have HROW := hd_ hrow
    haveI : Old b wr := ⟨hb⟩
    clear hcl hrow
    go_wp2_with (first
     | (refine wpLoadCs rfl _ _ rfl ⟨b, p, none⟩ (callL x) _ rfl Tryz.underlying51 rfl (by kernel_rfl) HROW.out ?_)
     | (at_builtin; refine wp_append_n (e := callE) (base := W.heap.size) (v := u3) (xs := gn ++ qsK q0 (some x) 1) callIs rfl _ _ rfl rfl (HO.out.gr gri) wr.heap.size 0 [x] 1 1 rfl rfl (fun _ _ => trivial) (cellsN_call inferInstance) HLL.out past (by simp) ?_; intro v1 W1 h1; have H1' := hd_ h1; clear h1))
    go_roundw
    case rel => exact ⟨2, by omega, by go_num, by have := H1'.out.own; simpa [qsK] using this, by haveI := H1'.out.grc W (Nat.le_refl _); exact gri⟩
    case measure => simp [intOf]
  ·go_wp2
   go_ret
   exact ⟨_, rfl, by have := HO.out; simpa [qsK] using this, HG.out⟩
def closeM (f : Nat) (may : List (Int × OpM)) (ws : List WM) : Option SoM := ws.foldlM (fun st x => addM f may x st) ([], [])
theorem heap_setB {W : World} {B o : Nat} {u : Value} {cs : Array Value} (hB : BlockAt W B cs 83) {b : Nat} {ob : Obj} (hb : W.heap[b]? = some ob) (hne : ∀ cs' f, ob ≠ .cells cs' 83 f) : (W.setCell ⟨B, o, none⟩ u).heap[b]? = W.heap[b]? :=
 Below.heap_setCell W ⟨B, o, none⟩ u b (fun e => by
  subst e
  rw [hB.eq] at hb
  exact hne _ _ (Option.some.inj hb).symm)
theorem MapAt.setB {q : IntKind} {W : World} {B o b : Nat} {u : Value} {cs : Array Value} {L : List (Int × Value)} (hB : BlockAt W B cs 83) (h : MapAt q W b L) : MapAt q (W.setCell ⟨B, o, none⟩ u) b L := by
 obtain ⟨es, clock, hb, h⟩ := h
 exact ⟨es, clock, (heap_setB hB hb (fun _ _ e => by cases e)).trans hb, h⟩
theorem WrP.setB {W : World} {B o : Nat} {u : Value} {cs : Array Value} {x : WrC} (hB : BlockAt W B cs 83) (h : WrP W x) : WrP (W.setCell ⟨B, o, none⟩ u) x := by
 have hbk : BK W (W.setCell ⟨B, o, none⟩ u) := fun b cs2 f hb => heap_setB hB hb (fun cs' f' e => by
  have := (Obj.cells.inj e).2.1
  exact absurd this (by decide))
 obtain ⟨M, mb, hd, h1, h2, h3⟩ := h.dev
 refine ⟨⟨M, mb, ⟨⟨(heap_setB hB hd.blk.eq (fun cs' f' e => absurd (Obj.cells.inj e).2.1 (by decide))).trans hd.blk.eq⟩, hd.all.setB hB, fun p hp => (hd.vol p hp).setB hB, hd.inj, hd.ne, hd.bD, hd.bM, hd.bV, hd.ok⟩, h1, h2, h3⟩, h.map.setB hB, h.m0, h.m1, by have := h.hi; simpa [World.setCell] using this, h.lo, fun p hp => (h.ans p hp).bk hbk, h.num⟩
theorem QAt.setB {W : World} {B o : Nat} {u v : Value} {cs : Array Value} {q : Option CallC} (hB : BlockAt W B cs 83) (h : QAt W v q) : QAt (W.setCell ⟨B, o, none⟩ u) v q := h.keep fun b cs2 f hb => heap_setB hB hb (fun cs' f' e => absurd (Obj.cells.inj e).2.1 (by decide))
def KB (B : Nat) (W W' : World) : Prop := W.heap.size ≤ W'.heap.size ∧ ∀ b, b < W.heap.size → b ≠ B → W'.heap[b]? = W.heap[b]?
theorem KB.block {B b : Nat} {W W' : World} {cs : Array Value} {t : TypeId} (h : KB B W W') (hb : BlockAt W b cs t) (hne : b ≠ B) : BlockAt W' b cs t := ⟨(h.2 b hb.lt hne).trans hb.eq⟩
def ClosePost (w W : World) (B : Nat) (q0 q1 : Option CallC) (gn : List CallC) (v0 v1 gv : Value) (outM : List WM) (e : Ending) (w' : World) : Prop :=
 e = .returned (.bool true) ∧ KB B W w' ∧ ∃ ws' wv', BkA w B ws' q0 q1 gn wv' v0 v1 gv w' ∧ ws'.map WrC.p = outM
theorem run_storeF (P : World) (Am : Option Addr) (nm cm Bs : Nat) :
  (storeVar 172 ⟨P.heap.size + 1 + 1, 0, none⟩ (addF (P.heap.size + 1) Bs P.heap.size (P.heap.size + 1 + 1))).run Tryz.prog (((P.alloc (.cells #[.slice Am nm cm] 52)).alloc (.cells #[.slice none 0 0] 80)).alloc (.cells #[.nilFunc] 172)) =
    .ok () (((P.alloc (.cells #[.slice Am nm cm] 52)).alloc (.cells #[.slice none 0 0] 80)).alloc (.cells #[addF (P.heap.size + 1) Bs P.heap.size (P.heap.size + 1 + 1)] 172)) := by
 have h := run_storeVar_new (P := Tryz.prog) ((P.alloc (.cells #[.slice Am nm cm] 52)).alloc (.cells #[.slice none 0 0] 80)) 172 #[.nilFunc] #[addF (P.heap.size + 1) Bs P.heap.size (P.heap.size + 1 + 1)] (by kernel_rfl) rfl (by simp [Value.oneCell'])
 have hs : ((P.alloc (.cells #[.slice Am nm cm] 52)).alloc (.cells #[.slice none 0 0] 80)).heap.size = P.heap.size + 1 + 1 := by simp
 rw [hs] at h
 exact h
theorem sta_start {W P : World} {may : List CallC} {g2 : Growth ((W.alloc (.map #[] 0)).alloc (.cells #[.map (some W.heap.size)] 171))} (Am : Option Addr) (nm cm : Nat) {ck b : Nat} (hP : P = grown ((W.alloc (.map #[] 0)).alloc (.cells #[.map (some W.heap.size)] 171)) g2) (hvm : OwnN callE b P (.slice Am nm cm) may) (hb : W.heap.size ≤ b) :
  StA W (P.heap.size + 1) W.heap.size (W.heap.size + 1) P.heap.size (P.heap.size + 1 + 1) Am nm cm may [] [] (.slice none 0 0) (((P.alloc (.cells #[.slice Am nm cm] 52)).alloc (.cells #[.slice none 0 0] 80)).alloc (.cells #[addF (P.heap.size + 1) (W.heap.size + 1) P.heap.size (P.heap.size + 1 + 1)] 172)) := by
 have hg : Gr W P := by rw [hP]; exact gri
 have hs := hg.below.size
 haveI := grc_of hg
 haveI := from_of hg
 have hS : SeenAt P W.heap.size ([].map baB) := by rw [hP]; exact (seenAt_new W).gr gri
 have hBs : BlockAt P (W.heap.size + 1) #[.map (some W.heap.size)] 171 := by rw [hP]; infer_instance
 refine ⟨by infer_instance, OwnN.nil _ _, hS.gr gri, hBs.gr gri, by infer_instance, by infer_instance, (hvm.more hb).gr gri, gri, by omega, Nat.le_refl _, by simp⟩
theorem close_any {f : Nat} {w : World} {B : Nat} {ws : List WrC} {q0 q1 : Option CallC} {gn : List CallC} {wv v0 v1 gv : Value} {W : World} (h : BkA w B ws q0 q1 gn wv v0 v1 gv W) (hgl : gn.length ≤ 900) (hws : ws.length ≤ 5000) {sn : List Byt} {outM : List WM}
  (hc : closeM f (mayP (gn ++ (q0.toList ++ q1.toList))) (ws.map WrC.p) = some (sn, outM)) :
  Calls Tryz.prog 66 #[ptrB B] W (ClosePost w W B q0 q1 gn v0 v1 gv outM) := by
 have hmm := @run_makeMap Tryz.prog
 have H := hd_ h
 have HMA := hd_ (fun W' (g : Gr W W') => may_any (h.grow g) hgl)
 obtain ⟨may, hmay⟩ : ∃ may, may = gn ++ (q0.toList ++ q1.toList) := ⟨_, rfl⟩
 rw [← hmay] at HMA hc
 have hck : ∀ c ∈ may, CallOk W c := fun c hc => (h.ck c (by rw [← hmay]; exact hc)).gr h.gr
 have hml : may.length ≤ 1000 := by
  rw [hmay, List.length_append, List.length_append]
  cases q0 <;> cases q1 <;> simp <;> omega
 obtain ⟨Aw, cw, hvw, _, _, hrw⟩ := h.own.form wrIs
 obtain ⟨nw, hnw⟩ : ∃ nw, nw = ws.length := ⟨_, rfl⟩
 rw [← hnw] at hvw
 subst hvw
 have b0 : W.cell? ⟨B, 0, none⟩ = some (.slice Aw nw cw) := (bc 0 h.blk).trans rfl
 have bf : ∀ o, W.frozen? ⟨B, o, none⟩ = false := fun o => @block_frozen _ _ o _ _ h.blk
 haveI := h.blk.old
 have HCK := hd_ hck
 have HMLE := hd_ hml
 have HC := hd_ hc
 have HNW := hd_ hnw
 have HRW := hd_ hrw
 have HWS := hd_ hws
 clear h hgl hc hmay hck hml hnw hrw hws
 go_enter Tryz.func66, Tryz.ntmps66
 go_wp2_with (first
  | (go_at_call 93; ((with_reducible refine (HMA.out _ gri).mono ?_); rintro _ _ ⟨vm, rfl, hvm, ⟨g2, rfl⟩⟩; obtain ⟨Am, cm, hvm2, _, _, _⟩ := hvm.form callIs; obtain ⟨nm, hnm⟩ : ∃ nm, nm = may.length := ⟨_, rfl⟩; rw [← hnm] at hvm2; subst hvm2; obtain ⟨P, hP⟩ : ∃ P, P = grown ((W.alloc (.map #[] 0)).alloc (.cells #[.map (some W.heap.size)] 171)) g2 := ⟨_, rfl⟩; rw [← hP] at hvm ⊢; have hrun := run_storeF P Am nm cm (W.heap.size + 1); have hstp := sta_start Am nm cm (ck := cm) hP hvm (by simp; omega); have hgp : Gr W P := (by (rw [hP]; exact gri)); have HRUN := hd_ hrun; have HST := hd_ hstp; have HNM := hd_ hnm; have HGP := hd_ hgp; haveI := grc_of hgp; haveI := from_of hgp; clear hvm hnm hrun hstp hgp hP))
  | (refine wpStoreG rfl _ _ rfl ⟨P.heap.size + 1 + 1, 0, none⟩ _ rfl rfl _ HRUN.out ?_; generalize hW5 : (((P.alloc (.cells #[.slice Am nm cm] 52)).alloc (.cells #[.slice none 0 0] 80)).alloc (.cells #[addF (P.heap.size + 1) (W.heap.size + 1) P.heap.size (P.heap.size + 1 + 1)] 172)) = W5 at HST ⊢; have HG5 := hd_ HST.out.gr; have c50 := (HG5.out.below.cell (p := ⟨B, 0, none⟩) H.out.blk.lt).trans b0; haveI := (H.out.blk.gr HG5.out).old; clear hW5 b0))
 obtain ⟨G, hG⟩ : ∃ G : SoM → WM → Option SoM, G = fun st x => addM f (mayP may) x st := ⟨_, rfl⟩
 have hcg : (ws.map WrC.p).foldlM G ([], []) = some (sn, outM) := by rw [hG]; exact HC.out
 have HCG := hd_ hcg
 have HG := hd_ hG
 clear hcg hG HC HRUN HMA
 generalize P.heap.size + 1 + 1 = Ba at HST ⊢
 generalize P.heap.size + 1 = X at HST ⊢
 generalize P.heap.size = Bm at HST ⊢
 obtain ⟨Bs, hBs⟩ : ∃ Bs, Bs = W.heap.size + 1 := ⟨_, rfl⟩
 rw [← hBs] at HST ⊢
 clear hBs
 go_loopw [18] (fun i wl => ∃ (k : Nat) (sk : List Byt) (out : List WrC) (v : Value), k ≤ nw ∧ i = .int .i64 (k : Int) ∧ StA W X W.heap.size Bs Bm Ba Am nm cm may sk out v wl ∧ out.Pairwise Dj ∧ (∀ y ∈ out, y ∈ ws.take k ∨ W.heap.size ≤ y.lo) ∧ ((ws.map WrC.p).drop k).foldlM G (sk, out.map WrC.p) = some (sn, outM)) (fun i _ => nw - (intOf i).toNat)
 case atStart => exact ⟨0, [], [], .slice none 0 0, Nat.zero_le _, rfl, HST.out, List.Pairwise.nil, by simp, by rw [List.drop_zero]; exact HCG.out⟩
 case round =>
  obtain ⟨k, sk, out, v, hk, rfl, hst, hpw, hin, hfo⟩ := hrel
  have HSK := hd_ hst
  have HPW := hd_ hpw
  have HIN := hd_ hin
  have HFO := hd_ hfo
  haveI := grc_of hst.gr
  haveI := from_of hst.gr
  haveI := hst.ba.old
  haveI := hst.bx.old
  have ca0 : wr.cell? ⟨Ba, 0, none⟩ = some (addF X Bs Bm Ba) := (bc 0 hst.ba).trans rfl
  have cx0 : wr.cell? ⟨X, 0, none⟩ = some v := (bc 0 hst.bx).trans rfl
  have hbk := H.out.blk.gr hst.gr
  have cb0 : wr.cell? ⟨B, 0, none⟩ = some (.slice Aw nw cw) := (bc 0 hbk).trans rfl
  have cbf : wr.frozen? ⟨B, 0, none⟩ = false := @block_frozen _ _ 0 _ _ hbk
  haveI := hbk.old
  have HBK := hd_ hbk
  clear hst hpw hin hfo hbk HST HCG bf c50
  by_cases hlt : k < nw
  ·have HLT := hd_ hlt
   have hnn : nw ≤ 5000 := by rw [HNW.out]; exact HWS.out
   obtain ⟨x, hx⟩ : ∃ x, ws[k]? = some x := ⟨_, List.getElem?_eq_getElem (by rw [← HNW.out]; exact hlt)⟩
   obtain ⟨gw, cw', hvw, _, hgw, _, _, hcl, _⟩ := H.out.own.cells wrIs (by rintro rfl; simp at hx)
   simp only [Value.slice.injEq] at hvw
   obtain ⟨rfl, hq0, rfl⟩ := hvw
   clear hq0
   have e0 : wr.cell? ⟨gw, k * 2, none⟩ = some (.pointer (some ⟨x.D, 0, none⟩)) := (HSK.out.gr.below.cell (p := ⟨gw, k * 2, none⟩) hgw).trans (by have := hcl k x hx 0 _ rfl; simpa [wrE] using this)
   have e1 : wr.cell? ⟨gw, k * 2 + 1, none⟩ = some (.map (some x.M)) := (HSK.out.gr.below.cell (p := ⟨gw, k * 2 + 1, none⟩) hgw).trans (by have := hcl k x hx 1 _ rfl; simpa [wrE] using this)
   haveI : Old gw wr := ⟨Nat.lt_of_lt_of_le hgw HSK.out.gr.below.size⟩
   have hxm := List.mem_of_getElem? hx
   have hxw := H.out.all x hxm
   have hkw : (ws.map WrC.p)[k]? = some x.p := by rw [List.getElem?_map, hx]; rfl
   have hdrop : (ws.map WrC.p).drop k = x.p :: (ws.map WrC.p).drop (k + 1) := by
    obtain ⟨h3, h4⟩ := List.getElem?_eq_some_iff.1 hkw
    rw [List.drop_eq_getElem_cons h3, h4]
   have hfo := HFO.out
   rw [hdrop] at hfo
   obtain ⟨st1, hst1, hrest⟩ := foldM_cons _ _ _ _ hfo
   rw [HG.out] at hst1
   have hsafe : Safe X W.heap.size v x := ⟨.inr (Nat.le_trans hxw.hi HSK.out.wX), .inr hxw.hi, fun g hg => .inr (Nat.le_trans hxw.hi (HSK.out.own.lt g hg).1)⟩
   have hdj : ∀ y ∈ out, Dj y x := fun y hy => by
    rcases HIN.out y hy with h | h
    ·obtain ⟨i, hi⟩ := List.mem_iff_getElem?.1 h
     rw [List.getElem?_take] at hi
     split at hi
     ·rename_i hik
      obtain ⟨p1, p2⟩ := List.getElem?_eq_some_iff.1 hi
      obtain ⟨p3, p4⟩ := List.getElem?_eq_some_iff.1 hx
      have := List.pairwise_iff_getElem.1 H.out.pw i k p1 p3 hik
      rw [p2, p4] at this
      exact this
     ·cases hi
    ·exact .inr (Nat.le_trans hxw.hi h)
   have HADD := hd_ (fun W' (g : Gr wr W') => add_any (may := may) HNM.out.symm (by have := HMLE.out; have := HNM.out; omega) HCK.out f W' x sk out v st1.1 st1.2 (HSK.out.grow g) ((hxw.gr HSK.out.gr).gr g) hsafe hdj HPW.out hst1)
   have HREST := hd_ hrest
   have HT := hd_ (show ws.take (k + 1) = ws.take k ++ [x] by rw [List.take_add_one, hx]; rfl)
   clear hx hcl hgw hxm hxw hkw hdrop hfo hst1 hrest hsafe hdj HFO
   go_wp2_with (first
    | (go_at_call 94; ((with_reducible refine (HADD.out _ gri).mono ?_); rintro _ W8 ⟨v3, new3, rfl, hs3, hm3, hk3, hn3, hp3⟩; have HS3 := hd_ hs3; have HM3 := hd_ hm3; have HN3 := hd_ hn3; have HP3 := hd_ hp3; clear hs3 hm3 hk3 hn3 hp3)))
   go_roundw
   case rel =>
    refine ⟨k + 1, st1.1, out ++ new3, v3, HLT.out, by go_num, HS3.out, HP3.out, fun y hy => ?_, by rw [HM3.out]; exact HREST.out⟩
    rcases List.mem_append.1 hy with hy | hy
    ·rcases HIN.out y hy with h | h
     ·exact .inl (by rw [HT.out]; exact List.mem_append_left _ h)
     ·exact .inr h
    ·rcases HN3.out y hy with rfl | h
     ·exact .inl (by rw [HT.out]; exact List.mem_append_right _ (List.mem_singleton.2 rfl))
     ·have q1 := HSK.out.gr.below.size
      simp at h
      exact .inr (by omega)
   case measure => have := HLT.out; simp [intOf]; omega
  ·have : k = nw := by omega
   subst this
   have hfo := HFO.out
   rw [List.drop_eq_nil_of_le (by rw [List.length_map, ← HNW.out]; exact Nat.le_refl _)] at hfo
   have e2 := (Prod.mk.inj (Option.some.inj hfo)).2
   obtain ⟨Av, cv, hv, _, _, _⟩ := HSK.out.own.form wrIs
   obtain ⟨nv, hnv⟩ : ∃ nv, nv = out.length := ⟨_, rfl⟩
   rw [← hnv] at hv
   subst hv
   have HE2 := hd_ e2
   clear hfo e2 hnv
   go_wp2
   refine bodyPost_ret (results_tmp rfl _ _ _) rfl ?_
   haveI := HBK.out
   refine ⟨rfl, ⟨by have := HSK.out.gr.below.size; simpa [World.setCell] using this, fun b hb hne => (Below.heap_setCell wr ⟨B, 0, none⟩ _ b hne).trans (HSK.out.gr.below.block b hb)⟩, out, .slice Av nv cv, ⟨?_, (HSK.out.own.more H.out.gr.below.size).set_ (hB := HBK.out) _ _ _ (by decide), ((H.out.w0.gr HSK.out.gr).setB HBK.out), ((H.out.w1.gr HSK.out.gr).setB HBK.out), (H.out.g.gr HSK.out.gr).set_ (hB := HBK.out) _ _ _ (by decide), Gr.of ((H.out.gr.trans HSK.out.gr).below.setCell (p := ⟨B, 0, none⟩) H.out.bB _), H.out.bB, fun x hx => (HSK.out.all x hx).1.setB HBK.out, HPW.out, H.out.ck, fun y hy => (HIN.out y hy).elim (fun h => H.out.low y (List.mem_of_mem_take h)) (fun h => Nat.le_trans H.out.gr.below.size h)⟩, HE2.out⟩
   show BlockAt _ _ (#[.slice Aw k cw, v0, v1, gv].setIfInBounds 0 _) _
   infer_instance
end Go.Proofs.YtddckdhnolmjoaaGreat
