/- A region that draws its order, among whose operations are some that read, compute, or call functions that only make new memory, and stores, one behind the other, into memory that none of the others reads: one walk, the stores last. Conditions: each store's step is known. -/
import Derived.Test.YtgjdgafoidppaaaDoorMix
import Derived.Test.YtgjdgafoidppaaaDoorBlk
namespace Go.Proofs.YtgjdgafoidppaaaDoor
open Go.RowKit
set_option linter.unusedVariables false
section
variable {P : Program} {ops : Array Oper} {md : Region.Mode} {W : World} {S : Type} {I : S → World → Prop}
/-- What is known of the world of a region under way: it grows out of W, whatever was stored. -/
structure Ghost (W : World) (I : S → World → Prop) : Prop where
  grow : ∀ s w w', I s w → Gr w w' → I s w'
  out : ∀ s w, I s w → Gr W w
def StStep (P : Program) (I : S → World → Prop) (s : S) (ty : TypeId) (ad : Addr) (v : Value) (s' : S) : Prop := ∀ w, I s w → ∃ w', (storeVar ty ad v).run P w = .ok () w' ∧ I s' w'
def stOp (P : Program) (ops : Array Oper) (I : S → World → Prop) (i : Nat) (K : S → Act → Prop) (s : S) (a : Act) : Prop :=
  ∃ o, ops[i]? = some o ∧ ∃ ty x y ad s', o.op = .store ty x y ∧ o.guard = none ∧ a.eval x = .pointer (some ad) ∧ StStep P I s ty ad (a.eval y) s' ∧ K s' (a.put o.dst undef)
def clOp (P : Program) (ops : Array Oper) (W : World) (i : Nat) (K : S → Act → Prop) (s : S) (a : Act) : Prop := ∃ o, ops[i]? = some o ∧ ∃ v, CalmOp P ops W o v a ∧ K s (a.put o.dst v)
def eiOp (P : Program) (ops : Array Oper) (W : World) (I : S → World → Prop) (i : Nat) (K : S → Act → Prop) (s : S) (a : Act) : Prop := clOp P ops W i K s a ∨ stOp P ops I i K s a
theorem eiOp_mono {i : Nat} {K K' : S → Act → Prop} {s : S} {a : Act} (h : ∀ s a, K s a → K' s a) (hh : eiOp P ops W I i K s a) : eiOp P ops W I i K' s a :=
  hh.imp (fun ⟨o, ho, v, hv, hk⟩ => ⟨o, ho, v, hv, h _ _ hk⟩) (fun ⟨o, ho, ty, x, y, ad, s', h1, h2, h3, h4, hk⟩ => ⟨o, ho, ty, x, y, ad, s', h1, h2, h3, h4, h _ _ hk⟩)
def eiAny (P : Program) (md : Region.Mode) (ops : Array Oper) (W : World) (I : S → World → Prop) (L : S → Act → Prop) : Nat → Array Bool → S → Act → Prop
  | 0, listed, s, a => Region.ready md ops listed = [] ∧ L s a
  | f + 1, listed, s, a => (Region.ready md ops listed = [] → L s a) ∧ ∀ i ∈ Region.ready md ops listed, eiOp P ops W I i (eiAny P md ops W I L f (listed.setIfInBounds i true)) s a
theorem eiAny_any (G : Ghost W I) {L : S → Act → Prop} {Q' : Exit → Act → World → Prop} (hL : ∀ s a w, I s w → L s a → Q' .normal a w) :
    ∀ (f : Nat) (listed : Array Bool) (s : S) (a : Act) (w : World), I s w → eiAny P md ops W I L f listed s a → wpAny P md ops Q' f listed a w
  | 0, listed, s, a, w, hw, h => ⟨h.1, hL _ _ _ hw h.2⟩
  | f + 1, listed, s, a, w, hw, h => by
    refine ⟨fun h0 => hL _ _ _ hw (h.1 h0), fun i hi => ?_⟩
    unfold wpOp
    rcases h.2 i hi with ⟨o, ho, v, hv, hk⟩ | ⟨o, ho, ty, x, y, ad, s', h1, h2, h3, h4, hk⟩
    · simp only [ho]
      rcases hv with ⟨hw1, hc⟩ | ⟨hw1, rfl⟩
      · simp only [hw1, if_true]
        refine .inl ?_
        obtain ⟨gw, rfl⟩ := G.out _ _ hw
        have h3 := hc gw
        unfold calmAt at h3
        unfold Oper.wp
        generalize (execOp a.eval o).run P (grown W gw) = r at *
        cases r with
        | ok nx w' =>
          cases nx <;> simp only [calmUpon] at h3 <;> simp only [Oper.upon]
          case value u => obtain ⟨e1, e2⟩ := h3; rw [e1, e2]; exact eiAny_any G hL f _ _ _ _ hw hk
          case skip => obtain ⟨e1, e2⟩ := h3; rw [e1, ← e2]; exact eiAny_any G hL f _ _ _ _ hw hk
          case enter f' args =>
            obtain ⟨e1, hc'⟩ := h3
            rw [e1]
            exact hc'.mono fun e w'' ⟨he, hw''⟩ => by subst he; exact eiAny_any G hL f _ _ _ _ (G.grow _ _ _ hw hw'') hk
        | halt x w' => simp only [calmUpon] at h3
      · simp only [hw1, Bool.false_eq_true, if_false]; exact eiAny_any G hL f _ _ _ _ hw hk
    · have hwant : Region.wanted o (yielded ops a.tmps) = true := by simp [Region.wanted, h2]
      simp only [ho, hwant, if_true]
      refine .inl ?_
      obtain ⟨w', hrun, hw'⟩ := h4 w hw
      unfold Oper.wp execOp
      simp only [h1, h3, Instr.storeAt, Instr.sureAddr, Sem.run_bind, Sem.run_pure, Result.andThen_ok, hrun]
      exact eiAny_any G hL f _ _ _ _ hw' hk
theorem eiOp_put {j : Nat} {oi oj : Oper} {v : Value} (hj : ops[j]? = some oj) (hap : oi.apart ops oj = true)
    (hsi : ∀ cs b, oi.op ≠ .select cs b) (hsj : ∀ cs b, oj.op ≠ .select cs b) {K : S → Act → Prop} {s : S} {a : Act}
    (hy : CalmOp P ops W oi v a) (h : eiOp P ops W I j K s (a.put oi.dst v)) :
    eiOp P ops W I j (fun s' a' => CalmOp P ops W oi v a' ∧ K s' (a'.put oi.dst v)) s a := by
  obtain ⟨p1, p2, p3⟩ := Oper.apart_spec hap
  rcases h with ⟨o, ho, u, hu, hk⟩ | ⟨o, ho, ty, x, y, ad, s', h1, h2, h3, h4, hk⟩
  · obtain rfl : o = oj := Option.some.inj (ho.symm.trans hj)
    exact .inl ⟨o, hj, u, hu.unput hsj p1, hy.put hsi p3, by rw [← Act.put_comm a v u p2]; exact hk⟩
  · obtain rfl : o = oj := Option.some.inj (ho.symm.trans hj)
    have e1 := Act.eval_put (a := a) (dst := oi.dst) (v := v) (x := x) (fun d hd => (not_looks h1 (p1 d hd)).1)
    have e2 := Act.eval_put (a := a) (dst := oi.dst) (v := v) (x := y) (fun d hd => (not_looks h1 (p1 d hd)).2)
    refine .inr ⟨o, hj, ty, x, y, ad, s', h1, h2, by rw [← e1]; exact h3, by rw [← e2]; exact h4, hy.put hsi p3, by rw [← Act.put_comm a v _ p2]; exact hk⟩
theorem eiAny_first {i : Nat} {oi : Oper} {v : Value} {L : S → Act → Prop} (hi : ops[i]? = some oi) (hsel : ∀ (j : Nat) (o : Oper) cs b, ops[j]? = some o → o.op ≠ .select cs b) :
    ∀ (f : Nat) (listed : Array Bool) (s : S) (a : Act),
      (∀ j oj, ops[j]? = some oj → j ≠ i → listed.getD j true = false → (∀ e ∈ oj.after, Region.binds md e = true → e.on ≠ i) → oi.apart ops oj = true) →
      i ∈ Region.ready md ops listed → CalmOp P ops W oi v a →
      eiAny P md ops W I L f (listed.setIfInBounds i true) s (a.put oi.dst v) → eiAny P md ops W I L (f + 1) listed s a := by
  intro f
  induction f with
  | zero =>
    intro listed s a _ hr hy H
    refine ⟨(fun h => by rw [h] at hr; cases hr), fun j hj => ?_⟩
    by_cases hji : j = i
    · subst hji; exact .inl ⟨oi, hi, v, hy, H⟩
    · have := ready_mono hj hji
      rw [H.1] at this
      cases this
  | succ f ih =>
    intro listed s a hfree hr hy H
    have hun := (mem_ready.1 hr).1
    refine ⟨(fun h => by rw [h] at hr; cases hr), fun j hj => ?_⟩
    by_cases hji : j = i
    · subst hji; exact .inl ⟨oi, hi, v, hy, H⟩
    have h1 := H.2 j (ready_mono hj hji)
    obtain ⟨hjun, oj, hoj, hall⟩ := mem_ready.1 hj
    have hnot : ∀ e ∈ oj.after, Region.binds md e = true → e.on ≠ i := fun e he hb heq => by
      have h1 := hall e he hb
      rw [heq, getD_both hun] at h1
      cases h1
    have h2 := eiOp_put hoj (hfree j oj hoj hji hjun hnot) (fun cs b => hsel i oi cs b hi) (fun cs b => hsel j oj cs b hoj) hy h1
    have hfree' : ∀ k ok, ops[k]? = some ok → k ≠ i → (listed.setIfInBounds j true).getD k true = false →
        (∀ e ∈ ok.after, Region.binds md e = true → e.on ≠ i) → oi.apart ops ok = true := fun k ok hk hki hu hno => by
      refine hfree k ok hk hki ?_ hno
      by_cases hjk : j = k
      · subst hjk; exact hjun
      · rw [getD_set_ne true hjk] at hu; exact hu
    refine eiOp_mono (fun s' a' h3 => ih (listed.setIfInBounds j true) s' a' hfree' (ready_mono hr (Ne.symm hji)) h3.1 ?_) h2
    rw [Array.setIfInBounds_comm _ _ hji]
    exact h3.2
end
section
variable {P : Program} {md : Region.Mode} {W : World} {S : Type} {I : S → World → Prop} {l : List Oper} {Lq : S → Act → Prop}
/-- The stores, one behind the other, with calm operations among them. -/
def wpSts (P : Program) (ops : Array Oper) (W : World) (I : S → World → Prop) (Q : S → Act → Prop) : List Oper → S → Act → Prop
  | [], s, a => Q s a
  | o :: r, s, a => (∃ v, CalmOp P ops W o v a ∧ wpSts P ops W I Q r s (a.put o.dst v)) ∨ ∃ ty x y ad s', o.op = .store ty x y ∧ o.guard = none ∧ a.eval x = .pointer (some ad) ∧ StStep P I s ty ad (a.eval y) s' ∧ wpSts P ops W I Q r s' (a.put o.dst undef)
theorem wpSts_nil {ops : Array Oper} {Q : S → Act → Prop} {s : S} {a : Act} (h : Q s a) : wpSts P ops W I Q [] s a := h
theorem wpSts_calm {ops : Array Oper} {Q : S → Act → Prop} {s : S} {a : Act} {o : Oper} {r : List Oper} (v : Value) (hg : o.guard = none) (hc : ∀ g : Growth W, calmAt P o a (grown W g) v) (h : wpSts P ops W I Q r s (a.put o.dst v)) : wpSts P ops W I Q (o :: r) s a :=
  .inl ⟨v, .inl ⟨by simp [Region.wanted, hg], hc⟩, h⟩
theorem wpSts_store {ops : Array Oper} {Q : S → Act → Prop} {s : S} {a : Act} {o : Oper} {r : List Oper} {ty : TypeId} {x y : Operand} (ad : Addr) (s' : S) (ho : o.op = .store ty x y) (hg : o.guard = none) (hx : a.eval x = .pointer (some ad)) (hs : StStep P I s ty ad (a.eval y) s') (h : wpSts P ops W I Q r s' (a.put o.dst undef)) : wpSts P ops W I Q (o :: r) s a :=
  .inr ⟨ty, x, y, ad, s', ho, hg, hx, hs, h⟩
def lateB (md : Region.Mode) (ops : Array Oper) (qs ss : List Nat) : Bool :=
  Region.noSelect ops && decide (qs.length + ss.length = ops.size) && seqFree md ops ss qs (Array.replicate ops.size false)
theorem eiAny_seq : ∀ (ss : List Nat) (listed : Array Bool) (s : S) (a : Act), seqOne md l.toArray ss listed = true → wpSts P l.toArray W I Lq (pick l ss) s a → eiAny P md l.toArray W I Lq ss.length listed s a
  | [], listed, s, a, hB, h => ⟨by simpa [seqOne] using hB, h⟩
  | k :: r, listed, s, a, hB, h => by
    simp only [seqOne, Bool.and_eq_true, decide_eq_true_eq] at hB
    refine ⟨(fun h0 => by rw [hB.1] at h0; cases h0), fun i hi => ?_⟩
    have hk : k ∈ Region.ready md l.toArray listed := by rw [hB.1]; simp
    obtain ⟨_, o, ho, _⟩ := mem_ready.1 hk
    have ho' : l[k]? = some o := by simpa using ho
    rw [hB.1] at hi
    obtain rfl : i = k := by simpa using hi
    rw [pick_cons ho'] at h
    rcases h with ⟨v, hv, hr⟩ | ⟨ty, x, y, ad, s', h1, h2, h3, h4, hr⟩
    · exact .inl ⟨o, ho, v, hv, eiAny_seq r _ _ _ hB.2 hr⟩
    exact .inr ⟨o, ho, ty, x, y, ad, s', h1, h2, h3, h4, eiAny_seq r _ _ _ hB.2 hr⟩
theorem eiAny_lex (hsel : Region.noSelect l.toArray = true) (ss : List Nat) :
    ∀ (qs : List Nat) (listed : Array Bool) (s : S) (a : Act), seqFree md l.toArray ss qs listed = true → wpCalm P l.toArray W (fun a' => wpSts P l.toArray W I Lq (pick l ss) s a') (pick l qs) a →
      eiAny P md l.toArray W I Lq (qs.length + ss.length) listed s a
  | [], listed, s, a, hB, h => by
    rw [List.length_nil, Nat.zero_add]
    exact eiAny_seq ss listed s a hB h
  | k :: r, listed, s, a, hB, h => by
    simp only [seqFree, Bool.and_eq_true] at hB
    obtain ⟨⟨hr, hf⟩, hB'⟩ := hB
    have hr' : k ∈ Region.ready md l.toArray listed := by simpa using hr
    obtain ⟨_, o, ho, _⟩ := mem_ready.1 hr'
    have ho' : l[k]? = some o := by simpa using ho
    rw [pick_cons ho'] at h
    rw [show (k :: r).length + ss.length = (r.length + ss.length) + 1 by simp; omega]
    unfold wpCalm at h
    by_cases hw : Region.wanted o (yielded l.toArray a.tmps) = true
    · simp only [hw, if_true] at h
      obtain ⟨v, hv, hk⟩ := h
      exact eiAny_first ho (Region.noSelect_spec hsel) _ listed s a (Region.free_spec ho hf) hr' (.inl ⟨hw, hv⟩) (eiAny_lex hsel ss r _ _ _ hB' hk)
    · simp only [hw] at h
      exact eiAny_first ho (Region.noSelect_spec hsel) _ listed s a (Region.free_spec ho hf) hr' (.inr ⟨by simpa using hw, rfl⟩) (eiAny_lex hsel ss r _ _ _ hB' h)
/-- ONE WALK: the calm operations 'qs' in a world that has grown out of W, then the stores 'ss'. -/
theorem wp_region_late {id : Nat} {Q : Exit → Act → World → Prop} {a : Act} {w : World} (G : Ghost W I) (s : S) (hw : I s w.drew) (qs ss : List Nat) (hm : P.follows .mixedOrders = true) (hB : lateB .any l.toArray qs ss = true)
    (h : wpCalm P l.toArray W (fun a' => wpSts P l.toArray W I (fun s a3 => ∀ w', I s w' → Q .normal a3 w') (pick l ss) s a') (pick l qs) a) : (Code.region id l.toArray true).wp P Q a w := by
  simp only [lateB, Bool.and_eq_true, decide_eq_true_eq] at hB
  obtain ⟨⟨hsel, hlen⟩, hlex⟩ := hB
  have H := eiAny_lex (md := .any) (P := P) (W := W) (I := I) hsel ss qs _ s a hlex h
  refine wp_region_any hm ?_
  have := eiAny_any (Q' := Q) G (fun s a' w' hw' (hL : ∀ w', I s w' → Q .normal a' w') => hL w' hw') _ _ _ _ _ hw H
  rw [hlen] at this
  exact this
end
section
variable {P : Program} {W : World}
/-- The worlds that have grown out of W, in which block X has these cells. -/
def OneBlock (W : World) (X : Nat) (T : TypeId) (cs : Array Value) (w : World) : Prop := Gr W w ∧ BlockAt w X cs T
theorem oneBlock_ghost (W : World) (X : Nat) (T : TypeId) : Ghost W (OneBlock W X T) := ⟨fun s w w' h g => ⟨h.1.trans g, h.2.gr g⟩, fun s w h => h.1⟩
theorem oneBlock_store {X : Nat} {T ty : TypeId} {cs : Array Value} {o : Nat} {v : Value} (hX : W.heap.size ≤ X) (ho : o < cs.size) (h1 : ∀ w : World, w.cell? ⟨X, o, none⟩ = some cs[o] → w.frozen? ⟨X, o, none⟩ = false → (storeVar ty ⟨X, o, none⟩ v).run P w = .ok () (w.setCell ⟨X, o, none⟩ v)) :
    StStep P (OneBlock W X T) cs ty ⟨X, o, none⟩ v (cs.setIfInBounds o v) := fun w ⟨hg, hb⟩ =>
  ⟨_, h1 w (by rw [block_cells]; simp) (block_frozen _ _ _ _ _), Gr.of (below_set hg.below hX v), inferInstance⟩
end
end Go.Proofs.YtgjdgafoidppaaaDoor
