/- A region that draws its order, whose operations read, compute, or call functions that only make new memory: walked once, in the order of the text. Conditions: each call returns one value in whatever grown world. -/
import Derived.WalkKit
import Derived.ProofKit
import Derived.Deep.QuietTactic
import Derived.BigQuiet
import Derived.WalkLawsBesides
import Derived.WalkSpells
import Derived.StillTailTactics
namespace Go.Proofs.YtgjdgafoidppaaaDoor
open Go.RowKit

/-- A world that has grown out of w. -/
structure Growth (w : World) where
  to : World
  below : Below w.heap.size w to
def grown (w : World) (g : Growth w) : World := g.to
def Gr (w w' : World) : Prop := ∃ g : Growth w, w' = grown w g
def Growth.zero (w : World) : Growth w := ⟨w, Below.refl _ _⟩
instance (w : World) : Nonempty (Growth w) := ⟨Growth.zero w⟩
theorem grown_below (w : World) (g : Growth w) : Below w.heap.size w (grown w g) := g.below
theorem Gr.of {w w' : World} (h : Below w.heap.size w w') : Gr w w' := ⟨⟨w', h⟩, rfl⟩
theorem Gr.below {w w' : World} (h : Gr w w') : Below w.heap.size w w' := by obtain ⟨g, rfl⟩ := h; exact g.below
theorem Gr.refl (w : World) : Gr w w := Gr.of (Below.refl _ _)
theorem below_trans {a b c : World} (h : Below a.heap.size a b) (k : Below b.heap.size b c) : Below a.heap.size a c := h.trans (k.mono h.size)
theorem below_alloc {a w : World} (h : Below a.heap.size a w) (o : Obj) : Below a.heap.size a (w.alloc o) := h.alloc h.size o
theorem below_set {a w : World} (h : Below a.heap.size a w) {b o : Nat} (hp : a.heap.size ≤ b) (u : Value) : Below a.heap.size a (w.setCell ⟨b, o, none⟩ u) := h.setCell (p := ⟨b, o, none⟩) hp u
theorem Gr.trans {a b c : World} (h : Gr a b) (k : Gr b c) : Gr a c := Gr.of (below_trans h.below k.below)
/-- A block that stands in a world. -/
class Old (b : Nat) (W : World) : Prop where
  lt : b < W.heap.size
/-- A world's number of blocks, as the walk writes it. -/
class SizeN (W : World) (n : outParam Nat) : Prop where
  eq : W.heap.size = n
instance (priority := low) sizeN_base (W : World) : SizeN W W.heap.size := ⟨rfl⟩
instance sizeN_alloc (W : World) (o : Obj) (n : Nat) [h : SizeN W n] : SizeN (W.alloc o) (n + 1) := ⟨by have := h.eq; simp [this]⟩
instance sizeN_set (W : World) (a : Addr) (v : Value) (n : Nat) [h : SizeN W n] : SizeN (W.setCell a v) n := ⟨by have := h.eq; simpa [World.setCell] using this⟩
instance sizeN_drew (W : World) (n : Nat) [h : SizeN W n] : SizeN W.drew n := ⟨h.eq⟩
instance old_new (W : World) (o : Obj) (n : Nat) [h : SizeN W n] : Old n (W.alloc o) := ⟨by have := h.eq; simp [this]⟩
instance (b : Nat) (W : World) (o : Obj) [h : Old b W] : Old b (W.alloc o) := ⟨by have := h.lt; simp; omega⟩
instance (b : Nat) (W : World) (g : Growth W) [h : Old b W] : Old b (grown W g) := ⟨Nat.lt_of_lt_of_le h.lt g.below.size⟩
instance (b : Nat) (W : World) (a : Addr) (v : Value) [h : Old b W] : Old b (W.setCell a v) := ⟨by have := h.lt; simpa [World.setCell] using this⟩
instance (b : Nat) (W : World) [h : Old b W] : Old b W.drew := ⟨h.lt⟩
theorem old_of_cell {b o : Nat} {W : World} {v : Value} (h : W.cell? ⟨b, o, none⟩ = some v) : Old b W := ⟨by
  rcases Nat.lt_or_ge b W.heap.size with h1 | h1
  · exact h1
  · simp [World.cell?, Array.getElem?_eq_none h1] at h⟩
@[go_sem] theorem grown_cells (W : World) (g : Growth W) (b o : Nat) [h : Old b W] : (grown W g).cell? ⟨b, o, none⟩ = W.cell? ⟨b, o, none⟩ := g.below.cell (p := ⟨b, o, none⟩) h.lt
@[go_sem] theorem grown_frozen (W : World) (g : Growth W) (b o : Nat) [h : Old b W] : (grown W g).frozen? ⟨b, o, none⟩ = W.frozen? ⟨b, o, none⟩ := g.below.frozen (p := ⟨b, o, none⟩) h.lt
@[go_sem] theorem alloc_cells (W : World) (ob : Obj) (b o : Nat) [h : Old b W] : (W.alloc ob).cell? ⟨b, o, none⟩ = W.cell? ⟨b, o, none⟩ := ((Below.refl _ W).alloc (Nat.le_refl _) ob).cell (p := ⟨b, o, none⟩) h.lt
@[go_sem] theorem alloc_frozen (W : World) (ob : Obj) (b o : Nat) [h : Old b W] : (W.alloc ob).frozen? ⟨b, o, none⟩ = W.frozen? ⟨b, o, none⟩ := ((Below.refl _ W).alloc (Nat.le_refl _) ob).frozen (p := ⟨b, o, none⟩) h.lt
theorem grown_lt (W : World) (g : Growth W) (b : Nat) [h : Old b W] : b < (grown W g).heap.size := Nat.lt_of_lt_of_le h.lt g.below.size
@[go_sem] theorem grown_ne0 (W : World) (g : Growth W) (b : Nat) [h : Old b W] : (b = (grown W g).heap.size) = False := by have := grown_lt W g b; simp; omega
@[go_sem] theorem grown_en0 (W : World) (g : Growth W) (b : Nat) [h : Old b W] : ((grown W g).heap.size = b) = False := by have := grown_lt W g b; simp; omega
@[go_sem] theorem grown_ne1 (W : World) (g : Growth W) (b : Nat) [h : Old b W] : (b = (grown W g).heap.size + 1) = False := by have := grown_lt W g b; simp; omega
@[go_sem] theorem grown_en1 (W : World) (g : Growth W) (b : Nat) [h : Old b W] : ((grown W g).heap.size + 1 = b) = False := by have := grown_lt W g b; simp; omega
@[go_sem] theorem grown_ne2 (W : World) (g : Growth W) (b : Nat) [h : Old b W] : (b = (grown W g).heap.size + 1 + 1) = False := by have := grown_lt W g b; simp; omega
@[go_sem] theorem grown_en2 (W : World) (g : Growth W) (b : Nat) [h : Old b W] : ((grown W g).heap.size + 1 + 1 = b) = False := by have := grown_lt W g b; simp; omega
@[go_sem] theorem grown_ne3 (W : World) (g : Growth W) (b : Nat) [h : Old b W] : (b = (grown W g).heap.size + 1 + 1 + 1) = False := by have := grown_lt W g b; simp; omega
@[go_sem] theorem grown_en3 (W : World) (g : Growth W) (b : Nat) [h : Old b W] : ((grown W g).heap.size + 1 + 1 + 1 = b) = False := by have := grown_lt W g b; simp; omega
@[go_sem] theorem grown_ne4 (W : World) (g : Growth W) (b : Nat) [h : Old b W] : (b = (grown W g).heap.size + 1 + 1 + 1 + 1) = False := by have := grown_lt W g b; simp; omega
@[go_sem] theorem grown_en4 (W : World) (g : Growth W) (b : Nat) [h : Old b W] : ((grown W g).heap.size + 1 + 1 + 1 + 1 = b) = False := by have := grown_lt W g b; simp; omega
theorem fresh_ne {W : World} {b : Nat} (hb : W.heap.size ≤ b) (c : Nat) [h : Old c W] : (c = b) = False := by have := h.lt; simp; omega
theorem fresh_en {W : World} {b : Nat} (hb : W.heap.size ≤ b) (c : Nat) [h : Old c W] : (b = c) = False := by have := h.lt; simp; omega
theorem fresh_le {W : World} {b : Nat} (hb : W.heap.size ≤ b) (c : Nat) [h : Old c W] : c ≤ b := by have := h.lt; omega
def Growth.comp {w : World} (g : Growth w) (k : Growth (grown w g)) : Growth w := ⟨k.to, below_trans g.below k.below⟩
theorem grown_grown (W : World) (g : Growth W) (k : Growth (grown W g)) : grown (grown W g) k = grown W (g.comp k) := rfl
def Growth.drew {w : World} (g : Growth w) : Growth w := ⟨g.to.drew, g.below.drew⟩
theorem grown_drew (W : World) (g : Growth W) : (grown W g).drew = grown W g.drew := rfl

section
variable {P : Program}
/-- ONE WALK IN THE ORDER OF THE TEXT: the class of the worlds that have grown out of w. -/
theorem wp_region_grow {id : Nat} {Q : Exit → Act → World → Prop} {a : Act} {w : World} {l : List Oper} (hm : P.follows .mixedOrders = true) (hB : Region.lexB .any l.toArray = true)
    (h : wpQuiet P l.toArray (fun w' => ∃ g : Growth w, w' = grown w g) (fun a' => ∀ g : Growth w, Q .normal a' (grown w g)) l a) : (Code.region id l.toArray true).wp P Q a w := by
  refine wp_region_quiet (C := fun w' => ∃ g : Growth w, w' = grown w g) hm hB ⟨⟨{ w with drawn := w.drawn + 1 }, (Below.refl _ _).drew⟩, rfl⟩ ?_
  have e : ∀ Q1 Q2 : Act → Prop, (∀ a, Q1 a → Q2 a) → ∀ (l1 : List Oper) (a : Act), wpQuiet P l.toArray (fun w' => ∃ g : Growth w, w' = grown w g) Q1 l1 a → wpQuiet P l.toArray (fun w' => ∃ g : Growth w, w' = grown w g) Q2 l1 a := by
    intro Q1 Q2 hq l1
    induction l1 with
    | nil => exact fun a h => hq a h
    | cons o r ih =>
      intro a h
      unfold wpQuiet at h ⊢
      split at h
      · rename_i hw; simp only [hw, if_true]; exact Oper.quiet_mono ih h
      · rename_i hw; simp only [hw]; exact ih _ h
  refine e _ _ ?_ _ _ (by simpa using h)
  rintro a' hq w' ⟨g, rfl⟩
  exact hq _
/-- A callee's contract, met in a grown world. -/
theorem grow_call {f : FuncId} {args : Array Value} {w : World} {g : Growth w} {v : Value}
    (h : Calls P f args (grown w g) fun e w' => e = .returned v ∧ Gr (grown w g) w') :
    Calls P f args (grown w g) fun e w'' => e = .returned v ∧ ∃ g' : Growth w, w'' = grown w g' :=
  h.mono fun _ _ ⟨he, hb⟩ => ⟨he, Gr.trans ⟨g, rfl⟩ hb⟩
theorem grow_call_same {f : FuncId} {args : Array Value} {w : World} {g : Growth w} {v : Value}
    (h : Calls P f args (grown w g) fun e w' => e = .returned v ∧ grown w g = w') :
    Calls P f args (grown w g) fun e w'' => e = .returned v ∧ ∃ g' : Growth w, w'' = grown w g' :=
  h.mono fun _ _ ⟨he, hb⟩ => ⟨he, g, hb.symm⟩
end

/-! A region that draws its order, in whose first n operations each reads, computes, or calls a function that only makes new memory, and whose other operations come one behind the other. -/
section
variable {P : Program} {ops : Array Oper} {md : Region.Mode} {C : World → Prop}
/-- The first n operations, in whatever order; behind them L. -/
def headAny (P : Program) (md : Region.Mode) (ops : Array Oper) (C : World → Prop) (n : Nat) (L : Array Bool → Act → Prop) : Nat → Array Bool → Act → Prop
  | 0, listed, a => L listed a
  | f + 1, listed, a => Region.ready md ops listed ≠ [] ∧ ∀ i ∈ Region.ready md ops listed, i < n ∧ qOp P ops C i (headAny P md ops C n L f (listed.setIfInBounds i true)) a
theorem headAny_any {n g : Nat} {L : Array Bool → Act → Prop} {Q' : Exit → Act → World → Prop} (hL : ∀ listed a w, C w → L listed a → wpAny P md ops Q' g listed a w) :
    ∀ (f : Nat) (listed : Array Bool) (a : Act) (w : World), C w → headAny P md ops C n L f listed a → wpAny P md ops Q' (f + g) listed a w
  | 0, listed, a, w, hw, h => by rw [Nat.zero_add]; exact hL _ _ _ hw h
  | f + 1, listed, a, w, hw, h => by
    rw [show f + 1 + g = (f + g) + 1 by omega]
    exact ⟨fun h0 => absurd h0 h.1, fun i hi => wpOp_of_qOp hw (fun a' w' hw' h' => headAny_any hL f _ a' w' hw' h') (h.2 i hi).2⟩
theorem headAny_first {n i : Nat} {oi : Oper} {v : Value} {L : Array Bool → Act → Prop} (hi : ops[i]? = some oi) (hsel : ∀ (j : Nat) (o : Oper) cs b, ops[j]? = some o → o.op ≠ .select cs b)
    (hs : Region.sinkB md ops n = true) (hc : Region.chainB md ops n = true) (hn : n < ops.size) (hin : i < n)
    (hdone : ∀ listed a, L listed a → ∀ j ∈ Region.ready md ops listed, n ≤ j) :
    ∀ (f : Nat) (listed : Array Bool) (a : Act), HeadInv md ops n listed →
      (∀ j oj, ops[j]? = some oj → j ≠ i → listed.getD j true = false → (∀ e ∈ oj.after, Region.binds md e = true → e.on ≠ i) → oi.apart ops oj = true) →
      i ∈ Region.ready md ops listed → YieldsIn P ops C oi v a →
      headAny P md ops C n L f (listed.setIfInBounds i true) (a.put oi.dst v) → headAny P md ops C n L (f + 1) listed a := by
  intro f
  induction f with
  | zero =>
    intro listed a inv _ hr hy H
    refine ⟨(fun h => by rw [h] at hr; cases hr), fun j hj => ?_⟩
    have hjn : j < n := (Nat.lt_or_ge j n).elim id fun h => absurd hj (tail_waits hs hc hn inv _ i rfl hin (mem_ready.1 hr).1 j h)
    by_cases hji : j = i
    · subst hji; exact ⟨hjn, hy.qOp hi H⟩
    · have := hdone _ _ H j (ready_mono hj hji)
      omega
  | succ f ih =>
    intro listed a inv hfree hr hy H
    have hun := (mem_ready.1 hr).1
    refine ⟨(fun h => by rw [h] at hr; cases hr), fun j hj => ?_⟩
    have hjn : j < n := (Nat.lt_or_ge j n).elim id fun h => absurd hj (tail_waits hs hc hn inv _ i rfl hin hun j h)
    refine ⟨hjn, ?_⟩
    by_cases hji : j = i
    · subst hji; exact hy.qOp hi H
    have h1 := (H.2 j (ready_mono hj hji)).2
    obtain ⟨hjun, oj, hoj, hall⟩ := mem_ready.1 hj
    have hnot : ∀ e ∈ oj.after, Region.binds md e = true → e.on ≠ i := fun e he hb heq => by
      have h1 := hall e he hb
      rw [heq, getD_both hun] at h1
      cases h1
    have h2 := qOp_put hoj (hfree j oj hoj hji hjun hnot) (fun cs b => hsel i oi cs b hi) (fun cs b => hsel j oj cs b hoj) hy h1
    have hfree' : ∀ k ok, ops[k]? = some ok → k ≠ i → (listed.setIfInBounds j true).getD k true = false →
        (∀ e ∈ ok.after, Region.binds md e = true → e.on ≠ i) → oi.apart ops ok = true := fun k ok hk hki hu hno => by
      refine hfree k ok hk hki ?_ hno
      by_cases hjk : j = k
      · subst hjk; exact hjun
      · rw [getD_set_ne true hjk] at hu; exact hu
    refine qOp_mono (fun a' h3 => ih (listed.setIfInBounds j true) a' (inv.set hj hjn) hfree' (ready_mono hr (Ne.symm hji)) h3.1 ?_) h2
    rw [Array.setIfInBounds_comm _ _ hji]
    exact h3.2
theorem headAny_lex {n g : Nat} {Lq : Act → Prop} (hsel : Region.noSelect ops = true) (hs : Region.sinkB md ops n = true) (hc : Region.chainB md ops n = true) (hn : n < ops.size) :
    ∀ (l : List Oper) (k : Nat) (listed : Array Bool) (a : Act), (∀ j, j < l.length → l[j]? = ops[k + j]?) → k + l.length = n → HeadInv md ops n listed →
    Region.lexHead md ops g l.length k listed = true → wpQuiet P ops C Lq l a →
    headAny P md ops C n (fun listed' a' => Region.seqB md ops g n listed' = true ∧ Lq a') l.length listed a
  | [], k, listed, a, _, hk, _, hB, h => by
    have : k = n := by simpa using hk
    subst this
    exact ⟨by simpa [Region.lexHead] using hB, h⟩
  | o :: l, k, listed, a, hl, hk, inv, hB, h => by
    have h0 : ops[k]? = some o := by simpa using (hl 0 (by simp)).symm
    simp only [List.length_cons, Region.lexHead, Bool.and_eq_true] at hB
    obtain ⟨⟨hr, hf⟩, hB'⟩ := hB
    have hkn : k < n := by simp only [List.length_cons] at hk; omega
    have hr' : k ∈ Region.ready md ops listed := by simpa using hr
    have hst : qOp P ops C k (wpQuiet P ops C Lq l) a := by unfold qOp; simp only [h0]; exact h
    obtain ⟨v, hy, hK⟩ := yieldsIn_of_qOp h0 hst
    exact headAny_first h0 (Region.noSelect_spec hsel) hs hc hn hkn (fun listed' a' hL => seqB_ready hL.1) l.length listed a inv (Region.free_spec h0 hf) hr' hy
      (headAny_lex hsel hs hc hn l (k + 1) _ _ (fun j hj => by have := hl (j + 1) (by simp; omega); simpa [Nat.add_assoc, Nat.add_comm 1 j] using this) (by simp only [List.length_cons] at hk; omega) (inv.set hr' hkn) hB' hK)
theorem wp_region_class_tail {id : Nat} {Q : Exit → Act → World → Prop} {a : Act} {w : World} {l : List Oper} (n : Nat) (hm : P.follows .mixedOrders = true) (hB : Region.lexTailB .any l.toArray n = true)
    (hC : C { w with drawn := w.drawn + 1 })
    (h : wpQuiet P l.toArray C (fun a' => ∀ w', C w' → wpList P l.toArray Q (l.drop n) a' w') (l.take n) a) : (Code.region id l.toArray true).wp P Q a w := by
  simp only [Region.lexTailB, Bool.and_eq_true, decide_eq_true_eq] at hB
  obtain ⟨⟨⟨⟨hsel, hn⟩, hs⟩, hc⟩, hlex⟩ := hB
  have htl : (l.take n).length = n := by simp at hn ⊢; omega
  have hdl : (l.drop n).length = l.toArray.size - n := by simp
  have inv0 : HeadInv .any l.toArray n (Array.replicate l.toArray.size false) :=
    ⟨by simp, (fun j oj _ hl => by rw [getD_replicate_false] at hl; cases hl), fun t _ ht => getD_in (by simpa using ht) (getD_replicate_false _ _)⟩
  have H := headAny_lex (md := .any) (g := l.toArray.size - n) hsel hs hc hn (l.take n) 0 _ a (fun j hj => by
    have hj' : j < n := by rw [htl] at hj; exact hj
    simp [hj']) (by simpa using htl) inv0 (by rw [htl]; exact hlex) h
  refine wp_region_any hm ?_
  have := headAny_any (Q' := Q) (g := l.toArray.size - n) (fun listed a' w' hw' hL => by
    have := wpAny_of_seq (md := .any) (Q' := Q) (l.drop n) n listed a' w' (fun j => by simp [List.getElem?_drop]) (by rw [hdl]; exact hL.1) (hL.2 w' hw')
    rwa [hdl] at this) _ _ _ _ hC H
  rw [htl, show n + (l.toArray.size - n) = l.toArray.size by simp at hn ⊢; omega] at this
  exact this
theorem quiet_impl {Q1 Q2 : Act → Prop} (hq : ∀ a, Q1 a → Q2 a) : ∀ (l : List Oper) (a : Act), wpQuiet P ops C Q1 l a → wpQuiet P ops C Q2 l a
  | [], _, h => hq _ h
  | o :: r, a, h => by
    unfold wpQuiet at h ⊢
    split at h
    · rename_i hw; simp only [hw, if_true]; exact Oper.quiet_mono (quiet_impl hq r) h
    · rename_i hw; simp only [hw]; exact quiet_impl hq r _ h
/-- The same at the worlds that have grown out of w. -/
theorem wp_region_grow_tail {id : Nat} {Q : Exit → Act → World → Prop} {a : Act} {w : World} {l : List Oper} (n : Nat) (hm : P.follows .mixedOrders = true) (hB : Region.lexTailB .any l.toArray n = true)
    (h : wpQuiet P l.toArray (fun w' => ∃ g : Growth w, w' = grown w g) (fun a' => ∀ g : Growth w, wpList P l.toArray Q (l.drop n) a' (grown w g)) (l.take n) a) : (Code.region id l.toArray true).wp P Q a w := by
  refine wp_region_class_tail (C := fun w' => ∃ g : Growth w, w' = grown w g) n hm hB ⟨⟨{ w with drawn := w.drawn + 1 }, (Below.refl _ _).drew⟩, rfl⟩ (quiet_impl ?_ _ _ h)
  rintro a' hq w' ⟨g, rfl⟩
  exact hq _
end
end Go.Proofs.YtgjdgafoidppaaaDoor
