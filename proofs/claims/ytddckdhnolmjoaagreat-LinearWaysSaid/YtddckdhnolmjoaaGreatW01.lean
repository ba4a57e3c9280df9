/- A region that draws its order, whose operations read, compute, or call functions that only make new memory: walked once, in the order of the .. -/
import Derived.WalkKit
import Derived.ProofKit
import Derived.Deep.QuietTactic
import Derived.BigQuiet
import Derived.WalkLawsBesides
import Derived.WalkSpells
import Derived.StillTailTactics
import Derived.Maps.Own
import Derived.Test.YtddckdhnolmjoaaGreatRows
import Derived.Lib.Hide
import Derived.Lib.OthersKept
import Derived.Laws.RangeString
import Derived.LoopTactic
import Derived.Maps.OwnOps
set_option linter.unusedVariables false
set_option linter.unusedSimpArgs false
set_option linter.unnecessarySimpa false
set_option maxRecDepth 100000
set_option maxHeartbeats 8000000
namespace Go.Proofs.YtddckdhnolmjoaaGreat
open Go.RowKit
structure Growth (w : World) where
 toW : World
 below : Below w.heap.size w toW
def grown (w : World) (g : Growth w) : World := g.toW
def Gr (w w' : World) : Prop := ∃ g : Growth w, w' = grown w g
def Growth.zero (w : World) : Growth w := ⟨w, Below.refl _ _⟩
instance (w : World) : Nonempty (Growth w) := ⟨Growth.zero w⟩
theorem grown_below (w : World) (g : Growth w) : Below w.heap.size w (grown w g) := g.below
theorem Gr.of {w w' : World} (h : Below w.heap.size w w') : Gr w w' := ⟨⟨w', h⟩, rfl⟩
theorem Gr.below {w w' : World} (h : Gr w w') : Below w.heap.size w w' := by obtain ⟨g, rfl⟩ := h; exact g.below
theorem Gr.refl (w : World) : Gr w w := Gr.of (Below.refl _ _)
theorem below_trans {a b c : World} (h : Below a.heap.size a b) (k : Below b.heap.size b c) : Below a.heap.size a c := h.trans (k.mono h.size)
theorem below_alloc {a w : World} (h : Below a.heap.size a w) (o : Obj) : Below a.heap.size a (w.alloc o) := h.alloc h.size o
theorem below_set {a w : World} (h : Below a.heap.size a w) {b o : Nat} (hp : a.heap.size ≤ b) (u : Value) : Below a.heap.size a (w.setCell ⟨b, o, none⟩ u) := h.setCell (p := ⟨b, o, none⟩) hp u
theorem Gr.trans {a b c : World} (h : Gr a b) (k : Gr b c) : Gr a c := Gr.of (below_trans h.below k.below)
class Old (b : Nat) (W : World) : Prop where
 lt : b < W.heap.size
class SizeN (W : World) (n : outParam Nat) : Prop where
 eq : W.heap.size = n
instance (priority := low) sizeN_base (W : World) : SizeN W W.heap.size := ⟨rfl⟩
instance sizeN_alloc (W : World) (o : Obj) (n : Nat) [h : SizeN W n] : SizeN (W.alloc o) (n + 1) := ⟨by have := h.eq; simp [this]⟩
instance sizeN_set (W : World) (a : Addr) (v : Value) (n : Nat) [h : SizeN W n] : SizeN (W.setCell a v) n := ⟨by have := h.eq; simpa [World.setCell] using this⟩
instance sizeN_drew (W : World) (n : Nat) [h : SizeN W n] : SizeN W.drew n := ⟨h.eq⟩
instance old_new (W : World) (o : Obj) (n : Nat) [h : SizeN W n] : Old n (W.alloc o) := ⟨by have := h.eq; simp [this]⟩
instance (b : Nat) (W : World) (o : Obj) [h : Old b W] : Old b (W.alloc o) := ⟨by have := h.lt; simp; omega⟩
instance (b : Nat) (W : World) (g : Growth W) [h : Old b W] : Old b (grown W g) := ⟨Nat.lt_of_lt_of_le h.lt g.below.size⟩
instance (b : Nat) (W : World) (a : Addr) (v : Value) [h : Old b W] : Old b (W.setCell a v) := ⟨by have := h.lt; simpa [World.setCell] using this⟩
instance (b : Nat) (W : World) [h : Old b W] : Old b W.drew := ⟨h.lt⟩
theorem old_of_cell {b o : Nat} {W : World} {v : Value} (h : W.cell? ⟨b, o, none⟩ = some v) : Old b W := ⟨by
 rcases Nat.lt_or_ge b W.heap.size with h1 | h1
 ·exact h1
 ·simp [World.cell?, Array.getElem?_eq_none h1] at h⟩
@[go_sem] theorem grown_cells (W : World) (g : Growth W) (b o : Nat) [h : Old b W] : (grown W g).cell? ⟨b, o, none⟩ = W.cell? ⟨b, o, none⟩ := g.below.cell (p := ⟨b, o, none⟩) h.lt
@[go_sem] theorem grown_frozen (W : World) (g : Growth W) (b o : Nat) [h : Old b W] : (grown W g).frozen? ⟨b, o, none⟩ = W.frozen? ⟨b, o, none⟩ := g.below.frozen (p := ⟨b, o, none⟩) h.lt
@[go_sem] theorem alloc_cells (W : World) (ob : Obj) (b o : Nat) [h : Old b W] : (W.alloc ob).cell? ⟨b, o, none⟩ = W.cell? ⟨b, o, none⟩ := ((Below.refl _ W).alloc (Nat.le_refl _) ob).cell (p := ⟨b, o, none⟩) h.lt
@[go_sem] theorem alloc_frozen (W : World) (ob : Obj) (b o : Nat) [h : Old b W] : (W.alloc ob).frozen? ⟨b, o, none⟩ = W.frozen? ⟨b, o, none⟩ := ((Below.refl _ W).alloc (Nat.le_refl _) ob).frozen (p := ⟨b, o, none⟩) h.lt
theorem grown_lt (W : World) (g : Growth W) (b : Nat) [h : Old b W] : b < (grown W g).heap.size := Nat.lt_of_lt_of_le h.lt g.below.size
@[go_sem] theorem grown_ne0 (W : World) (g : Growth W) (b : Nat) [h : Old b W] : (b = (grown W g).heap.size) = False := by have := grown_lt W g b; simp; omega
@[go_sem] theorem grown_en0 (W : World) (g : Growth W) (b : Nat) [h : Old b W] : ((grown W g).heap.size = b) = False := by have := grown_lt W g b; simp; omega
@[go_sem] theorem grown_ne1 (W : World) (g : Growth W) (b : Nat) [h : Old b W] : (b = (grown W g).heap.size + 1) = False := by have := grown_lt W g b; simp; omega
@[go_sem] theorem grown_en1 (W : World) (g : Growth W) (b : Nat) [h : Old b W] : ((grown W g).heap.size + 1 = b) = False := by have := grown_lt W g b; simp; omega
@[go_sem] theorem grown_ne2 (W : World) (g : Growth W) (b : Nat) [h : Old b W] : (b = (grown W g).heap.size + 1 + 1) = False := by have := grown_lt W g b; simp; omega
@[go_sem] theorem grown_en2 (W : World) (g : Growth W) (b : Nat) [h : Old b W] : ((grown W g).heap.size + 1 + 1 = b) = False := by have := grown_lt W g b; simp; omega
@[go_sem] theorem grown_ne3 (W : World) (g : Growth W) (b : Nat) [h : Old b W] : (b = (grown W g).heap.size + 1 + 1 + 1) = False := by have := grown_lt W g b; simp; omega
@[go_sem] theorem grown_en3 (W : World) (g : Growth W) (b : Nat) [h : Old b W] : ((grown W g).heap.size + 1 + 1 + 1 = b) = False := by have := grown_lt W g b; simp; omega
@[go_sem] theorem grown_ne4 (W : World) (g : Growth W) (b : Nat) [h : Old b W] : (b = (grown W g).heap.size + 1 + 1 + 1 + 1) = False := by have := grown_lt W g b; simp; omega
@[go_sem] theorem grown_en4 (W : World) (g : Growth W) (b : Nat) [h : Old b W] : ((grown W g).heap.size + 1 + 1 + 1 + 1 = b) = False := by have := grown_lt W g b; simp; omega
theorem fresh_ne {W : World} {b : Nat} (hb : W.heap.size ≤ b) (c : Nat) [h : Old c W] : (c = b) = False := by have := h.lt; simp; omega
theorem fresh_en {W : World} {b : Nat} (hb : W.heap.size ≤ b) (c : Nat) [h : Old c W] : (b = c) = False := by have := h.lt; simp; omega
theorem fresh_le {W : World} {b : Nat} (hb : W.heap.size ≤ b) (c : Nat) [h : Old c W] : c ≤ b := by have := h.lt; omega
def Growth.drew {w : World} (g : Growth w) : Growth w := ⟨g.toW.drew, g.below.drew⟩
section
variable {P : Program}
theorem wp_region_grow {id : Nat} {Q : Exit → Act → World → Prop} {a : Act} {w : World} {l : List Oper} (hm : P.follows .mixedOrders = true) (hB : Region.lexB .any l.toArray = true)
  (h : wpQuiet P l.toArray (fun w' => ∃ g : Growth w, w' = grown w g) (fun a' => ∀ g : Growth w, Q .normal a' (grown w g)) l a) : (Code.region id l.toArray true).wp P Q a w := by
 refine wp_region_quiet (C := fun w' => ∃ g : Growth w, w' = grown w g) hm hB ⟨⟨{ w with drawn := w.drawn + 1 }, (Below.refl _ _).drew⟩, rfl⟩ ?_
 have e : ∀ Q1 Q2 : Act → Prop, (∀ a, Q1 a → Q2 a) → ∀ (l1 : List Oper) (a : Act), wpQuiet P l.toArray (fun w' => ∃ g : Growth w, w' = grown w g) Q1 l1 a → wpQuiet P l.toArray (fun w' => ∃ g : Growth w, w' = grown w g) Q2 l1 a := by
  intro Q1 Q2 hq l1
  induction l1 with
  | nil => exact fun a h => hq a h
  | cons o r ih =>
   intro a h
   unfold wpQuiet at h ⊢
   split at h
   ·rename_i hw; simp only [hw, if_true]; exact Oper.quiet_mono ih h
   ·rename_i hw; simp only [hw]; exact ih _ h
 refine e _ _ ?_ _ _ (by simpa using h)
 rintro a' hq w' ⟨g, rfl⟩
 exact hq _
theorem grow_call {f : FuncId} {args : Array Value} {w : World} {g : Growth w} {v : Value}
  (h : Calls P f args (grown w g) fun e w' => e = .returned v ∧ Gr (grown w g) w') :
  Calls P f args (grown w g) fun e w'' => e = .returned v ∧ ∃ g' : Growth w, w'' = grown w g' :=
 h.mono fun _ _ ⟨he, hb⟩ => ⟨he, Gr.trans ⟨g, rfl⟩ hb⟩
end

/-! A region that draws its order, in whose first n operations each reads, computes, or calls a function that only makes new memory, and whose other operations come one behind the other. -/
section
variable {P : Program} {ops : Array Oper} {md : Region.Mode} {C : World → Prop}
def headAny (P : Program) (md : Region.Mode) (ops : Array Oper) (C : World → Prop) (n : Nat) (L : Array Bool → Act → Prop) : Nat → Array Bool → Act → Prop
 | 0, listed, a => L listed a
 | f + 1, listed, a => Region.ready md ops listed ≠ [] ∧ ∀ i ∈ Region.ready md ops listed, i < n ∧ qOp P ops C i (headAny P md ops C n L f (listed.setIfInBounds i true)) a
theorem headAny_any {n g : Nat} {L : Array Bool → Act → Prop} {Q' : Exit → Act → World → Prop} (hL : ∀ listed a w, C w → L listed a → wpAny P md ops Q' g listed a w) :
  ∀ (f : Nat) (listed : Array Bool) (a : Act) (w : World), C w → headAny P md ops C n L f listed a → wpAny P md ops Q' (f + g) listed a w
 | 0, listed, a, w, hw, h => by rw [Nat.zero_add]; exact hL _ _ _ hw h
 | f + 1, listed, a, w, hw, h => by
  rw [show f + 1 + g = (f + g) + 1 by omega]
  exact ⟨fun h0 => absurd h0 h.1, fun i hi => wpOp_of_qOp hw (fun a' w' hw' h' => headAny_any hL f _ a' w' hw' h') (h.2 i hi).2⟩
theorem headAny_first {n i : Nat} {oi : Oper} {v : Value} {L : Array Bool → Act → Prop} (hi : ops[i]? = some oi) (hsel : ∀ (j : Nat) (o : Oper) cs b, ops[j]? = some o → o.op ≠ .select cs b)
  (hs : Region.sinkB md ops n = true) (hc : Region.chainB md ops n = true) (hn : n < ops.size) (hin : i < n)
  (hdone : ∀ listed a, L listed a → ∀ j ∈ Region.ready md ops listed, n ≤ j) :
  ∀ (f : Nat) (listed : Array Bool) (a : Act), HeadInv md ops n listed →
   (∀ j oj, ops[j]? = some oj → j ≠ i → listed.getD j true = false → (∀ e ∈ oj.after, Region.binds md e = true → e.on ≠ i) → oi.apart ops oj = true) →
   i ∈ Region.ready md ops listed → YieldsIn P ops C oi v a →
   headAny P md ops C n L f (listed.setIfInBounds i true) (a.put oi.dst v) → headAny P md ops C n L (f + 1) listed a := by
 intro f
 induction f with
 | zero =>
  intro listed a inv _ hr hy H
  refine ⟨(fun h => by rw [h] at hr; cases hr), fun j hj => ?_⟩
  have hjn : j < n := (Nat.lt_or_ge j n).elim id fun h => absurd hj (tail_waits hs hc hn inv _ i rfl hin (mem_ready.1 hr).1 j h)
  by_cases hji : j = i
  ·subst hji; exact ⟨hjn, hy.qOp hi H⟩
  ·have := hdone _ _ H j (ready_mono hj hji)
   omega
 | succ f ih =>
  intro listed a inv hfree hr hy H
  have hun := (mem_ready.1 hr).1
  refine ⟨(fun h => by rw [h] at hr; cases hr), fun j hj => ?_⟩
  have hjn : j < n := (Nat.lt_or_ge j n).elim id fun h => absurd hj (tail_waits hs hc hn inv _ i rfl hin hun j h)
  refine ⟨hjn, ?_⟩
  by_cases hji : j = i
  ·subst hji; exact hy.qOp hi H
  have h1 := (H.2 j (ready_mono hj hji)).2
  obtain ⟨hjun, oj, hoj, hall⟩ := mem_ready.1 hj
  have hnot : ∀ e ∈ oj.after, Region.binds md e = true → e.on ≠ i := fun e he hb heq => by
   have h1 := hall e he hb
   rw [heq, getD_both hun] at h1
   cases h1
  have h2 := qOp_put hoj (hfree j oj hoj hji hjun hnot) (fun cs b => hsel i oi cs b hi) (fun cs b => hsel j oj cs b hoj) hy h1
  have hfree' : ∀ k ok, ops[k]? = some ok → k ≠ i → (listed.setIfInBounds j true).getD k true = false →
    (∀ e ∈ ok.after, Region.binds md e = true → e.on ≠ i) → oi.apart ops ok = true := fun k ok hk hki hu hno => by
   refine hfree k ok hk hki ?_ hno
   by_cases hjk : j = k
   ·subst hjk; exact hjun
   ·rw [getD_set_ne true hjk] at hu; exact hu
  refine qOp_mono (fun a' h3 => ih (listed.setIfInBounds j true) a' (inv.set hj hjn) hfree' (ready_mono hr (Ne.symm hji)) h3.1 ?_) h2
  rw [Array.setIfInBounds_comm _ _ hji]
  exact h3.2
theorem headAny_lex {n g : Nat} {Lq : Act → Prop} (hsel : Region.noSelect ops = true) (hs : Region.sinkB md ops n = true) (hc : Region.chainB md ops n = true) (hn : n < ops.size) :
  ∀ (l : List Oper) (k : Nat) (listed : Array Bool) (a : Act), (∀ j, j < l.length → l[j]? = ops[k + j]?) → k + l.length = n → HeadInv md ops n listed →
  Region.lexHead md ops g l.length k listed = true → wpQuiet P ops C Lq l a →
  headAny P md ops C n (fun listed' a' => Region.seqB md ops g n listed' = true ∧ Lq a') l.length listed a
 | [], k, listed, a, _, hk, _, hB, h => by
  have : k = n := by simpa using hk
  subst this
  exact ⟨by simpa [Region.lexHead] using hB, h⟩
 | o :: l, k, listed, a, hl, hk, inv, hB, h => by
  have h0 : ops[k]? = some o := by simpa using (hl 0 (by simp)).symm
  simp only [List.length_cons, Region.lexHead, Bool.and_eq_true] at hB
  obtain ⟨⟨hr, hf⟩, hB'⟩ := hB
  have hkn : k < n := by simp only [List.length_cons] at hk; omega
  have hr' : k ∈ Region.ready md ops listed := by simpa using hr
  have hst : qOp P ops C k (wpQuiet P ops C Lq l) a := by unfold qOp; simp only [h0]; exact h
  obtain ⟨v, hy, hK⟩ := yieldsIn_of_qOp h0 hst
  exact headAny_first h0 (Region.noSelect_spec hsel) hs hc hn hkn (fun listed' a' hL => seqB_ready hL.1) l.length listed a inv (Region.free_spec h0 hf) hr' hy
   (headAny_lex hsel hs hc hn l (k + 1) _ _ (fun j hj => by have := hl (j + 1) (by simp; omega); simpa [Nat.add_assoc, Nat.add_comm 1 j] using this) (by simp only [List.length_cons] at hk; omega) (inv.set hr' hkn) hB' hK)
theorem wp_region_class_tail {id : Nat} {Q : Exit → Act → World → Prop} {a : Act} {w : World} {l : List Oper} (n : Nat) (hm : P.follows .mixedOrders = true) (hB : Region.lexTailB .any l.toArray n = true)
  (hC : C { w with drawn := w.drawn + 1 })
  (h : wpQuiet P l.toArray C (fun a' => ∀ w', C w' → wpList P l.toArray Q (l.drop n) a' w') (l.take n) a) : (Code.region id l.toArray true).wp P Q a w := by
 simp only [Region.lexTailB, Bool.and_eq_true, decide_eq_true_eq] at hB
 obtain ⟨⟨⟨⟨hsel, hn⟩, hs⟩, hc⟩, hlex⟩ := hB
 have htl : (l.take n).length = n := by simp at hn ⊢; omega
 have hdl : (l.drop n).length = l.toArray.size - n := by simp
 have inv0 : HeadInv .any l.toArray n (Array.replicate l.toArray.size false) :=
  ⟨by simp, (fun j oj _ hl => by rw [getD_replicate_false] at hl; cases hl), fun t _ ht => getD_in (by simpa using ht) (getD_replicate_false _ _)⟩
 have H := headAny_lex (md := .any) (g := l.toArray.size - n) hsel hs hc hn (l.take n) 0 _ a (fun j hj => by
  have hj' : j < n := by rw [htl] at hj; exact hj
  simp [hj']) (by simpa using htl) inv0 (by rw [htl]; exact hlex) h
 refine wp_region_any hm ?_
 have := headAny_any (Q' := Q) (g := l.toArray.size - n) (fun listed a' w' hw' hL => by
  have := wpAny_of_seq (md := .any) (Q' := Q) (l.drop n) n listed a' w' (fun j => by simp [List.getElem?_drop]) (by rw [hdl]; exact hL.1) (hL.2 w' hw')
  rwa [hdl] at this) _ _ _ _ hC H
 rw [htl, show n + (l.toArray.size - n) = l.toArray.size by simp at hn ⊢; omega] at this
 exact this
theorem quiet_impl {Q1 Q2 : Act → Prop} (hq : ∀ a, Q1 a → Q2 a) : ∀ (l : List Oper) (a : Act), wpQuiet P ops C Q1 l a → wpQuiet P ops C Q2 l a
 | [], _, h => hq _ h
 | o :: r, a, h => by
  unfold wpQuiet at h ⊢
  split at h
  ·rename_i hw; simp only [hw, if_true]; exact Oper.quiet_mono (quiet_impl hq r) h
  ·rename_i hw; simp only [hw]; exact quiet_impl hq r _ h
theorem wp_region_grow_tail {id : Nat} {Q : Exit → Act → World → Prop} {a : Act} {w : World} {l : List Oper} (n : Nat) (hm : P.follows .mixedOrders = true) (hB : Region.lexTailB .any l.toArray n = true)
  (h : wpQuiet P l.toArray (fun w' => ∃ g : Growth w, w' = grown w g) (fun a' => ∀ g : Growth w, wpList P l.toArray Q (l.drop n) a' (grown w g)) (l.take n) a) : (Code.region id l.toArray true).wp P Q a w := by
 refine wp_region_class_tail (C := fun w' => ∃ g : Growth w, w' = grown w g) n hm hB ⟨⟨{ w with drawn := w.drawn + 1 }, (Below.refl _ _).drew⟩, rfl⟩ (quiet_impl ?_ _ _ h)
 rintro a' hq w' ⟨g, rfl⟩
 exact hq _
end
theorem hd_ {p : Prop} (h : p) : Go.RowKit.Hid p := h
theorem mcs {α : Type _} {a : α} {l : List α} : a ∈ a :: l := List.mem_cons_self
theorem stA {α : Type _} {l : List α} {i : Nat} {a : α} : l.toArray.setIfInBounds i a = (l.set i a).toArray := List.setIfInBounds_toArray _ _ _
end Go.Proofs.YtddckdhnolmjoaaGreat
namespace Go.Proofs.YtddckdhnolmjoaaGreat
open Go.RowKit Go.MapKept
section
variable {β γ : Type}
def getK : List (Int × β) → Int → Option β
 | [], _ => none
 | (a, x) :: r, k => if a = k then some x else getK r k
def putK : List (Int × β) → Int → β → List (Int × β)
 | [], k, v => [(k, v)]
 | (a, x) :: r, k, v => if k < a then (k, v) :: (a, x) :: r else if k = a then (k, v) :: r else (a, x) :: putK r k v
def delK (L : List (Int × β)) (k : Int) : List (Int × β) := L.filter fun p => p.1 != k
def SortK (L : List (Int × β)) : Prop := L.Pairwise fun x y => x.1 < y.1
theorem getK_mem {L : List (Int × β)} (hs : SortK L) {k : Int} {v : β} : getK L k = some v ↔ (k, v) ∈ L := by
 induction L with
 | nil => simp [getK]
 | cons p r ih =>
  obtain ⟨a, x⟩ := p
  have h1 := List.pairwise_cons.1 hs
  simp only [getK, List.mem_cons, Prod.mk.injEq]
  by_cases h : a = k
  ·subst h
   rw [if_pos rfl]
   constructor
   ·rintro ⟨⟩; exact .inl ⟨rfl, rfl⟩
   ·rintro (⟨_, rfl⟩ | h2)
    ·rfl
    ·have := h1.1 _ h2; simp at this
  ·rw [if_neg h, ih h1.2]
   constructor
   ·exact .inr
   ·rintro (⟨rfl, _⟩ | h2)
    ·exact absurd rfl h
    ·exact h2
theorem getK_none {L : List (Int × β)} {k : Int} : getK L k = none ↔ ∀ p ∈ L, p.1 ≠ k := by
 induction L with
 | nil => simp [getK]
 | cons p r ih =>
  obtain ⟨a, x⟩ := p
  simp only [getK, List.forall_mem_cons]
  by_cases h : a = k
  ·rw [if_pos h]; simp [h]
  ·rw [if_neg h, ih]; simp [h]
theorem mem_putK {L : List (Int × β)} {k : Int} {v : β} (hs : SortK L) (p : Int × β) : p ∈ putK L k v ↔ p = (k, v) ∨ (p ∈ L ∧ p.1 ≠ k) := by
 induction L with
 | nil => simp [putK]
 | cons q r ih =>
  obtain ⟨a, x⟩ := q
  have h1 := List.pairwise_cons.1 hs
  unfold putK
  split
  ·rename_i hlt
   simp only [List.mem_cons]
   constructor
   ·rintro (h | h | h)
    ·exact .inl h
    ·subst h; exact .inr ⟨.inl rfl, by simp; omega⟩
    ·have := h1.1 _ h; exact .inr ⟨.inr h, by simp at this; omega⟩
   ·rintro (h | ⟨h | h, _⟩)
    ·exact .inl h
    ·exact .inr (.inl h)
    ·exact .inr (.inr h)
  ·split
   ·rename_i h0 he
    subst he
    simp only [List.mem_cons]
    constructor
    ·rintro (h | h)
     ·exact .inl h
     ·have := h1.1 _ h; exact .inr ⟨.inr h, by simp at this; omega⟩
    ·rintro (h | ⟨h | h, hn⟩)
     ·exact .inl h
     ·subst h; exact absurd rfl hn
     ·exact .inr h
   ·rename_i h0 he
    simp only [List.mem_cons, ih h1.2]
    constructor
    ·rintro (h | h | h)
     ·subst h; exact .inr ⟨.inl rfl, fun e => he e.symm⟩
     ·exact .inl h
     ·exact .inr ⟨.inr h.1, h.2⟩
    ·rintro (h | ⟨h | h, hn⟩)
     ·exact .inr (.inl h)
     ·exact .inl h
     ·exact .inr (.inr ⟨h, hn⟩)
theorem sort_putK {L : List (Int × β)} {k : Int} {v : β} (hs : SortK L) : SortK (putK L k v) := by
 induction L with
 | nil => simp [putK, SortK]
 | cons q r ih =>
  obtain ⟨a, x⟩ := q
  have h1 := List.pairwise_cons.1 hs
  unfold putK
  split
  ·rename_i hlt
   refine List.pairwise_cons.2 ⟨fun p hp => ?_, hs⟩
   rcases List.mem_cons.1 hp with rfl | hp
   ·exact hlt
   ·have := h1.1 _ hp; simp at this ⊢; omega
  ·split
   ·rename_i h0 he
    subst he
    exact List.pairwise_cons.2 ⟨h1.1, h1.2⟩
   ·rename_i h0 he
    refine List.pairwise_cons.2 ⟨fun p hp => ?_, ih h1.2⟩
    rcases (mem_putK h1.2 p).1 hp with rfl | ⟨hp, _⟩
    ·simp; omega
    ·exact h1.1 _ hp
theorem sort_delK {L : List (Int × β)} {k : Int} (hs : SortK L) : SortK (delK L k) := hs.filter _
theorem getK_put {L : List (Int × β)} {k j : Int} {v : β} (hs : SortK L) : getK (putK L k v) j = if j = k then some v else getK L j := by
 by_cases h : j = k
 ·subst h
  rw [if_pos rfl]
  exact (getK_mem (sort_putK hs)).2 ((mem_putK hs _).2 (.inl rfl))
 ·rw [if_neg h]
  cases hg : getK L j with
  | none =>
   refine getK_none.2 fun p hp => ?_
   rcases (mem_putK hs p).1 hp with rfl | ⟨hp, _⟩
   ·exact fun e => h e.symm
   ·exact getK_none.1 hg p hp
  | some x => exact (getK_mem (sort_putK hs)).2 ((mem_putK hs _).2 (.inr ⟨(getK_mem hs).1 hg, h⟩))
theorem sort_ext {L M : List (Int × β)} (hL : SortK L) (hM : SortK M) (h : ∀ p, p ∈ L ↔ p ∈ M) : L = M := by
 induction L generalizing M with
 | nil =>
  cases M with
  | nil => rfl
  | cons q r => exact absurd ((h q).2 (.head _)) (by simp)
 | cons p r ih =>
  cases M with
  | nil => exact absurd ((h p).1 (.head _)) (by simp)
  | cons q s =>
   have h1 := List.pairwise_cons.1 hL
   have h2 := List.pairwise_cons.1 hM
   have hpq : p = q := by
    rcases List.mem_cons.1 ((h p).1 (.head _)) with e | hp
    ·exact e
    rcases List.mem_cons.1 ((h q).2 (.head _)) with e | hq
    ·exact e.symm
    have := h1.1 _ hq
    have := h2.1 _ hp
    omega
   subst hpq
   rw [ih h1.2 h2.2 (fun x => ?_)]
   constructor
   ·intro hx
    rcases List.mem_cons.1 ((h x).1 (.tail _ hx)) with e | hx'
    ·subst e; have := h1.1 _ hx; omega
    ·exact hx'
   ·intro hx
    rcases List.mem_cons.1 ((h x).2 (.tail _ hx)) with e | hx'
    ·subst e; have := h2.1 _ hx; omega
    ·exact hx'
def encK (f : β → γ) (L : List (Int × β)) : List (Int × γ) := L.map fun p => (p.1, f p.2)
theorem getK_enc (f : β → γ) (L : List (Int × β)) (k : Int) : getK (encK f L) k = (getK L k).map f := by
 induction L with
 | nil => rfl
 | cons p r ih =>
  obtain ⟨a, x⟩ := p
  simp only [encK, List.map_cons, getK] at ih ⊢
  split
  ·rfl
  ·exact ih
theorem putK_enc (f : β → γ) (L : List (Int × β)) (k : Int) (v : β) : putK (encK f L) k (f v) = encK f (putK L k v) := by
 induction L with
 | nil => rfl
 | cons p r ih =>
  obtain ⟨a, x⟩ := p
  simp only [encK, List.map_cons, putK] at ih ⊢
  split
  ·rfl
  ·split
   ·rfl
   ·simp [ih]
theorem delK_enc (f : β → γ) (L : List (Int × β)) (k : Int) : delK (encK f L) k = encK f (delK L k) := by
 simp only [delK, encK, List.filter_map]; rfl
end
def MapAt (q : IntKind) (W : World) (b : Nat) (L : List (Int × Value)) : Prop :=
 ∃ es clock, W.heap[b]? = some (.map es clock) ∧ Stamped es clock ∧ (∀ x ∈ es.toList, IsKey (.int q) x.key) ∧ (∀ k v, (∃ x ∈ es.toList, x.key = .int q k ∧ x.val = v) ↔ (k, v) ∈ L) ∧ SortK L
def OnlyB (W W' : World) (b : Nat) : Prop := W.grownBy W' (some b) ∧ W'.heap.size = W.heap.size
section
variable {P : Program} {W : World} {q : IntKind} {b : Nat} {L : List (Int × Value)} {t kt et : TypeId}
theorem MapAt.lt (h : MapAt q W b L) : b < W.heap.size := by
 obtain ⟨es, clock, hb, _⟩ := h
 exact (Array.getElem?_eq_some_iff.1 hb).1
theorem MapAt.sort (h : MapAt q W b L) : SortK L := by
 obtain ⟨es, clock, _, _, _, _, hs⟩ := h
 exact hs
theorem MapAt.keep {W' : World} (h : MapAt q W b L) (hk : W'.heap[b]? = W.heap[b]?) : MapAt q W' b L := by
 obtain ⟨es, clock, hb, h⟩ := h
 exact ⟨es, clock, hk.trans hb, h⟩
theorem MapAt.gr {W' : World} (h : MapAt q W b L) (g : Gr W W') : MapAt q W' b L := h.keep (g.below.block b h.lt)
theorem MapAt.below {W' : World} {base : Nat} (h : MapAt q W b L) (g : Below base W W') (hb : b < base) : MapAt q W' b L := h.keep (g.block b hb)
theorem mapAt_new (W : World) (q : IntKind) : MapAt q (W.alloc (.map #[] 0)) W.heap.size [] := ⟨#[], 0, (MapKept.heap_alloc W _).1, stamped_empty 0, by simp, by simp, List.Pairwise.nil⟩
theorem mapAt_find {es : Array MapEntry} (hk : ∀ x ∈ es.toList, IsKey (.int q) x.key) (hm : ∀ k v, (∃ x ∈ es.toList, x.key = .int q k ∧ x.val = v) ↔ (k, v) ∈ L) (hs : SortK L) (k : Int) :
  (getK L k = none ∧ Instr.findNow (.int q) (.int q k) es.toList 0 = some none ∧ ∀ x ∈ es.toList, x.key ≠ .int q k) ∨
  ∃ (i : Nat) (e : MapEntry), Instr.findNow (.int q) (.int q k) es.toList 0 = some (some (i, e.val)) ∧ es.toList[i]? = some e ∧ e.key = .int q k ∧ getK L k = some e.val := by
 rcases findNow_spec (d := .int q) (k := .int q k) rfl es.toList 0 hk with ⟨h1, h2⟩ | ⟨j, e, h1, h2, h3⟩
 ·refine .inl ⟨getK_none.2 fun p hpL hk => ?_, h1, h2⟩
  obtain ⟨x, hx, e1, _⟩ := (hm p.1 p.2).2 hpL
  exact h2 x hx (e1.trans (by rw [hk]))
 ·exact .inr ⟨j, e, by simpa using h1, h2, h3, (getK_mem hs).2 ((hm k e.val).1 ⟨e, List.mem_of_getElem? h2, h3, rfl⟩)⟩
theorem map_lookup (ht : P.underlying t = some (.map kt et)) (hk : P.underlying kt = some (.int q)) (h : MapAt q W b L) (k : Int) (ok : Bool) {z : Value} (hz : (zeroValue et).run P W = .ok z W) :
  (Instr.lookup t (.map (some b)) (.int q k) ok).run P W = .ok (if ok then .tuple #[(getK L k).getD z, .bool (getK L k).isSome] else (getK L k).getD z) W := by
 obtain ⟨es, clock, hb, hst, hkk, hm, hs⟩ := h
 have hck := fun e => run_checkKey (P := P) (w := W) (k := .int q k) hk rfl e 9999
 have hgo := MapKept.run_getObj_map (P := P) hb
 rcases mapAt_find hkk hm hs k with ⟨hg, hf, _⟩ | ⟨i, e, hf, _, _, hg⟩
 ·have hfk := run_findKey (P := P) (w := W) hk hf
  cases ok <;> simp [Instr.lookup, Sem.run_bind, run_underlying ht W, hgo, hck, hfk, hz, hg]
 ·have hfk := run_findKey (P := P) (w := W) hk hf
  cases ok <;> simp [Instr.lookup, Sem.run_bind, run_underlying ht W, hgo, hck, hfk, hg]
theorem only_set {o o' : Obj} (hb : W.heap[b]? = some o) : OnlyB W { W with heap := W.heap.setIfInBounds b o' } b := ⟨⟨rfl, rfl, rfl, by simp, fun i _ hi => (heap_set hb).2 i (fun e => hi (by rw [e]))⟩, by simp⟩
theorem OnlyB.block {W' : World} (h : OnlyB W W' b) {i : Nat} (hi : i ≠ b) : W'.heap[i]? = W.heap[i]? := by
 by_cases hl : i < W.heap.size
 ·exact h.1.block i hl (fun e => hi (by cases e; rfl))
 ·have h2 := h.2
  rw [Array.getElem?_eq_none (by omega), Array.getElem?_eq_none (by omega)]
theorem OnlyB.below {W' : World} {base : Nat} {w : World} (h : OnlyB W W' b) (hb : base ≤ b) (hl : b < W.heap.size) (hw : Below base w W) : Below base w W' := hw.grown h.1 (by omega) (fun k e => by cases e; exact hb)
theorem keys_inj {es : List MapEntry} (hn : (es.map (·.key)).Nodup) {i j : Nat} {x y : MapEntry} (hx : es[i]? = some x) (hy : es[j]? = some y) (h : x.key = y.key) : i = j := by
 have hp : es.Pairwise fun x y => x.key ≠ y.key := List.pairwise_map.1 hn
 rw [List.pairwise_iff_getElem] at hp
 obtain ⟨hi, rfl⟩ := List.getElem?_eq_some_iff.1 hx
 obtain ⟨hj, rfl⟩ := List.getElem?_eq_some_iff.1 hy
 rcases Nat.lt_trichotomy i j with hl | hl | hl
 ·exact absurd h (hp i j hi hj hl)
 ·exact hl
 ·exact absurd h.symm (hp j i hj hi hl)
theorem map_update (ht : P.underlying t = some (.map kt et)) (hk : P.underlying kt = some (.int q)) (h : MapAt q W b L) (k : Int) (v : Value) :
  ∃ W', (Instr.mapUpdate t (.map (some b)) (.int q k) v).run P W = .ok () W' ∧ MapAt q W' b (putK L k v) ∧ OnlyB W W' b := by
 obtain ⟨es, clock, hb, hst, hkk, hm, hs⟩ := h
 have hck := fun e => run_checkKey (P := P) (w := W) (k := .int q k) hk rfl e 9999
 have hkeep : (Instr.keyThatStays (.int q k) (.int q k)).run P W = .ok (.int q k) W := run_keyThatStays (d := .int q) rfl
 have hgo := MapKept.run_getObj_map (P := P) hb
 have hso := fun o => MapKept.run_setObj_map (P := P) o hb
 rcases mapAt_find hkk hm hs k with ⟨hg, hf, hne⟩ | ⟨i, e, hf, hi, hek, hg⟩
 ·have hfk := run_findKey (P := P) (w := W) hk hf
  refine ⟨_, ?_, ⟨es.push { key := .int q k, val := v, born := clock }, clock + 1, (heap_set hb).1, stamped_push hst hne, ?_, ?_, sort_putK hs⟩, only_set hb⟩
  ·simp [Instr.mapUpdate, Sem.run_bind, run_underlying ht W, hgo, hck, hfk, hso]
  ·intro x hx
   rcases List.mem_append.1 (by rw [Array.toList_push] at hx; exact hx) with hx | hx
   ·exact hkk x hx
   ·obtain rfl := List.mem_singleton.1 hx; exact rfl
  ·intro j u
   rw [mem_putK hs, Array.toList_push]
   constructor
   ·rintro ⟨x, hx, e1, e2⟩
    rcases List.mem_append.1 hx with hx | hx
    ·refine .inr ⟨(hm j u).1 ⟨x, hx, e1, e2⟩, fun e => hne x hx (e1.trans ?_)⟩
     have : j = k := e
     rw [this]
    ·obtain rfl := List.mem_singleton.1 hx
     cases e1; cases e2; exact .inl rfl
   ·rintro (e | ⟨h1, _⟩)
    ·cases e
     exact ⟨_, List.mem_append_right _ (List.mem_singleton.2 rfl), rfl, rfl⟩
    ·obtain ⟨x, hx, e1, e2⟩ := (hm j u).2 h1
     exact ⟨x, List.mem_append_left _ hx, e1, e2⟩
 ·have hfk := run_findKey (P := P) (w := W) hk hf
  have hi' : es[i]? = some e := by rw [← Array.getElem?_toList]; exact hi
  have hmem : ∀ x, x ∈ (es.modify i fun e => { e with key := .int q k, val := v }).toList ↔ x = { e with key := .int q k, val := v } ∨ (x ∈ es.toList ∧ x.key ≠ .int q k) := fun x => by
   constructor
   ·intro hx
    obtain ⟨j, hj⟩ := List.mem_iff_getElem?.1 hx
    rw [Array.getElem?_toList, Array.getElem?_modify] at hj
    by_cases hij : i = j
    ·subst hij
     rw [if_pos rfl, hi'] at hj
     cases hj
     exact .inl rfl
    ·rw [if_neg hij] at hj
     refine .inr ⟨List.mem_iff_getElem?.2 ⟨j, by rw [Array.getElem?_toList]; exact hj⟩, fun he => hij ?_⟩
     exact keys_inj hst.2.2 hi (by rw [Array.getElem?_toList]; exact hj) (by rw [hek, he])
   ·rintro (rfl | ⟨hx, hne⟩)
    ·exact List.mem_iff_getElem?.2 ⟨i, by rw [Array.getElem?_toList, Array.getElem?_modify, if_pos rfl, hi']; rfl⟩
    ·obtain ⟨j, hj⟩ := List.mem_iff_getElem?.1 hx
     refine List.mem_iff_getElem?.2 ⟨j, ?_⟩
     rw [Array.getElem?_toList] at hj
     rw [Array.getElem?_toList, Array.getElem?_modify, if_neg, hj]
     rintro rfl
     rw [hi'] at hj
     cases hj
     exact hne hek
  refine ⟨_, ?_, ⟨es.modify i fun e => { e with key := .int q k, val := v }, clock, (heap_set hb).1, stamped_modify hst i _ (fun _ _ => rfl) (fun e' _ he' => by rw [hi'] at he'; cases he'; exact hek.symm), ?_, ?_, sort_putK hs⟩, only_set hb⟩
  ·have hgd : ((es[i]?.map (·.key)).getD (Value.int q k)) = .int q k := by rw [hi']; exact hek
   simp only [Instr.mapUpdate, Sem.run_bind, run_underlying ht W, hgo, hck, hfk, Result.andThen_ok, hgd, hkeep, hso]
  ·intro x hx
   rcases (hmem x).1 hx with rfl | h
   ·exact rfl
   ·exact hkk x h.1
  ·intro j u
   rw [mem_putK hs]
   constructor
   ·rintro ⟨x, hx, e1, e2⟩
    rcases (hmem x).1 hx with rfl | h
    ·cases e1; cases e2; exact .inl rfl
    ·refine .inr ⟨(hm j u).1 ⟨x, h.1, e1, e2⟩, fun e => h.2 (e1.trans ?_)⟩
     have : j = k := e
     rw [this]
   ·rintro (h | ⟨h1, h2⟩)
    ·cases h
     exact ⟨_, (hmem _).2 (.inl rfl), rfl, rfl⟩
    ·obtain ⟨x, hx, e1, e2⟩ := (hm j u).2 h1
     exact ⟨x, (hmem x).2 (.inr ⟨hx, by rw [e1]; intro h; cases h; exact h2 rfl⟩), e1, e2⟩
theorem map_delete (ht : P.underlying t = some (.map kt et)) (hk : P.underlying kt = some (.int q)) (h : MapAt q W b L) (k : Int) (ty : TypeId) :
  ∃ W', (Builtin.delete_ #[t, kt] ty #[.map (some b), .int q k]).run P W = .ok (.tuple #[]) W' ∧ MapAt q W' b (delK L k) ∧ OnlyB W W' b := by
 obtain ⟨es, clock, hb, hst, hkk, hm, hs⟩ := h
 have hck := fun e => run_checkKey (P := P) (w := W) (k := .int q k) hk rfl e 9999
 have hgo := MapKept.run_getObj_map (P := P) hb
 have hso := fun o => MapKept.run_setObj_map (P := P) o hb
 have hdel : ∀ p, p ∈ delK L k ↔ p ∈ L ∧ p.1 ≠ k := fun p => by simp [delK]
 rcases mapAt_find hkk hm hs k with ⟨hg, hf, hne⟩ | ⟨i, e, hf, hi, hek, hg⟩
 ·have hfk := run_findKey (P := P) (w := W) hk hf
  refine ⟨_, ?_, ⟨es, clock, (heap_set hb).1, hst, hkk, fun j u => ?_, sort_delK hs⟩, only_set hb⟩
  ·simp [Builtin.delete_, Sem.run_bind, run_underlying ht W, hgo, hck, hfk, hso]
  ·rw [hdel, hm j u]
   exact ⟨fun h => ⟨h, fun e => getK_none.1 hg _ h e⟩, fun h => h.1⟩
 ·have hfk := run_findKey (P := P) (w := W) hk hf
  have hi' : es[i]? = some e := by rw [← Array.getElem?_toList]; exact hi
  have hil : i < es.size := (Array.getElem?_eq_some_iff.1 hi').1
  have hel : (es.eraseIdxIfInBounds i).toList = es.toList.eraseIdx i := by
   unfold Array.eraseIdxIfInBounds
   rw [dif_pos hil]; simp
  have hmem : ∀ x, x ∈ (es.eraseIdxIfInBounds i).toList ↔ x ∈ es.toList ∧ x.key ≠ .int q k := fun x => by
   rw [hel, List.mem_eraseIdx_iff_getElem?]
   constructor
   ·rintro ⟨j, hj, hx⟩
    exact ⟨List.mem_of_getElem? hx, fun he => hj (keys_inj hst.2.2 hx hi (by rw [hek, he]))⟩
   ·rintro ⟨hx, hne⟩
    obtain ⟨j, hj⟩ := List.mem_iff_getElem?.1 hx
    exact ⟨j, (by rintro rfl; rw [hi] at hj; cases hj; exact hne hek), hj⟩
  refine ⟨_, ?_, ⟨es.eraseIdxIfInBounds i, clock, (heap_set hb).1, stamped_erase hst i, fun x hx => hkk x ((hmem x).1 hx).1, fun j u => ?_, sort_delK hs⟩, only_set hb⟩
  ·simp [Builtin.delete_, Sem.run_bind, run_underlying ht W, hgo, hck, hfk, hso]
  ·rw [hdel, ← hm j u]
   constructor
   ·rintro ⟨x, hx, e1, e2⟩
    have h1 := (hmem x).1 hx
    exact ⟨⟨x, h1.1, e1, e2⟩, fun h => h1.2 (e1.trans (by have : j = k := h; rw [this]))⟩
   ·rintro ⟨⟨x, hx, e1, e2⟩, h2⟩
    exact ⟨x, (hmem x).2 ⟨hx, by rw [e1]; intro h; cases h; exact h2 rfl⟩, e1, e2⟩
theorem map_clone (h : MapAt q W b L) (t : TypeId) : (Extern.MapsClone.clone #[.iface t (.map (some b))]).run P W = .ok (.iface t (.map (some W.heap.size))) (W.alloc (W.heap[b]?.getD default)) ∧ MapAt q (W.alloc (W.heap[b]?.getD default)) W.heap.size L := by
 obtain ⟨es, clock, hb, hst, hkk, hm, hs⟩ := h
 have hgo := MapKept.run_getObj_map (P := P) hb
 refine ⟨?_, es, clock, ?_, hst, hkk, hm, hs⟩
 ·rw [hb]
  have e : Extern.MapsClone.clone #[.iface t (.map (some b))] = (getObj b >>= fun o => match o with
   | .map entries clock => (do pure (Value.iface t (.map (some (← newObj (.map entries clock))))))
   | _ => stuck "maps.clone: a map expected") := rfl
  rw [e]
  simp [Sem.run_bind, hgo]
 ·rw [hb]; exact (MapKept.heap_alloc W _).1
end
end Go.Proofs.YtddckdhnolmjoaaGreat
namespace Go.Proofs.YtddckdhnolmjoaaGreat
open Go.RowKit
class Far (b : Nat) : Prop where
 le : 6 ≤ b
class Tb (W : World) : Prop where
 size : 6 ≤ W.heap.size
theorem Tb.keep {W W' : World} (h : Tb W) (hs : W.heap.size ≤ W'.heap.size) (hk : ∀ b, b < 6 → W'.heap[b]? = W.heap[b]?) : Tb W' := ⟨Nat.le_trans h.size hs⟩
instance far_size (W : World) [h : Tb W] : Far W.heap.size := ⟨h.size⟩
instance far_succ (b : Nat) [h : Far b] : Far (b + 1) := ⟨Nat.le_succ_of_le h.le⟩
instance (W : World) (o : Obj) [h : Tb W] : Tb (W.alloc o) := h.keep (by simp) (fun b hb => Below.heap_alloc W o b (Nat.lt_of_lt_of_le hb h.size))
instance (W : World) (g : Growth W) [h : Tb W] : Tb (grown W g) := h.keep g.below.size (fun b hb => g.below.block b (Nat.lt_of_lt_of_le hb h.size))
instance (W : World) [h : Tb W] : Tb W.drew := h.keep (Nat.le_refl _) (fun b hb => rfl)
instance (W : World) (b o : Nat) (v : Value) [h : Tb W] [hf : Far b] : Tb (W.setCell ⟨b, o, none⟩ v) :=
 h.keep (by simp [World.setCell]) (fun c hc => Below.heap_setCell W ⟨b, o, none⟩ v c (by have := hf.le; show c ≠ b; omega))
class IterAt (W : World) (k : Nat) (s : outParam ByteArray) (pos : outParam Nat) : Prop where
 eq : W.heap[k]? = some (.stringIter s pos)
@[go_sem] theorem iter_alloc (W : World) (s : ByteArray) (pos : Nat) : W.iter s pos = W.alloc (.stringIter s pos) := rfl
instance (W : World) (s : ByteArray) (pos n : Nat) [h : SizeN W n] : IterAt (W.alloc (.stringIter s pos)) n s pos := ⟨by have := h.eq; subst this; simpa [World.iter] using World.iter_heap W s pos⟩
theorem IterAt.lt {W : World} {k : Nat} {s : ByteArray} {pos : Nat} (h : IterAt W k s pos) : k < W.heap.size := (Array.getElem?_eq_some_iff.1 h.eq).1
theorem IterAt.old {W : World} {k : Nat} {s : ByteArray} {pos : Nat} (h : IterAt W k s pos) : Old k W := ⟨h.lt⟩
instance (priority := low) (W : World) (o : Obj) (k : Nat) (s : ByteArray) (pos : Nat) [h : IterAt W k s pos] : IterAt (W.alloc o) k s pos := ⟨(Below.heap_alloc W o k h.lt).trans h.eq⟩
instance (W : World) (g : Growth W) (k : Nat) (s : ByteArray) (pos : Nat) [h : IterAt W k s pos] : IterAt (grown W g) k s pos := ⟨(g.below.block k h.lt).trans h.eq⟩
instance (W : World) (k : Nat) (s : ByteArray) (pos : Nat) [h : IterAt W k s pos] : IterAt W.drew k s pos := ⟨h.eq⟩
instance (W : World) (a : Addr) (v : Value) (k : Nat) (s : ByteArray) (pos : Nat) [h : IterAt W k s pos] : IterAt (W.setCell a v) k s pos := ⟨by
 have := h.eq
 by_cases e : k = a.block
 ·subst e; simp [World.setCell, Array.getElem?_modify, this]
 ·exact (Below.heap_setCell W a v k e).trans this⟩
instance (W : World) (k : Nat) (s s' : ByteArray) (pos pos' : Nat) [h : IterAt W k s pos] : IterAt (W.iterAt k s' pos') k s' pos' := ⟨by
 have := h.lt
 simp [World.iterAt, this]⟩
section
variable {P : Program}
@[go_sem] theorem run_next_at (W : World) (k : Nat) (s : ByteArray) (pos : Nat) (ty : TypeId) [h : IterAt W k s pos] :
  (Instr.next (.pointer (some ⟨k, 0, none⟩)) true ty).run P W = if pos < s.size then .ok (.tuple #[.bool true, .int .i64 pos, .int .i32 (Utf8.decode s pos).1]) (W.iterAt k s (pos + (Utf8.decode s pos).2)) else .ok (.tuple #[.bool false]) W := by
 by_cases hp : pos < s.size
 ·rw [if_pos hp]; exact Lib.run_next_any_at W k s pos ty h.eq hp
 ·rw [if_neg hp]; exact Lib.run_next_end_at W k s pos ty h.eq hp
end
@[go_sem] theorem iterAt_cells (W : World) (k b o : Nat) (s : ByteArray) (pos pos' : Nat) [h : IterAt W k s pos] : (W.iterAt k s pos').cell? ⟨b, o, none⟩ = W.cell? ⟨b, o, none⟩ := by
 by_cases e : b = k
 ·subst e
  have h2 : (W.iterAt b s pos').heap[b]? = some (.stringIter s pos') := Lib.iterAt_heap W b s pos pos' h.eq
  simp [World.cell?, h.eq, h2]
 ·simp [World.cell?, Lib.iterAt_other W k b s pos' e]
@[go_sem] theorem iterAt_frozen (W : World) (k b o : Nat) (s : ByteArray) (pos pos' : Nat) [h : IterAt W k s pos] : (W.iterAt k s pos').frozen? ⟨b, o, none⟩ = W.frozen? ⟨b, o, none⟩ := by
 by_cases e : b = k
 ·subst e
  have h2 : (W.iterAt b s pos').heap[b]? = some (.stringIter s pos') := Lib.iterAt_heap W b s pos pos' h.eq
  simp [World.frozen?, h.eq, h2]
 ·simp [World.frozen?, Lib.iterAt_other W k b s pos' e]
@[go_sem] theorem iterAt_size (W : World) (k : Nat) (s : ByteArray) (pos : Nat) : (W.iterAt k s pos).heap.size = W.heap.size := Lib.iterAt_size W k s pos
instance (W : World) (k : Nat) (s : ByteArray) (pos n : Nat) [h : SizeN W n] : SizeN (W.iterAt k s pos) n := ⟨by rw [Lib.iterAt_size]; exact h.eq⟩
instance (W : World) (k b : Nat) (s : ByteArray) (pos : Nat) [h : Old b W] : Old b (W.iterAt k s pos) := ⟨by rw [Lib.iterAt_size]; exact h.lt⟩
theorem below_iter {a w : World} (h : Below a.heap.size a w) {k : Nat} (hk : a.heap.size ≤ k) (s : ByteArray) (pos : Nat) : Below a.heap.size a (w.iterAt k s pos) := Lib.below_iterAt h hk s pos
instance (W : World) (k : Nat) (s : ByteArray) (pos : Nat) [h : Tb W] [hf : Far k] : Tb (W.iterAt k s pos) :=
 h.keep (by rw [Lib.iterAt_size]; exact Nat.le_refl _) (fun c hc => Lib.iterAt_other W k c s pos (by have := hf.le; omega))
class From (a W : World) : Prop where
 le : a.heap.size ≤ W.heap.size
class Past (a : World) (b : Nat) : Prop where
 le : a.heap.size ≤ b
instance from_refl (a : World) : From a a := ⟨Nat.le_refl _⟩
instance (a W : World) (o : Obj) [h : From a W] : From a (W.alloc o) := ⟨by have := h.le; simp; omega⟩
instance (a W : World) (g : Growth W) [h : From a W] : From a (grown W g) := ⟨Nat.le_trans h.le g.below.size⟩
instance (a W : World) [h : From a W] : From a W.drew := ⟨h.le⟩
instance (a W : World) (p : Addr) (v : Value) [h : From a W] : From a (W.setCell p v) := ⟨by have := h.le; simpa [World.setCell] using this⟩
instance (a W : World) (k : Nat) (s : ByteArray) (pos : Nat) [h : From a W] : From a (W.iterAt k s pos) := ⟨by rw [Lib.iterAt_size]; exact h.le⟩
instance (a W : World) [h : From a W] : Past a W.heap.size := ⟨h.le⟩
instance (a : World) (b : Nat) [h : Past a b] : Past a (b + 1) := ⟨Nat.le_succ_of_le h.le⟩
theorem past {a : World} {b : Nat} [h : Past a b] : a.heap.size ≤ b := h.le
class GrC (a W : World) : Prop where
 b : Below a.heap.size a W
instance (a : World) : GrC a a := ⟨Below.refl _ _⟩
instance (a W : World) (o : Obj) [h : GrC a W] : GrC a (W.alloc o) := ⟨below_alloc h.b o⟩
instance (a W : World) (b o : Nat) (v : Value) [h : GrC a W] [k : Past a b] : GrC a (W.setCell ⟨b, o, none⟩ v) := ⟨below_set h.b k.le v⟩
instance (a W : World) (g : Growth W) [h : GrC a W] : GrC a (grown W g) := ⟨below_trans h.b (grown_below _ _)⟩
instance (a W : World) [h : GrC a W] : GrC a W.drew := ⟨h.b.drew⟩
instance (a W : World) (k : Nat) (s : ByteArray) (pos : Nat) [h : GrC a W] [hk : Past a k] : GrC a (W.iterAt k s pos) := ⟨below_iter h.b hk.le s pos⟩
theorem gri {a W : World} [h : GrC a W] : Gr a W := Gr.of h.b
def bv (b : UInt8) : Value := .int .u8 (b.toNat : Int)
structure Row {α : Type} (enc : α → Value) (W : World) (A : Option Addr) (l : List α) : Prop where
 at_ : l ≠ [] → ∃ b o, A = some ⟨b, o, none⟩ ∧ b < W.heap.size ∧ ∀ j x, l[j]? = some x → W.cell? ⟨b, o + j, none⟩ = some (enc x)
theorem Row.nil {α : Type} {enc : α → Value} {W : World} {A : Option Addr} : Row enc W A [] := ⟨fun h => absurd rfl h⟩
theorem Row.gr {α : Type} {enc : α → Value} {W W' : World} {A : Option Addr} {l : List α} (h : Row enc W A l) (hg : Gr W W') : Row enc W' A l :=
 ⟨fun h0 => by
  obtain ⟨b, o, rfl, hb, hc⟩ := h.at_ h0
  exact ⟨b, o, rfl, Nat.lt_of_lt_of_le hb hg.below.size, fun j x hx => (hg.below.cell (p := ⟨b, o + j, none⟩) hb).trans (hc j x hx)⟩⟩
theorem beq_snoc {α : Type} [BEq α] [LawfulBEq α] {xs ys : List α} {k : Nat} (hx : k < xs.length) (hy : k < ys.length) (h : xs.take k = ys.take k) (he : xs[k] = ys[k]) : xs.take (k + 1) = ys.take (k + 1) := by
 rw [List.take_succ_eq_append_getElem hx, List.take_succ_eq_append_getElem hy, h, he]
theorem equalB_lens (A B : Option Addr) (n c m d : Nat) (w : World) (h : n ≠ m) :
  Calls Tryz.prog 116 #[.slice A n c, .slice B m d] w fun e w' => e = .returned (.bool false) ∧ Gr w w' := by
 have h2 : ((n : Int) != (m : Int)) = true := by simp; omega
 go_enter Tryz.func116, Tryz.ntmps116
 go_wp2
 go_ret
 exact ⟨rfl, gri⟩
theorem equalB_empty (A B : Option Addr) (c d : Nat) (w : World) :
  Calls Tryz.prog 116 #[.slice A 0 c, .slice B 0 d] w fun e w' => e = .returned (.bool true) ∧ Gr w w' := by
 go_enter Tryz.func116, Tryz.ntmps116
 go_wp2
 refine wp_loop_rounds 1 ?_
 rw [rounds_succ]
 go_wp2
 go_ret
 exact ⟨rfl, gri⟩
theorem equalB_some (b1 o1 b2 o2 n c d : Nat) (xs ys : List UInt8) (w : World) (hx : xs.length = n) (hy : ys.length = n) (hn : n ≤ 9223372036854775807)
  (h1 : ∀ (j : Nat) (x : UInt8), xs[j]? = some x → w.cell? ⟨b1, o1 + j, none⟩ = some (bv x)) (h2 : ∀ (j : Nat) (x : UInt8), ys[j]? = some x → w.cell? ⟨b2, o2 + j, none⟩ = some (bv x)) :
  Calls Tryz.prog 116 #[.slice (some ⟨b1, o1, none⟩) n c, .slice (some ⟨b2, o2, none⟩) n d] w fun e w' => e = .returned (.bool (xs == ys)) ∧ Gr w w' := by
 have H1 := hd_ h1; clear h1
 have H2 := hd_ h2; clear h2
 have HX := hd_ hx; clear hx
 have HY := hd_ hy; clear hy
 go_enter Tryz.func116, Tryz.ntmps116
 go_wp2
 go_loopw [13] (fun i wr => ∃ k : Nat, i = .int .i64 k ∧ k ≤ n ∧ xs.take k = ys.take k ∧ Gr w wr) (fun i _ => n - (intOf i).toNat)
 case atStart => exact ⟨0, rfl, by omega, rfl, Gr.refl _⟩
 case round =>
  obtain ⟨k, rfl, hk, he, hg⟩ := hrel
  obtain ⟨g, rfl⟩ := hg
  by_cases hlt : k < n
  ·have hkx : k < xs.length := by have := HX.out; omega
   have hky : k < ys.length := by have := HY.out; omega
   have c1 := H1.out k xs[k] (List.getElem?_eq_getElem hkx)
   have c2 := H2.out k ys[k] (List.getElem?_eq_getElem hky)
   simp only [bv] at c1 c2
   haveI i1 : Old b1 w := old_of_cell c1
   haveI i2 : Old b2 w := old_of_cell c2
   have HE := hd_ he; clear he
   by_cases hq : xs[k] = ys[k]
   ·have hb : ((xs[k].toNat : Int) != (ys[k].toNat : Int)) = false := by rw [hq]; simp
    have HQ := hd_ hq; clear hq
    go_wp2
    go_region
    all_goals go_wp2
    all_goals go_roundw
    case rel => exact ⟨k + 1, by go_num, by omega, beq_snoc hkx hky HE.out HQ.out, gri⟩
    case measure => simp [intOf]; omega
   ·have hb : ((xs[k].toNat : Int) != (ys[k].toNat : Int)) = true := by
     simp only [bne_iff_ne, ne_eq]; intro h; exact hq (UInt8.toNat_inj.1 (by omega))
    have hne : (xs == ys) = false := by
     simp only [beq_eq_false_iff_ne, ne_eq]; intro h; subst h; exact hq rfl
    have HN := hd_ hne; clear hne hq
    go_wp2
    go_region
    all_goals go_wp2
    all_goals go_ret
    exact ⟨by rw [HN.out]; rfl, gri⟩
  ·have hkn : k = n := by omega
   have hne : (xs == ys) = true := by
    have e1 : xs.take k = xs := List.take_of_length_le (by have := HX.out; omega)
    have e2 : ys.take k = ys := List.take_of_length_le (by have := HY.out; omega)
    rw [e1, e2] at he
    subst he; simp
   have HN := hd_ hne; clear hne he hkn
   go_wp2
   go_ret
   exact ⟨by rw [HN.out]; rfl, gri⟩
theorem equalB_any (A B : Option Addr) (n c m d : Nat) (xs ys : List UInt8) (w : World) (hx : xs.length = n) (hy : ys.length = m) (hn : n ≤ 9223372036854775807) (h1 : Row bv w A xs) (h2 : Row bv w B ys) :
  Calls Tryz.prog 116 #[.slice A n c, .slice B m d] w fun e w' => e = .returned (.bool (xs == ys)) ∧ Gr w w' := by
 by_cases h : n = m
 ·subst h
  rcases Nat.eq_zero_or_pos n with h0 | h0
  ·subst h0
   have e1 : xs = [] := List.eq_nil_of_length_eq_zero hx
   have e2 : ys = [] := List.eq_nil_of_length_eq_zero hy
   subst e1 e2
   exact equalB_empty A B c d w
  ·obtain ⟨b1, o1, rfl, _, hc1⟩ := h1.at_ (by rintro rfl; simp at hx; omega)
   obtain ⟨b2, o2, rfl, _, hc2⟩ := h2.at_ (by rintro rfl; simp at hy; omega)
   exact equalB_some b1 o1 b2 o2 n c d xs ys w hx hy hn hc1 hc2
 ·have : (xs == ys) = false := by simp only [beq_eq_false_iff_ne, ne_eq]; rintro rfl; omega
  rw [this]
  exact equalB_lens A B n c m d w h
class BNe (a b : Nat) : Prop where
 ne : a ≠ b
class BlockAt (W : World) (B : Nat) (cs : outParam (Array Value)) (t : outParam TypeId) : Prop where
 eq : W.heap[B]? = some (.cells cs t (0, 0))
theorem BlockAt.lt {W : World} {B : Nat} {cs : Array Value} {t : TypeId} (h : BlockAt W B cs t) : B < W.heap.size := (Array.getElem?_eq_some_iff.1 h.eq).1
theorem BlockAt.old {W : World} {B : Nat} {cs : Array Value} {t : TypeId} (h : BlockAt W B cs t) : Old B W := ⟨h.lt⟩
instance blockAt_new (W : World) (cs : Array Value) (t : TypeId) (n : Nat) [h : SizeN W n] : BlockAt (W.alloc (.cells cs t)) n cs t := ⟨by have := h.eq; subst this; exact heap_alloc_new W _⟩
instance (priority := low) (W : World) (o : Obj) (B : Nat) (cs : Array Value) (t : TypeId) [h : BlockAt W B cs t] : BlockAt (W.alloc o) B cs t := ⟨(Below.heap_alloc W o B h.lt).trans h.eq⟩
instance (W : World) (g : Growth W) (B : Nat) (cs : Array Value) (t : TypeId) [h : BlockAt W B cs t] : BlockAt (grown W g) B cs t := ⟨(g.below.block B h.lt).trans h.eq⟩
instance (W : World) (B : Nat) (cs : Array Value) (t : TypeId) [h : BlockAt W B cs t] : BlockAt W.drew B cs t := ⟨h.eq⟩
instance (W : World) (B o : Nat) (v : Value) (cs : Array Value) (t : TypeId) [h : BlockAt W B cs t] : BlockAt (W.setCell ⟨B, o, none⟩ v) B (cs.setIfInBounds o v) t := ⟨by
 have := h.eq
 simp only [World.setCell, Array.getElem?_modify, this]
 simp [Array.set!_eq_setIfInBounds]⟩
instance (priority := low) (W : World) (B C o : Nat) (v : Value) (cs : Array Value) (t : TypeId) [h : BlockAt W B cs t] [k : BNe B C] : BlockAt (W.setCell ⟨C, o, none⟩ v) B cs t := ⟨(Below.heap_setCell W ⟨C, o, none⟩ v B k.ne).trans h.eq⟩
instance (W : World) (k : Nat) (s : ByteArray) (pos : Nat) (B : Nat) (cs : Array Value) (t : TypeId) [h : BlockAt W B cs t] [hi : IterAt W k s pos] (s' : ByteArray) (pos' : Nat) : BlockAt (W.iterAt k s' pos') B cs t := ⟨by
 have hne : B ≠ k := by
  rintro rfl
  have := hi.eq
  rw [h.eq] at this
  cases this
 exact (Lib.iterAt_other W k B s' pos' hne).trans h.eq⟩
theorem block_cells (W : World) (B o : Nat) (cs : Array Value) (t : TypeId) [h : BlockAt W B cs t] : W.cell? ⟨B, o, none⟩ = cs[o]? := by
 simp [World.cell?, h.eq]
theorem block_frozen (W : World) (B o : Nat) (cs : Array Value) (t : TypeId) [h : BlockAt W B cs t] : W.frozen? ⟨B, o, none⟩ = false := by
 simp [World.frozen?, h.eq]
theorem BlockAt.gr {W W' : World} {B : Nat} {cs : Array Value} {t : TypeId} (h : BlockAt W B cs t) (g : Gr W W') : BlockAt W' B cs t := ⟨(g.below.block B h.lt).trans h.eq⟩
theorem BlockAt.grown {W W' : World} {B : Nat} {cs : Array Value} {t : TypeId} {row : Option Nat} (h : BlockAt W B cs t) (g : W.grownBy W' row) (hne : some B ≠ row) : BlockAt W' B cs t := ⟨(g.block B h.lt hne).trans h.eq⟩
instance bne_old (W : World) (B : Nat) [h : Old B W] : BNe B W.heap.size := ⟨Nat.ne_of_lt h.lt⟩
instance bne_old' (W : World) (B : Nat) [h : Old B W] : BNe W.heap.size B := ⟨(Nat.ne_of_lt h.lt).symm⟩
instance bne_succ (B : Nat) : BNe B (B + 1) := ⟨by omega⟩
instance bne_succ' (B : Nat) : BNe (B + 1) B := ⟨by omega⟩
theorem bc {W : World} {B : Nat} {cs : Array Value} {t : TypeId} (o : Nat) (h : BlockAt W B cs t) : W.cell? ⟨B, o, none⟩ = cs[o]? := @block_cells W B o cs t h
theorem wpList_lookupK {P : Program} {W : World} {ops : Array Oper} {rest : List Oper} {o : Oper} {a : Act} {Q : Exit → Act → World → Prop} {q : IntKind} {b : Nat} {L : List (Int × Value)} {t kt et : TypeId} {z : Value} {ok : Bool} (hgd : o.guard = none) (x k : Operand) (ho : o.op = .lookup t x k ok) (key : Int) (ht : P.underlying t = some (.map kt et)) (hk : P.underlying kt = some (.int q)) (hz : (zeroValue et).run P W = .ok z W)
  (hm : MapAt q W b L) (hx : a.eval x = .map (some b)) (hkey : a.eval k = .int q key)
  (h : wpList P ops Q rest (a.put o.dst (if ok then .tuple #[(getK L key).getD z, .bool (getK L key).isSome] else (getK L key).getD z)) W) : wpList P ops Q (o :: rest) a W := by
 refine wpList_plain hgd fun K' hK' => ?_
 have hrun := map_lookup ht hk hm key ok hz
 unfold Oper.wp
 simp only [execOp, ho, hx, hkey, Sem.run_bind, hrun, Result.andThen_ok, Sem.run_pure]
 exact hK' _ _ h
@[go_sem] theorem neqAll (m : Option Nat) (w : World) : (binOp .neq 53 (.map m) (.map none)).run Tryz.prog w = .ok (.bool (!m.isNone)) w := by
 have := run_neq_map_nil (P := Tryz.prog) w 53 _ _ m Tryz.underlying53
 simpa using this
@[go_sem] theorem fieldV0 (n : Int) (m : Option Nat) (w : World) : (Instr.field 64 (.agg #[.int .i64 n, .map m]) 0).run Tryz.prog w = .ok (.int .i64 n) w := by kernel_rfl
@[go_sem] theorem fieldV1 (n : Int) (m : Option Nat) (w : World) : (Instr.field 64 (.agg #[.int .i64 n, .map m]) 1).run Tryz.prog w = .ok (.map m) w := by kernel_rfl
abbrev Byt := List UInt8
def bkV (B : Byt) : Value := .agg (B.map bv).toArray
def zB : Byt := List.replicate 256 0
abbrev VolM := Int × List (Int × Byt)
abbrev Dev := List (Int × VolM)
structure VolOk (v : VolM) : Prop where
 s0 : 0 ≤ v.1
 s1 : v.1 ≤ 256
 sort : SortK v.2
 keys : ∀ p ∈ v.2, 0 ≤ p.1 ∧ p.1 < v.1
 len : ∀ p ∈ v.2, p.2.length = 256
structure DevOk (d : Dev) : Prop where
 sort : SortK d
 keys : ∀ p ∈ d, 1 ≤ p.1 ∧ p.1 < 4294967296
 vols : ∀ p ∈ d, VolOk p.2
structure DevIn (base : Nat) (W : World) (D M : Nat) (mb : Int → Nat) (d : Dev) : Prop where
 blk : BlockAt W D #[.map (some M)] 55
 all : MapAt .u64 W M (d.map fun p => (p.1, .agg #[.int .i64 p.2.1, .map (some (mb p.1))]))
 vol : ∀ p ∈ d, MapAt .i64 W (mb p.1) (encK bkV p.2.2)
 inj : ∀ p ∈ d, ∀ r ∈ d, mb p.1 = mb r.1 → p.1 = r.1
 ne : ∀ p ∈ d, mb p.1 ≠ M
 bD : base ≤ D
 bM : base ≤ M
 bV : ∀ p ∈ d, base ≤ mb p.1
 ok : DevOk d
def DevAt (base : Nat) (W : World) (D : Nat) (d : Dev) : Prop := ∃ M mb, DevIn base W D M mb d
theorem DevIn.gr {base D M : Nat} {W W' : World} {mb : Int → Nat} {d : Dev} (h : DevIn base W D M mb d) (g : Gr W W') : DevIn base W' D M mb d := ⟨h.blk.gr g, h.all.gr g, fun p hp => (h.vol p hp).gr g, h.inj, h.ne, h.bD, h.bM, h.bV, h.ok⟩
theorem DevAt.gr {base D : Nat} {W W' : World} {d : Dev} (h : DevAt base W D d) (g : Gr W W') : DevAt base W' D d := by
 obtain ⟨M, mb, h⟩ := h
 exact ⟨M, mb, h.gr g⟩
theorem getK_vols (d : Dev) (mb : Int → Nat) (v : Int) : getK (d.map fun p => (p.1, (Value.agg #[.int .i64 p.2.1, .map (some (mb p.1))]))) v = (getK d v).map fun x => Value.agg #[.int .i64 x.1, .map (some (mb v))] := by
 induction d with
 | nil => rfl
 | cons p r ih =>
  obtain ⟨a, x⟩ := p
  simp only [List.map_cons, getK]
  by_cases h : a = v
  ·rw [if_pos h, if_pos h, h]; rfl
  ·rw [if_neg h, if_neg h]; exact ih
theorem zB_len : zB.length = 256 := by rw [zB, List.length_replicate]
theorem zB_val : bkV zB = .agg Tryz.zeroCells66 := by
 unfold bkV zB
 rw [List.map_replicate]
 kernel_rfl
theorem new_any (w : World) : Calls Tryz.prog 7 #[] w fun e w' => ∃ D, e = .returned (.pointer (some ⟨D, 0, none⟩)) ∧ DevAt w.heap.size w' D [] ∧ Gr w w' := by
 have hmm := @run_makeMap Tryz.prog
 go_enter Tryz.func7, Tryz.ntmps7
 go_wp2
 go_ret
 refine ⟨_, rfl, ⟨w.heap.size, fun _ => 0, inferInstance, ?_, by simp, by simp, by simp, by simp, Nat.le_refl _, by simp, ⟨List.Pairwise.nil, by simp, by simp⟩⟩, gri⟩
 exact (mapAt_new w .u64).gr gri
theorem there_yes (D M : Nat) (w : World) (h : BlockAt w D #[.map (some M)] 55) : Calls Tryz.prog 19 #[.pointer (some ⟨D, 0, none⟩)] w fun e w' => e = .returned (.bool true) ∧ Gr w w' := by
 have x0 : w.cell? ⟨D, 0, none⟩ = some (.map (some M)) := (bc 0 h).trans rfl
 go_enter Tryz.func19, Tryz.ntmps19
 go_wp2
 go_ret
 exact ⟨rfl, gri⟩
theorem there_no (w : World) : Calls Tryz.prog 19 #[.pointer none] w fun e w' => e = .returned (.bool false) ∧ Gr w w' := by
 go_enter Tryz.func19, Tryz.ntmps19
 go_wp2
 go_ret
 exact ⟨rfl, gri⟩
def namesB (k : Int) : ByteArray := if k = 1 then ⟨#[118, 115]⟩ else if k = 2 then ⟨#[118]⟩ else if k = 3 then ⟨#[118, 115]⟩ else if k = 4 then ⟨#[118, 116]⟩ else if k = 5 then ⟨#[118, 97, 100]⟩ else if k = 6 then ⟨#[118, 97, 99]⟩ else if k = 7 then ⟨#[118, 97, 99]⟩ else if k = 9 then ⟨#[118, 97, 99]⟩ else ⟨#[]⟩
theorem namesB_off (k : Int) (h : k < 1 ∨ 9 < k) : namesB k = ⟨#[]⟩ := by
 unfold namesB
 repeat (rw [if_neg (by omega)])
theorem namesB_any (k : Int) (w : World) : Calls Tryz.prog 100 #[.int .i64 k] w fun e w' => e = .returned (.string (namesB k)) ∧ Gr w w' := by
 by_cases h1 : k < 1
 ·have e0 := namesB_off k (by omega)
  have e := hd_ e0; clear e0
  go_enter Tryz.func100, Tryz.ntmps100
  go_wp2
  go_ret
  exact ⟨by rw [e.out]; rfl, gri⟩
 by_cases h2 : 9 < k
 ·have e0 := namesB_off k (by omega)
  have e := hd_ e0; clear e0
  go_enter Tryz.func100, Tryz.ntmps100
  go_wp2
  go_ret
  exact ⟨by rw [e.out]; rfl, gri⟩
 have h3 : k = 1 ∨ k = 2 ∨ k = 3 ∨ k = 4 ∨ k = 5 ∨ k = 6 ∨ k = 7 ∨ k = 8 ∨ k = 9 := by omega
 clear h1 h2
 rcases h3 with rfl | rfl | rfl | rfl | rfl | rfl | rfl | rfl | rfl
 all_goals
  go_enter Tryz.func100, Tryz.ntmps100
  go_wp2
  go_ret
  exact ⟨rfl, gri⟩
theorem ret_bool {a b : Bool} (h : a = b) : Ending.returned (.bool a) = .returned (.bool b) := by rw [h]
def wVol (v : Int) : Bool := decide (1 ≤ v) && decide (v < 4294967296)
def wTo (t v : Int) : Bool := decide (1 ≤ t) && decide (t < 4294967296) && (t != v)
def wSize (s : Int) : Bool := decide (0 ≤ s) && decide (s ≤ 256)
def wAt (a : Int) : Bool := decide (0 ≤ a) && decide (a ≤ 1048576)
def wCount (c : Int) : Bool := decide (1 ≤ c) && decide (c ≤ 1024)
def wData (n : Nat) : Bool := decide (64 ≤ n) && decide (n % 64 = 0) && decide (n ≤ 2048)
theorem within_v (xk xv xt xs xa xc : Int) (xD : Option Addr) (xn xq : Nat) (w : World) : Calls Tryz.prog 101 #[.int .i32 118, (Value.agg #[.int .i64 xk, .int .u64 xv, .int .u64 xt, .int .i64 xs, .int .i64 xa, .int .i64 xc, .slice xD xn xq])] w fun e w' => e = .returned (.bool (wVol xv)) ∧ Gr w w' := by
 by_cases h0 : 1 ≤ xv
 ·by_cases h1 : xv < 4294967296
  ·go_enter Tryz.func101, Tryz.ntmps101
   go_wp2
   go_ret
   exact ⟨ret_bool (by simp [wVol, wSize, wAt, wCount, *]), gri⟩
  ·have f1 : decide (xv < 4294967296) = false := by simpa using h1
   go_enter Tryz.func101, Tryz.ntmps101
   go_wp2
   go_ret
   exact ⟨ret_bool (by simp [wVol, wSize, wAt, wCount, *]), gri⟩
 ·have f0 : decide (1 ≤ xv) = false := by simpa using h0
  go_enter Tryz.func101, Tryz.ntmps101
  go_wp2
  go_ret
  exact ⟨ret_bool (by simp [wVol, wSize, wAt, wCount, *]), gri⟩
theorem within_s (xk xv xt xs xa xc : Int) (xD : Option Addr) (xn xq : Nat) (w : World) : Calls Tryz.prog 101 #[.int .i32 115, (Value.agg #[.int .i64 xk, .int .u64 xv, .int .u64 xt, .int .i64 xs, .int .i64 xa, .int .i64 xc, .slice xD xn xq])] w fun e w' => e = .returned (.bool (wSize xs)) ∧ Gr w w' := by
 by_cases h0 : 0 ≤ xs
 ·by_cases h1 : xs ≤ 256
  ·go_enter Tryz.func101, Tryz.ntmps101
   go_wp2
   go_ret
   exact ⟨ret_bool (by simp [wVol, wSize, wAt, wCount, *]), gri⟩
  ·have f1 : decide (xs ≤ 256) = false := by simpa using h1
   go_enter Tryz.func101, Tryz.ntmps101
   go_wp2
   go_ret
   exact ⟨ret_bool (by simp [wVol, wSize, wAt, wCount, *]), gri⟩
 ·have f0 : decide (0 ≤ xs) = false := by simpa using h0
  go_enter Tryz.func101, Tryz.ntmps101
  go_wp2
  go_ret
  exact ⟨ret_bool (by simp [wVol, wSize, wAt, wCount, *]), gri⟩
theorem within_a (xk xv xt xs xa xc : Int) (xD : Option Addr) (xn xq : Nat) (w : World) : Calls Tryz.prog 101 #[.int .i32 97, (Value.agg #[.int .i64 xk, .int .u64 xv, .int .u64 xt, .int .i64 xs, .int .i64 xa, .int .i64 xc, .slice xD xn xq])] w fun e w' => e = .returned (.bool (wAt xa)) ∧ Gr w w' := by
 by_cases h0 : 0 ≤ xa
 ·by_cases h1 : xa ≤ 1048576
  ·go_enter Tryz.func101, Tryz.ntmps101
   go_wp2
   go_ret
   exact ⟨ret_bool (by simp [wVol, wSize, wAt, wCount, *]), gri⟩
  ·have f1 : decide (xa ≤ 1048576) = false := by simpa using h1
   go_enter Tryz.func101, Tryz.ntmps101
   go_wp2
   go_ret
   exact ⟨ret_bool (by simp [wVol, wSize, wAt, wCount, *]), gri⟩
 ·have f0 : decide (0 ≤ xa) = false := by simpa using h0
  go_enter Tryz.func101, Tryz.ntmps101
  go_wp2
  go_ret
  exact ⟨ret_bool (by simp [wVol, wSize, wAt, wCount, *]), gri⟩
theorem within_c (xk xv xt xs xa xc : Int) (xD : Option Addr) (xn xq : Nat) (w : World) : Calls Tryz.prog 101 #[.int .i32 99, (Value.agg #[.int .i64 xk, .int .u64 xv, .int .u64 xt, .int .i64 xs, .int .i64 xa, .int .i64 xc, .slice xD xn xq])] w fun e w' => e = .returned (.bool (wCount xc)) ∧ Gr w w' := by
 by_cases h0 : 1 ≤ xc
 ·by_cases h1 : xc ≤ 1024
  ·go_enter Tryz.func101, Tryz.ntmps101
   go_wp2
   go_ret
   exact ⟨ret_bool (by simp [wVol, wSize, wAt, wCount, *]), gri⟩
  ·have f1 : decide (xc ≤ 1024) = false := by simpa using h1
   go_enter Tryz.func101, Tryz.ntmps101
   go_wp2
   go_ret
   exact ⟨ret_bool (by simp [wVol, wSize, wAt, wCount, *]), gri⟩
 ·have f0 : decide (1 ≤ xc) = false := by simpa using h0
  go_enter Tryz.func101, Tryz.ntmps101
  go_wp2
  go_ret
  exact ⟨ret_bool (by simp [wVol, wSize, wAt, wCount, *]), gri⟩
theorem within_t (xk xv xt xs xa xc : Int) (xD : Option Addr) (xn xq : Nat) (w : World) : Calls Tryz.prog 101 #[.int .i32 116, (Value.agg #[.int .i64 xk, .int .u64 xv, .int .u64 xt, .int .i64 xs, .int .i64 xa, .int .i64 xc, .slice xD xn xq])] w fun e w' => e = .returned (.bool (wTo xt xv)) ∧ Gr w w' := by
 by_cases h0 : 1 ≤ xt
 ·by_cases h1 : xt < 4294967296
  ·rcases Bool.eq_false_or_eq_true (xt != xv) with h2 | h2
   all_goals
    go_enter Tryz.func101, Tryz.ntmps101
    go_wp2
    go_ret
    exact ⟨ret_bool (by simp only [wTo, h2, decide_eq_true h0, decide_eq_true h1]; rfl), gri⟩
  ·have f1 : decide (xt < 4294967296) = false := by simpa using h1
   go_enter Tryz.func101, Tryz.ntmps101
   go_wp2
   go_ret
   exact ⟨ret_bool (by simp [wTo, f1]), gri⟩
 ·have f0 : decide (1 ≤ xt) = false := by simpa using h0
  go_enter Tryz.func101, Tryz.ntmps101
  go_wp2
  go_ret
  exact ⟨ret_bool (by simp [wTo, f0]), gri⟩
theorem within_d (xk xv xt xs xa xc : Int) (xD : Option Addr) (xn xq : Nat) (w : World) : Calls Tryz.prog 101 #[.int .i32 100, (Value.agg #[.int .i64 xk, .int .u64 xv, .int .u64 xt, .int .i64 xs, .int .i64 xa, .int .i64 xc, .slice xD xn xq])] w fun e w' => e = .returned (.bool (wData xn)) ∧ Gr w w' := by
 go_enter Tryz.func101, Tryz.ntmps101
 go_wp2
 all_goals go_ret
 all_goals exact ⟨ret_bool (by rw [Bool.eq_iff_iff]; simp [wData]; omega), gri⟩
def sameB (xk xv xt xs xa xc yk yv yt ys ya yc : Int) (lx ly : List UInt8) : Bool := xk == yk && xv == yv && xt == yt && xs == ys && xa == ya && xc == yc && lx == ly
theorem same13_any (xk xv xt xs xa xc yk yv yt ys ya yc : Int) (xD yD : Option Addr) (xn xq yn yq : Nat) (lx ly : List UInt8) (w : World) (hx : lx.length = xn) (hy : ly.length = yn) (hn : xn ≤ 9223372036854775807) (h1 : Row bv w xD lx) (h2 : Row bv w yD ly) :
  Calls Tryz.prog 102 #[(Value.agg #[.int .i64 xk, .int .u64 xv, .int .u64 xt, .int .i64 xs, .int .i64 xa, .int .i64 xc, .slice xD xn xq]), (Value.agg #[.int .i64 yk, .int .u64 yv, .int .u64 yt, .int .i64 ys, .int .i64 ya, .int .i64 yc, .slice yD yn yq])] w fun e w' => e = .returned (.bool (sameB xk xv xt xs xa xc yk yv yt ys ya yc lx ly)) ∧ Gr w w' := by
 have HX := hd_ hx; clear hx
 have HY := hd_ hy; clear hy
 rcases Bool.eq_false_or_eq_true (xk == yk) with k1 | k1
 rotate_left
 ·go_enter Tryz.func102, Tryz.ntmps102
  go_wp2
  go_ret
  exact ⟨ret_bool (by simp [sameB, k1]), gri⟩
 rcases Bool.eq_false_or_eq_true (xv == yv) with k2 | k2
 rotate_left
 ·go_enter Tryz.func102, Tryz.ntmps102
  go_wp2
  go_ret
  exact ⟨ret_bool (by simp [sameB, k2]), gri⟩
 rcases Bool.eq_false_or_eq_true (xt == yt) with k3 | k3
 rotate_left
 ·go_enter Tryz.func102, Tryz.ntmps102
  go_wp2
  go_ret
  exact ⟨ret_bool (by simp [sameB, k3]), gri⟩
 rcases Bool.eq_false_or_eq_true (xs == ys) with k4 | k4
 rotate_left
 ·go_enter Tryz.func102, Tryz.ntmps102
  go_wp2
  go_ret
  exact ⟨ret_bool (by simp [sameB, k4]), gri⟩
 rcases Bool.eq_false_or_eq_true (xa == ya) with k5 | k5
 rotate_left
 ·go_enter Tryz.func102, Tryz.ntmps102
  go_wp2
  go_ret
  exact ⟨ret_bool (by simp [sameB, k5]), gri⟩
 rcases Bool.eq_false_or_eq_true (xc == yc) with k6 | k6
 rotate_left
 ·go_enter Tryz.func102, Tryz.ntmps102
  go_wp2
  go_ret
  exact ⟨ret_bool (by simp [sameB, k6]), gri⟩
 go_enter Tryz.func102, Tryz.ntmps102
 go_wp2_with (go_at_call 116; ((with_reducible refine (equalB_any _ _ _ _ _ _ lx ly _ HX.out HY.out hn (h1.gr (gri)) (h2.gr (gri))).mono ?_); rintro _ _ ⟨rfl, g, rfl⟩))
 go_ret
 exact ⟨ret_bool (by simp [sameB, k1, k2, k3, k4, k5, k6]), gri⟩
@[go_sem] theorem dec_d_0 : Utf8.decode ⟨#[100]⟩ 0 = (100, 1) := by decide +kernel
@[go_sem] theorem dec_dn_0 : Utf8.decode ⟨#[100, 110]⟩ 0 = (100, 1) := by decide +kernel
@[go_sem] theorem dec_dn_1 : Utf8.decode ⟨#[100, 110]⟩ 1 = (110, 1) := by decide +kernel
@[go_sem] theorem dec_do_0 : Utf8.decode ⟨#[100, 111]⟩ 0 = (100, 1) := by decide +kernel
@[go_sem] theorem dec_do_1 : Utf8.decode ⟨#[100, 111]⟩ 1 = (111, 1) := by decide +kernel
@[go_sem] theorem dec_dp_0 : Utf8.decode ⟨#[100, 112]⟩ 0 = (100, 1) := by decide +kernel
@[go_sem] theorem dec_dp_1 : Utf8.decode ⟨#[100, 112]⟩ 1 = (112, 1) := by decide +kernel
@[go_sem] theorem dec_n_0 : Utf8.decode ⟨#[110]⟩ 0 = (110, 1) := by decide +kernel
@[go_sem] theorem dec_v_0 : Utf8.decode ⟨#[118]⟩ 0 = (118, 1) := by decide +kernel
@[go_sem] theorem dec_vac_0 : Utf8.decode ⟨#[118, 97, 99]⟩ 0 = (118, 1) := by decide +kernel
@[go_sem] theorem dec_vac_1 : Utf8.decode ⟨#[118, 97, 99]⟩ 1 = (97, 1) := by decide +kernel
@[go_sem] theorem dec_vac_2 : Utf8.decode ⟨#[118, 97, 99]⟩ 2 = (99, 1) := by decide +kernel
@[go_sem] theorem dec_vad_0 : Utf8.decode ⟨#[118, 97, 100]⟩ 0 = (118, 1) := by decide +kernel
@[go_sem] theorem dec_vad_1 : Utf8.decode ⟨#[118, 97, 100]⟩ 1 = (97, 1) := by decide +kernel
@[go_sem] theorem dec_vad_2 : Utf8.decode ⟨#[118, 97, 100]⟩ 2 = (100, 1) := by decide +kernel
@[go_sem] theorem dec_vs_0 : Utf8.decode ⟨#[118, 115]⟩ 0 = (118, 1) := by decide +kernel
@[go_sem] theorem dec_vs_1 : Utf8.decode ⟨#[118, 115]⟩ 1 = (115, 1) := by decide +kernel
@[go_sem] theorem dec_vt_0 : Utf8.decode ⟨#[118, 116]⟩ 0 = (118, 1) := by decide +kernel
@[go_sem] theorem dec_vt_1 : Utf8.decode ⟨#[118, 116]⟩ 1 = (116, 1) := by decide +kernel
end Go.Proofs.YtddckdhnolmjoaaGreat
