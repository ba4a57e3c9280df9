/- A region that draws its order: calm operations, others one behind the other among them, and, behind all of these, what comes as the text has .. -/
import Derived.Test.YtddckdhnolmjoaaGreatW03
import Derived.Test.YtddckdhnolmjoaaGreatW04
import Derived.LoopTactic
import Derived.RangeFuncNested
import Derived.RangeFuncBound
import Derived.RangeFuncCalls
import Derived.RangeFuncLeaves
import Derived.Shelf.Abstract
import Derived.Shelf.RegionOpen
import Derived.OwnWalkIn
import Derived.TacticsInMore
import Derived.LoopNIn
import Derived.LoopIn
import Derived.RangeFuncFrom
import Derived.OrdersIn
set_option linter.unusedVariables false
set_option linter.unusedSimpArgs false
set_option linter.unnecessarySimpa false
set_option maxRecDepth 100000
set_option maxHeartbeats 8000000
namespace Go.Proofs.YtddckdhnolmjoaaGreat
open Go.RowKit
section
variable {P : Program} {ops : Array Oper} {md : Region.Mode} {W : World} {S : Type} {I : S → World → Prop}
def feT (P : Program) (md : Region.Mode) (ops : Array Oper) (W : World) (I : S → World → Prop) (n : Nat) (L : Array Bool → S → Act → Prop) : Nat → Array Bool → S → Act → Prop
 | 0, listed, s, a => L listed s a
 | f + 1, listed, s, a => Region.ready md ops listed ≠ [] ∧ ∀ i ∈ Region.ready md ops listed, i < n ∧ feOp P ops W I i (feT P md ops W I n L f (listed.setIfInBounds i true)) s a
theorem feT_any (G : Ghost W I) {n g : Nat} {L : Array Bool → S → Act → Prop} {Q' : Exit → Act → World → Prop} (hL : ∀ listed s a w, I s w → L listed s a → wpAny P md ops Q' g listed a w) :
  ∀ (f : Nat) (listed : Array Bool) (s : S) (a : Act) (w : World), I s w → feT P md ops W I n L f listed s a → wpAny P md ops Q' (f + g) listed a w
 | 0, listed, s, a, w, hw, h => by rw [Nat.zero_add]; exact hL _ _ _ _ hw h
 | f + 1, listed, s, a, w, hw, h => by
  rw [show f + 1 + g = (f + g) + 1 by omega]
  refine ⟨fun h0 => absurd h0 h.1, fun i hi => ?_⟩
  unfold wpOp
  rcases (h.2 i hi).2 with ⟨o, ho, v, hv, hk⟩ | ⟨o, ho, hg, hs⟩
  ·simp only [ho]
   rcases hv with ⟨hw1, hc⟩ | ⟨hw1, rfl⟩
   ·simp only [hw1, if_true]
    refine .inl ?_
    obtain ⟨gw, rfl⟩ := G.out _ _ hw
    have h3 := hc gw
    unfold calmAt at h3
    unfold Oper.wp
    generalize (execOp a.eval o).run P (grown W gw) = r at *
    cases r with
    | ok nx w' =>
     cases nx <;> simp only [calmUpon] at h3 <;> simp only [Oper.upon]
     case value u => obtain ⟨e1, e2⟩ := h3; rw [e1, e2]; exact feT_any G hL f _ _ _ _ hw hk
     case skip => obtain ⟨e1, e2⟩ := h3; rw [e1, ← e2]; exact feT_any G hL f _ _ _ _ hw hk
     case enter f' args =>
      obtain ⟨e1, hc'⟩ := h3
      rw [e1]
      exact hc'.mono fun e w'' ⟨he, hw''⟩ => by subst he; exact feT_any G hL f _ _ _ _ (G.grow _ _ _ hw hw'') hk
    | halt x w' => simp only [calmUpon] at h3
   ·simp only [hw1, Bool.false_eq_true, if_false]; exact feT_any G hL f _ _ _ _ hw hk
  ·simp only [ho, hg, if_true]
   refine .inl ?_
   have h3 := hs w hw
   unfold EffAt at h3
   unfold Oper.wp
   generalize (execOp a.eval o).run P w = r at *
   cases r with
   | ok nx w' =>
    cases nx <;> simp only [effUpon] at h3 <;> simp only [Oper.upon]
    case value u => obtain ⟨s', hi', hk⟩ := h3; exact feT_any G hL f _ _ _ _ hi' hk
    case skip => obtain ⟨s', hi', hk⟩ := h3; exact feT_any G hL f _ _ _ _ hi' hk
    case enter f' args => exact h3.mono fun e w'' ⟨v, he, s', hi', hk⟩ => by subst he; exact feT_any G hL f _ _ _ _ hi' hk
   | halt x w' => simp only [effUpon] at h3
theorem feT_first {n i : Nat} {oi : Oper} {v : Value} {L : Array Bool → S → Act → Prop} (hi : ops[i]? = some oi) (hsel : ∀ (j : Nat) (o : Oper) cs b, ops[j]? = some o → o.op ≠ .select cs b)
  (hs : Region.sinkB md ops n = true) (hc : Region.chainB md ops n = true) (hn : n < ops.size) (hin : i < n) (hdone : ∀ listed s a, L listed s a → ∀ j ∈ Region.ready md ops listed, n ≤ j) :
  ∀ (f : Nat) (listed : Array Bool) (s : S) (a : Act), HeadInv md ops n listed →
   (∀ j oj, ops[j]? = some oj → j ≠ i → listed.getD j true = false → (∀ e ∈ oj.after, Region.binds md e = true → e.on ≠ i) → oi.apart ops oj = true) →
   i ∈ Region.ready md ops listed → CalmOp P ops W oi v a →
   feT P md ops W I n L f (listed.setIfInBounds i true) s (a.put oi.dst v) → feT P md ops W I n L (f + 1) listed s a := by
 intro f
 induction f with
 | zero =>
  intro listed s a inv _ hr hy H
  refine ⟨(fun h => by rw [h] at hr; cases hr), fun j hj => ?_⟩
  have hjn : j < n := (Nat.lt_or_ge j n).elim id fun h => absurd hj (tail_waits hs hc hn inv _ i rfl hin (mem_ready.1 hr).1 j h)
  by_cases hji : j = i
  ·subst hji; exact ⟨hjn, .inl ⟨oi, hi, v, hy, H⟩⟩
  ·have := hdone _ _ _ H j (ready_mono hj hji)
   omega
 | succ f ih =>
  intro listed s a inv hfree hr hy H
  have hun := (mem_ready.1 hr).1
  refine ⟨(fun h => by rw [h] at hr; cases hr), fun j hj => ?_⟩
  have hjn : j < n := (Nat.lt_or_ge j n).elim id fun h => absurd hj (tail_waits hs hc hn inv _ i rfl hin hun j h)
  refine ⟨hjn, ?_⟩
  by_cases hji : j = i
  ·subst hji; exact .inl ⟨oi, hi, v, hy, H⟩
  have h1 := (H.2 j (ready_mono hj hji)).2
  obtain ⟨hjun, oj, hoj, hall⟩ := mem_ready.1 hj
  have hnot : ∀ e ∈ oj.after, Region.binds md e = true → e.on ≠ i := fun e he hb heq => by
   have h1 := hall e he hb
   rw [heq, getD_both hun] at h1
   cases h1
  have h2 := feOp_put hoj (hfree j oj hoj hji hjun hnot) (fun cs b => hsel i oi cs b hi) (fun cs b => hsel j oj cs b hoj) hy h1
  have hfree' : ∀ k ok, ops[k]? = some ok → k ≠ i → (listed.setIfInBounds j true).getD k true = false →
    (∀ e ∈ ok.after, Region.binds md e = true → e.on ≠ i) → oi.apart ops ok = true := fun k ok hk hki hu hno => by
   refine hfree k ok hk hki ?_ hno
   by_cases hjk : j = k
   ·subst hjk; exact hjun
   ·rw [getD_set_ne true hjk] at hu; exact hu
  refine feOp_mono (fun s' a' h3 => ih (listed.setIfInBounds j true) s' a' (inv.set hj hjn) hfree' (ready_mono hr (Ne.symm hji)) h3.1 ?_) h2
  rw [Array.setIfInBounds_comm _ _ hji]
  exact h3.2
end
section
variable {P : Program} {md : Region.Mode} {W : World} {S : Type} {I : S → World → Prop} {l : List Oper}
theorem feT_lex {n : Nat} {L : Array Bool → S → Act → Prop} (hsel : Region.noSelect l.toArray = true) (hs : Region.sinkB md l.toArray n = true) (hc : Region.chainB md l.toArray n = true) (hn : n < l.toArray.size) (hdone : ∀ listed s a, L listed s a → ∀ j ∈ Region.ready md l.toArray listed, n ≤ j) (m : Nat) :
  ∀ (qs : List Nat) (listed : Array Bool) (s : S) (a : Act), (∀ k ∈ qs, k < n) → HeadInv md l.toArray n listed → freeAll md l.toArray qs listed = true → wpCalm P l.toArray W (fun a' => feT P md l.toArray W I n L m (listAll qs listed) s a') (pick l qs) a →
   feT P md l.toArray W I n L (qs.length + m) listed s a
 | [], listed, s, a, _, inv, hB, h => by
  rw [List.length_nil, Nat.zero_add]
  exact h
 | k :: r, listed, s, a, hq, inv, hB, h => by
  simp only [freeAll, Bool.and_eq_true] at hB
  obtain ⟨⟨hr, hf⟩, hB'⟩ := hB
  have hr' : k ∈ Region.ready md l.toArray listed := by simpa using hr
  obtain ⟨_, o, ho, _⟩ := mem_ready.1 hr'
  have ho' : l[k]? = some o := by simpa using ho
  have hkn := hq k (.head _)
  rw [pick_cons ho'] at h
  rw [show (k :: r).length + m = (r.length + m) + 1 by simp; omega]
  have hq' : ∀ j ∈ r, j < n := fun j hj => hq j (.tail _ hj)
  unfold wpCalm at h
  by_cases hw : Region.wanted o (yielded l.toArray a.tmps) = true
  ·simp only [hw, if_true] at h
   obtain ⟨v, hv, hk⟩ := h
   exact feT_first ho (Region.noSelect_spec hsel) hs hc hn hkn hdone _ listed s a inv (Region.free_spec ho hf) hr' (.inl ⟨hw, hv⟩) (feT_lex hsel hs hc hn hdone m r _ _ _ hq' (inv.set hr' hkn) hB' hk)
  ·simp only [hw] at h
   exact feT_first ho (Region.noSelect_spec hsel) hs hc hn hkn hdone _ listed s a inv (Region.free_spec ho hf) hr' (.inr ⟨by simpa using hw, rfl⟩) (feT_lex hsel hs hc hn hdone m r _ _ _ hq' (inv.set hr' hkn) hB' h)
def treeTB (md : Region.Mode) (ops : Array Oper) (qs : List Nat) (m n : Nat) : Bool :=
 Region.noSelect ops && decide (n < ops.size) && Region.sinkB md ops n && Region.chainB md ops n && decide (qs.length + m = n) && qs.all (fun k => decide (k < n)) && freeAll md ops qs (Array.replicate ops.size false)
theorem wp_region_treeT {id : Nat} {Q : Exit → Act → World → Prop} {a : Act} {w : World} (G : Ghost W I) (s : S) (hw : I s w.drew) (qs : List Nat) (m n : Nat) (hm : P.follows .mixedOrders = true) (hB : treeTB .any l.toArray qs m n = true)
  (h : wpCalm P l.toArray W (fun a' => feT P .any l.toArray W I n (fun listed s a => Region.seqB .any l.toArray (l.toArray.size - n) n listed = true ∧ ∀ w', I s w' → wpList P l.toArray Q (l.drop n) a w') m (listAll qs (Array.replicate l.toArray.size false)) s a') (pick l qs) a) : (Code.region id l.toArray true).wp P Q a w := by
 simp only [treeTB, Bool.and_eq_true, decide_eq_true_eq] at hB
 obtain ⟨⟨⟨⟨⟨⟨hsel, hn⟩, hs⟩, hc⟩, hlen⟩, hall⟩, hfree⟩ := hB
 have hall' : ∀ k ∈ qs, k < n := fun k hk => by simpa using List.all_eq_true.1 hall k hk
 have hdl : (l.drop n).length = l.toArray.size - n := by simp
 have inv0 : HeadInv .any l.toArray n (Array.replicate l.toArray.size false) :=
  ⟨by simp, (fun j oj _ hl => by rw [getD_replicate_false] at hl; cases hl), fun t _ ht => getD_in (by simpa using ht) (getD_replicate_false _ _)⟩
 have H := feT_lex (md := .any) (P := P) (W := W) (I := I) hsel hs hc hn (fun listed s a hL => seqB_ready hL.1) m qs _ s a hall' inv0 hfree h
 refine wp_region_any hm ?_
 have := feT_any (Q' := Q) (g := l.toArray.size - n) G (fun listed s a' w' hw' hL => by
  have := wpAny_of_seq (md := .any) (Q' := Q) (l.drop n) n listed a' w' (fun j => by simp [List.getElem?_drop]) (by rw [hdl]; exact hL.1) (hL.2 w' hw')
  rwa [hdl] at this) _ _ _ _ _ hw H
 rw [hlen, show n + (l.toArray.size - n) = l.toArray.size by simp at hn ⊢; omega] at this
 exact this
theorem effAt_call' {o : Oper} {a : Act} {w : World} {R : Value → World → Prop} (f : FuncId) (args : Array Value) (he : (execOp a.eval o).run P w = .ok (.enter f args) w) (h : Calls P f args w (fun e w' => ∃ v, e = .returned v ∧ R v w')) : EffAt P o a w R := by
 unfold EffAt
 rw [he]
 exact h
section
variable {ops : Array Oper} {L : Array Bool → S → Act → Prop} {f n : Nat} {listed : Array Bool} {s : S} {a : Act}
theorem ft_one (i : Nat) (hr : Region.ready md ops listed = [i]) (hi : i < n) (h : feOp P ops W I i (feT P md ops W I n L f (listed.setIfInBounds i true)) s a) : feT P md ops W I n L (f + 1) listed s a :=
 ⟨fun h0 => by (rw [hr] at h0; cases h0), fun k hk => by (rw [hr] at hk; obtain rfl : k = i := by simpa using hk); exact ⟨hi, h⟩⟩
theorem ft_eff (i : Nat) {o : Oper} (hr : Region.ready md ops listed = [i]) (hi : i < n) (ho : ops[i]? = some o) (hg : o.guard = none) (h : ∀ w, I s w → EffAt P o a w (fun v w' => ∃ s', I s' w' ∧ feT P md ops W I n L f (listed.setIfInBounds i true) s' (a.put o.dst v))) : feT P md ops W I n L (f + 1) listed s a :=
 ft_one i hr hi (fe_eff o ho hg h)
theorem ft_calm (i : Nat) {o : Oper} (v : Value) (hr : Region.ready md ops listed = [i]) (hi : i < n) (ho : ops[i]? = some o) (hg : o.guard = none) (hc : ∀ g : Growth W, calmAt P o a (grown W g) v) (h : feT P md ops W I n L f (listed.setIfInBounds i true) s (a.put o.dst v)) : feT P md ops W I n L (f + 1) listed s a :=
 ft_one i hr hi (fe_calm o v ho hg hc h)
theorem ft_end (h : L listed s a) : feT P md ops W I n L 0 listed s a := h
end
end
section
variable {P : Program} {W : World} {ops : Array Oper} {rest : List Oper} {o : Oper} {a : Act} {Q : Exit → Act → World → Prop} {q : IntKind} {b : Nat} {L : List (Int × Value)} {t kt et : TypeId}
theorem wpList_updateK (hgd : o.guard = none) (m x v : Operand) (ho : o.op = .mapUpdate t m x v) (key : Int) (val : Value) (ht : P.underlying t = some (.map kt et)) (hk : P.underlying kt = some (.int q)) (hm : MapAt q W b L) (hm2 : a.eval m = .map (some b)) (hx : a.eval x = .int q key) (hv : a.eval v = val)
  (h : ∀ W', MapAt q W' b (putK L key val) → OnlyB W W' b → wpList P ops Q rest (a.put o.dst undef) W') : wpList P ops Q (o :: rest) a W := by
 refine wpList_plain hgd fun K hK => ?_
 obtain ⟨W', hrun, h1, h2⟩ := map_update (P := P) ht hk hm key val
 unfold Oper.wp
 simp [execOp, ho, hm2, hx, hv, hrun, Result.andThen]
 exact hK _ _ (h W' h1 h2)
theorem wpList_deleteK (hgd : o.guard = none) (m x : Operand) (ho : o.op = .call { callee := .builtin .delete, args := #[m, x], argTypes := #[t, kt] }) (key : Int) (ht : P.underlying t = some (.map kt et)) (hk : P.underlying kt = some (.int q)) (hm : MapAt q W b L) (hm2 : a.eval m = .map (some b)) (hx : a.eval x = .int q key)
  (h : ∀ W', MapAt q W' b (delK L key) → OnlyB W W' b → wpList P ops Q rest (a.put o.dst (.tuple #[])) W') : wpList P ops Q (o :: rest) a W := by
 refine wpList_plain hgd fun K hK => ?_
 obtain ⟨W', hrun, h1, h2⟩ := map_delete (P := P) ht hk hm key o.type
 unfold Oper.wp
 simp [execOp, ho, resolve, invoke, builtin, hm2, hx, hrun, Result.andThen]
 exact hK _ _ (h W' h1 h2)
theorem effAt_makeMap {w : World} {R : Value → World → Prop} (ho : o.op = .makeMap t none) (h : R (.map (some w.heap.size)) (w.alloc (.map #[] 0))) : EffAt P o a w R := by
 unfold EffAt execOp
 simp only [ho]
 simp [run_makeMap, effUpon]
 exact h
end
theorem OnlyB.blockAt {W W' : World} {b : Nat} (h : OnlyB W W' b) {B : Nat} {cs : Array Value} {t : TypeId} (hB : BlockAt W B cs t) (hne : B ≠ b) : BlockAt W' B cs t := ⟨(h.block hne).trans hB.eq⟩
theorem OnlyB.mapAt {W W' : World} {b : Nat} (h : OnlyB W W' b) {q : IntKind} {B : Nat} {L : List (Int × Value)} (hB : MapAt q W B L) (hne : B ≠ b) : MapAt q W' B L := hB.keep (h.block hne)
def volF (mb : Int → Nat) (p : Int × VolM) : Int × Value := (p.1, .agg #[.int .i64 p.2.1, .map (some (mb p.1))])
theorem putK_vols (d : Dev) (mb : Int → Nat) (b : Nat) (v : Int) (x : VolM) : ∀ (hs : SortK d), putK (d.map (volF mb)) v (.agg #[.int .i64 x.1, .map (some b)]) = (putK d v x).map (volF fun u => if u = v then b else mb u) := by
 have hmap : ∀ (l : Dev), (∀ p ∈ l, p.1 ≠ v) → l.map (volF mb) = l.map (volF fun u => if u = v then b else mb u) := fun l hl => List.map_congr_left fun p hp => by simp [volF, hl p hp]
 induction d with
 | nil => intro _; simp [putK, volF]
 | cons p r ih =>
  obtain ⟨a, y⟩ := p
  intro hs
  have h1 := List.pairwise_cons.1 hs
  simp only [List.map_cons, putK, volF]
  by_cases h2 : v < a
  ·rw [if_pos h2, if_pos h2]
   have h3 := hmap ((a, y) :: r) (fun p hp => by
    rcases List.mem_cons.1 hp with rfl | hp
    ·simp; omega
    ·have := h1.1 p hp; simp at this; omega)
   simp only [List.map_cons, volF] at h3
   simp only [List.map_cons, volF]
   rw [h3]
   simp
  ·rw [if_neg h2, if_neg h2]
   by_cases h3 : v = a
   ·rw [if_pos h3, if_pos h3]
    have h4 := hmap r (fun p hp => by have := h1.1 p hp; simp at this; omega)
    rw [List.map_cons, ← h4]
    simp [volF]
   ·rw [if_neg h3, if_neg h3, List.map_cons]
    have h4 : ¬ a = v := fun e => h3 e.symm
    have h5 := ih h1.2
    unfold volF at h5 ⊢
    rw [h5]
    simp [h4]
theorem DevIn.put {base : Nat} {w W W' : World} {D M : Nat} {mb : Int → Nat} {d : Dev} (h : DevIn base w D M mb d) (g : Gr w W) (v : Int) (x : VolM) (b : Nat) (hm : MapAt .i64 W b (encK bkV x.2)) (hb : w.heap.size ≤ b ∨ (b = mb v ∧ ∃ y, (v, y) ∈ d))
  (h1 : MapAt .u64 W' M (putK (d.map fun p => (p.1, .agg #[.int .i64 p.2.1, .map (some (mb p.1))])) v (.agg #[.int .i64 x.1, .map (some b)]))) (h2 : OnlyB W W' M) (hok : DevOk (putK d v x)) (hbase : base ≤ w.heap.size) : DevIn base W' D M (fun u => if u = v then b else mb u) (putK d v x) := by
 have hlt : ∀ p ∈ d, mb p.1 < w.heap.size := fun p hp => (h.vol p hp).lt
 have hMl := h.all.lt
 have hDM : D ≠ M := by
  rintro rfl
  obtain ⟨es, clock, he, _⟩ := h.all
  have := h.blk.eq
  rw [he] at this
  cases this
 have hbM : b ≠ M := by
  rcases hb with hb | ⟨rfl, y, hy⟩
  ·omega
  ·exact h.ne _ hy
 refine ⟨h2.blockAt (h.blk.gr g) hDM, ?_, fun p hp => ?_, fun p hp r hr => ?_, fun p hp => ?_, h.bD, h.bM, fun p hp => ?_, hok⟩
 ·have := putK_vols d mb b v x h.ok.sort
  unfold volF at this
  rw [← this]
  exact h1
 ·rcases (mem_putK h.ok.sort p).1 hp with rfl | ⟨hp, hne⟩
  ·simp only [if_true]
   exact h2.mapAt hm hbM
  ·simp only [if_neg hne]
   exact h2.mapAt ((h.vol p hp).gr g) (h.ne p hp)
 ·rcases (mem_putK h.ok.sort p).1 hp with rfl | ⟨hp, hne⟩ <;> rcases (mem_putK h.ok.sort r).1 hr with rfl | ⟨hr, hnr⟩
  ·exact fun _ => rfl
  ·simp only [if_true, if_neg hnr]
   intro e
   rcases hb with hb | ⟨rfl, y, hy⟩
   ·have := hlt r hr; omega
   ·exact h.inj _ hy _ hr e
  ·simp only [if_true, if_neg hne]
   intro e
   rcases hb with hb | ⟨rfl, y, hy⟩
   ·have := hlt p hp; omega
   ·exact h.inj _ hp _ hy e
  ·simp only [if_neg hne, if_neg hnr]
   exact h.inj p hp r hr
 ·rcases (mem_putK h.ok.sort p).1 hp with rfl | ⟨hp, hne⟩
  ·simp only [if_true]; exact hbM
  ·simp only [if_neg hne]; exact h.ne p hp
 ·rcases (mem_putK h.ok.sort p).1 hp with rfl | ⟨hp, hne⟩
  ·simp only [if_true]
   rcases hb with hb | ⟨rfl, y, hy⟩
   ·omega
   ·exact h.bV _ hy
  ·simp only [if_neg hne]; exact h.bV p hp
theorem delK_vols (d : Dev) (mb : Int → Nat) (v : Int) : delK (d.map (volF mb)) v = (delK d v).map (volF mb) := by
 simp only [delK, List.filter_map]; rfl
theorem DevIn.del {base : Nat} {w W W' : World} {D M : Nat} {mb : Int → Nat} {d : Dev} (h : DevIn base w D M mb d) (g : Gr w W) (v : Int)
  (h1 : MapAt .u64 W' M (delK (d.map fun p => (p.1, .agg #[.int .i64 p.2.1, .map (some (mb p.1))])) v)) (h2 : OnlyB W W' M) : DevIn base W' D M mb (delK d v) := by
 have hDM : D ≠ M := by
  rintro rfl
  obtain ⟨es, clock, he, _⟩ := h.all
  have := h.blk.eq
  rw [he] at this
  cases this
 have hm : ∀ p ∈ delK d v, p ∈ d := fun p hp => (List.mem_filter.1 hp).1
 refine ⟨h2.blockAt (h.blk.gr g) hDM, ?_, fun p hp => h2.mapAt ((h.vol p (hm p hp)).gr g) (h.ne p (hm p hp)), fun p hp r hr => h.inj p (hm p hp) r (hm r hr), fun p hp => h.ne p (hm p hp), h.bD, h.bM, fun p hp => h.bV p (hm p hp), del_ok h.ok v⟩
 have := delK_vols d mb v
 unfold volF at this
 rw [← this]
 exact h1
theorem DevIn.keep {base : Nat} {W W' : World} {D M : Nat} {mb : Int → Nat} {d : Dev} (h : DevIn base W D M mb d) {B : Nat} {cs : Array Value} {t : TypeId} (hB : BlockAt W B cs t) (ht : t ≠ 55) (hk : ∀ i, i ≠ B → W'.heap[i]? = W.heap[i]?) : DevIn base W' D M mb d := by
 have hmap : ∀ {q : IntKind} {b : Nat} {L : List (Int × Value)}, MapAt q W b L → b ≠ B := fun hm e => by
  obtain ⟨es, clock, he, _⟩ := hm
  subst e
  rw [hB.eq] at he
  cases he
 have hD : D ≠ B := fun e => by
  subst e
  have := h.blk.eq
  rw [hB.eq] at this
  cases this
  exact ht rfl
 exact ⟨⟨(hk D hD).trans h.blk.eq⟩, h.all.keep (hk M (hmap h.all)), fun p hp => (h.vol p hp).keep (hk _ (hmap (h.vol p hp))), h.inj, h.ne, h.bD, h.bM, h.bV, h.ok⟩
theorem DevIn.setCell {base : Nat} {W : World} {D M : Nat} {mb : Int → Nat} {d : Dev} (h : DevIn base W D M mb d) (B o : Nat) (v : Value) {cs : Array Value} {t : TypeId} [hB : BlockAt W B cs t] (ht : t ≠ 55) : DevIn base (W.setCell ⟨B, o, none⟩ v) D M mb d :=
 h.keep hB ht fun i hi => Below.heap_setCell W ⟨B, o, none⟩ v i hi
theorem ans_dev {base : Nat} {W : World} {D M : Nat} {mb : Int → Nat} {d : Dev} (h : DevIn base W D M mb d) {B : Nat} {cs : Array Value} {t : TypeId} (hB : BlockAt W B cs t) (ht : t ≠ 55) (c0 c1 c2 : Value) : DevAt base (((W.setCell ⟨B, 0, none⟩ c0).setCell ⟨B, 1, none⟩ c1).setCell ⟨B, 2, none⟩ c2) D d :=
 ⟨M, mb, ((h.setCell B 0 c0 ht).setCell B 1 c1 ht).setCell B 2 c2 ht⟩
theorem ans_below {base : Nat} {w W : World} (h : Below base w W) {B : Nat} (hB : base ≤ B) (c0 c1 c2 : Value) : Below base w (((W.setCell ⟨B, 0, none⟩ c0).setCell ⟨B, 1, none⟩ c1).setCell ⟨B, 2, none⟩ c2) :=
 ((h.setCell (p := ⟨B, 0, none⟩) hB c0).setCell (p := ⟨B, 1, none⟩) hB c1).setCell (p := ⟨B, 2, none⟩) hB c2
theorem ans_block {W : World} {B : Nat} {z0 z1 z2 : Value} {t : TypeId} (hB : BlockAt W B #[z0, z1, z2] t) (c0 c1 c2 : Value) : BlockAt (((W.setCell ⟨B, 0, none⟩ c0).setCell ⟨B, 1, none⟩ c1).setCell ⟨B, 2, none⟩ c2) B #[c0, c1, c2] t := by
 show BlockAt _ _ (((#[z0, z1, z2].setIfInBounds 0 c0).setIfInBounds 1 c1).setIfInBounds 2 c2) _
 infer_instance
theorem MapAt.ne_block {W : World} {q : IntKind} {b : Nat} {L : List (Int × Value)} (h : MapAt q W b L) {B : Nat} {cs : Array Value} {t : TypeId} (hB : BlockAt W B cs t) : B ≠ b := fun e => by
 obtain ⟨es, clock, he, _⟩ := h
 subst e
 rw [hB.eq] at he
 cases he
theorem OnlyB.blockM {W W' : World} {b : Nat} (h : OnlyB W W' b) {q : IntKind} {L : List (Int × Value)} (hm : MapAt q W b L) {B : Nat} {cs : Array Value} {t : TypeId} (hB : BlockAt W B cs t) : BlockAt W' B cs t := h.blockAt hB (hm.ne_block hB)
theorem putK_same (d : Dev) (mb : Int → Nat) (v : Int) (x : VolM) (m : List (Int × Byt)) : ∀ (hs : SortK d), getK d v = some x → (putK d v (x.1, m)).map (volF mb) = d.map (volF mb) := by
 induction d with
 | nil => intro _ h; cases h
 | cons p r ih =>
  obtain ⟨a, y⟩ := p
  intro hs h
  have h1 := List.pairwise_cons.1 hs
  unfold getK at h
  unfold putK
  by_cases ha : a = v
  ·rw [if_pos ha] at h
   cases h
   subst ha
   rw [if_neg (by omega), if_pos rfl]
   rfl
  ·rw [if_neg ha] at h
   have hm := (getK_mem h1.2).1 h
   have := h1.1 _ hm
   simp only at this
   rw [if_neg (by omega), if_neg (fun e => ha e.symm), List.map_cons, ih h1.2 h, List.map_cons]
theorem DevIn.inner {base : Nat} {W W' : World} {D M : Nat} {mb : Int → Nat} {d : Dev} (h : DevIn base W D M mb d) (v : Int) (x : VolM) (hv : getK d v = some x) (m : List (Int × Byt)) (h1 : MapAt .i64 W' (mb v) (encK bkV m)) (h2 : OnlyB W W' (mb v)) (hok : VolOk (x.1, m)) : DevIn base W' D M mb (putK d v (x.1, m)) := by
 have hx := (getK_mem h.ok.sort).1 hv
 have hm := h.vol _ hx
 have hk := h.ok.keys _ hx
 refine ⟨h2.blockM hm h.blk, ?_, fun p hp => ?_, fun p hp r hr => ?_, fun p hp => ?_, h.bD, h.bM, fun p hp => ?_, put_ok h.ok hk.1 hk.2 hok⟩
 ·have e := putK_same d mb v x m h.ok.sort hv
  unfold volF at e
  rw [e]
  exact h2.mapAt h.all (fun e2 => h.ne _ hx e2.symm)
 ·rcases (mem_putK h.ok.sort p).1 hp with rfl | ⟨hp, hne⟩
  ·exact h1
  ·exact h2.mapAt (h.vol p hp) (fun e2 => hne (h.inj p hp _ hx e2))
 ·rcases (mem_putK h.ok.sort p).1 hp with rfl | ⟨hp, hne⟩ <;> rcases (mem_putK h.ok.sort r).1 hr with rfl | ⟨hr, hnr⟩
  ·exact fun _ => rfl
  ·exact h.inj (v, x) hx r hr
  ·exact h.inj p hp (v, x) hx
  ·exact h.inj p hp r hr
 ·rcases (mem_putK h.ok.sort p).1 hp with rfl | ⟨hp, hne⟩
  ·exact h.ne (v, x) hx
  ·exact h.ne p hp
 ·rcases (mem_putK h.ok.sort p).1 hp with rfl | ⟨hp, hne⟩
  ·exact h.bV (v, x) hx
  ·exact h.bV p hp
theorem getK_put_self {d : Dev} (hs : SortK d) (v : Int) (x : VolM) : getK (putK d v x) v = some x := by rw [getK_put hs, if_pos rfl]
theorem putK_putK (d : Dev) (v : Int) (x y : VolM) (hs : SortK d) : putK (putK d v x) v y = putK d v y := by
 refine sort_ext (sort_putK (sort_putK hs)) (sort_putK hs) fun p => ?_
 rw [mem_putK (sort_putK hs), mem_putK hs, mem_putK hs]
 constructor
 ·rintro (h | ⟨h | h, hn⟩)
  ·exact .inl h
  ·subst h; exact absurd rfl hn
  ·exact .inr h
 ·rintro (h | h)
  ·exact .inl h
  ·exact .inr ⟨.inr h, h.2⟩
theorem putK_own {d : Dev} (hs : SortK d) {v : Int} {x : VolM} (h : getK d v = some x) : putK d v x = d := by
 refine sort_ext (sort_putK hs) hs fun p => ?_
 rw [mem_putK hs]
 constructor
 ·rintro (rfl | h2)
  ·exact (getK_mem hs).1 h
  ·exact h2.1
 ·intro hp
  by_cases hv : p.1 = v
  ·subst hv
   have := (getK_mem hs).2 hp
   rw [h] at this
   cases this
   exact .inl rfl
  ·exact .inr ⟨hp, hv⟩
structure CK (W W' : World) : Prop where
 size : W.heap.size ≤ W'.heap.size
 keep : ∀ (b : Nat) cs t f, W.heap[b]? = some (Obj.cells cs t f) → W'.heap[b]? = W.heap[b]?
theorem CK.refl (W : World) : CK W W := ⟨Nat.le_refl _, fun _ _ _ _ _ => rfl⟩
theorem CK.gr {W W' : World} (g : Gr W W') : CK W W' := ⟨g.below.size, fun b cs t f h => g.below.block b (Array.getElem?_eq_some_iff.1 h).1⟩
theorem CK.trans {A B C : World} (h : CK A B) (k : CK B C) : CK A C := ⟨Nat.le_trans h.size k.size, fun b cs t f hb => (k.keep b cs t f ((h.keep b cs t f hb).trans hb)).trans (h.keep b cs t f hb)⟩
theorem CK.only {W W' : World} {q : IntKind} {b : Nat} {L : List (Int × Value)} (hm : MapAt q W b L) (h : OnlyB W W' b) : CK W W' := ⟨Nat.le_of_eq h.2.symm, fun c cs t f hc => h.block fun e => by
 obtain ⟨es, clock, he, _⟩ := hm
 subst e
 rw [hc] at he
 cases he⟩
theorem CK.block {W W' : World} (h : CK W W') {B : Nat} {cs : Array Value} {t : TypeId} (hB : BlockAt W B cs t) : BlockAt W' B cs t := ⟨(h.keep B _ _ _ hB.eq).trans hB.eq⟩
theorem CK.cell {W W' : World} (h : CK W W') {b o : Nat} {v : Value} (hc : W.cell? ⟨b, o, none⟩ = some v) : W'.cell? ⟨b, o, none⟩ = some v := by
 cases hb : W.heap[b]? with
 | none => simp [World.cell?, hb] at hc
 | some ob =>
  cases ob with
  | cells cs t f =>
   have := h.keep b cs t f hb
   rw [← hc]
   simp [World.cell?, this]
  | _ => simp [World.cell?, hb] at hc
theorem ck_ans {w W : World} (h : CK w W) {B : Nat} (hB : w.heap.size ≤ B) (c0 c1 c2 : Value) : CK w (((W.setCell ⟨B, 0, none⟩ c0).setCell ⟨B, 1, none⟩ c1).setCell ⟨B, 2, none⟩ c2) where
 size := by have := h.size; simpa [World.setCell] using this
 keep := fun b cs t f hb => by
  have hl := (Array.getElem?_eq_some_iff.1 hb).1
  have hne : b ≠ B := by omega
  rw [Below.heap_setCell _ _ _ _ hne, Below.heap_setCell _ _ _ _ hne, Below.heap_setCell _ _ _ _ hne]
  exact h.keep b cs t f hb
def OpPost (base D : Nat) (d : Dev) (code done : Int) (w : World) (e : Ending) (w' : World) : Prop :=
 e = .returned (.agg #[.int .i64 code, .int .i64 done, .slice none 0 0]) ∧ DevAt base w' D d ∧ Below base w w' ∧ CK w w'
theorem run_resCell1 {P : Program} {W : World} {fn : Func} {p : Tmp} {t : TypeId} (h : fn.results = #[.cell p t]) (tmps : Array Value) (B : Nat) (cs : Array Value) (d : TypeDesc) (hp : tmps.getD p undef = .pointer (some ⟨B, 0, none⟩)) (hB : BlockAt W B cs t) (hu : P.underlying t = some d) (hd : (match d with | .struct _ | .array _ _ => true | _ => false) = true) (hi : (P.info? t).map (·.size) = some cs.size) :
  (results fn tmps).run P W = .ok (.agg cs) W := results_cell_row h tmps W B t cs (0, 0) d hp hB.eq hu hd hi
theorem create_any (xv xt xs xa xc most : Int) (xD : Option Addr) (xn xq : Nat) (hn : xn ≤ 1000000) (base D : Nat) (d : Dev) (w : World) (h : DevAt base w D d) (hbase : base ≤ w.heap.size) (hok : DevOk (putK d xv (xs, []))) :
  Calls Tryz.prog 38 #[.pointer (some ⟨D, 0, none⟩), .agg #[.int .i64 1, .int .u64 xv, .int .u64 xt, .int .i64 xs, .int .i64 xa, .int .i64 xc, .slice xD xn xq], .int .i64 most] w (OpPost base D (putK d xv (xs, [])) 0 0 w) := by
 obtain ⟨M, mb, h⟩ := h
 haveI := h.blk
 have x0 : w.cell? ⟨D, 0, none⟩ = some (.map (some M)) := (bc 0 h.blk).trans rfl
 haveI : Old D w := h.blk.old
 have HD := hd_ h
 have HOK := hd_ hok
 clear h hok
 go_enter Tryz.func38, Tryz.ntmps38
 go_wp2
 refine wp_region_treeT (inCls_ghost _) (Cls.none _) ⟨Gr.of ((Below.refl _ _).drew), trivial⟩ [0, 1, 2, 3, 4, 5, 6, 7, 8] 2 11 (by kernel_rfl) (by kernel_rfl) ?_
 simp only [pick, List.drop, List.take, List.nil_append, List.cons_append]
 repeat (refine wpCalm_step (fun K hK => ?_); go_simp; first | (refine hK _ ?_; clear hK K) | (apply Exists.intro; refine ⟨fun _ => ?_, hK _ ?_⟩; ((go_at_call 71; exact part_1 _ _ _ _ _ _ _ _ (by omega) _)); clear hK K))
 refine wpCalm_nil ?_
 refine ft_eff 9 (by kernel_rfl) (by omega) rfl rfl fun w1 hw1 => effAt_makeMap rfl ?_
 refine ⟨⟨fun w2 => MapAt .i64 w2 w1.heap.size [], fun a b h g => h.gr g⟩, ⟨hw1.1.trans gri, mapAt_new w1 .i64⟩, ?_⟩
 have hsz := hw1.1.below.size
 generalize w1.heap.size = b at *
 clear hw1 w1
 simp only [Act.put, stA, List.set]
 refine ft_calm 10 (.agg #[.int .i64 xs, .map (some b)]) (by kernel_rfl) (by omega) rfl rfl (fun g => by unfold calmAt; go_simp) ?_
 simp only [Act.put, stA, List.set]
 refine ft_end ⟨by kernel_rfl, fun w2 hw2 => ?_⟩
 try simp only [List.drop_succ_cons, List.drop_zero]
 have g2 : Gr w w2 := Gr.trans gri hw2.1
 refine wpList_updateK rfl _ _ _ rfl xv _ Tryz.underlying53 Tryz.underlying24 (HD.out.all.gr g2) rfl rfl rfl fun W' h1 h2 => ?_
 have hMl : M < w.heap.size := HD.out.all.lt
 have HD' := HD.out.put g2 xv (xs, []) b hw2.2 (.inl (by simp at hsz; omega)) h1 h2 HOK.out hbase
 haveI hB1 : BlockAt W' (w.heap.size + 1) #[.int .i64 0, .int .i64 0, .slice none 0 0] 38 := h2.blockAt (BlockAt.gr (inferInstance : BlockAt _ (w.heap.size + 1) _ _) hw2.1) (by omega)
 have hck := (CK.gr g2).trans (CK.only (HD.out.all.gr g2) h2)
 have hbel : Below base w W' := h2.below HD.out.bM (Nat.lt_of_lt_of_le hMl g2.below.size) (g2.below.mono hbase)
 have z0 : W'.cell? ⟨w.heap.size + 1, 0, none⟩ = some (.int .i64 0) := (bc 0 hB1).trans rfl
 have z1 : W'.cell? ⟨w.heap.size + 1, 1, none⟩ = some (.int .i64 0) := (bc 1 hB1).trans rfl
 have z2 : W'.cell? ⟨w.heap.size + 1, 2, none⟩ = some (.slice none 0 0) := (bc 2 hB1).trans rfl
 have f0 : ∀ o, W'.frozen? ⟨w.heap.size + 1, o, none⟩ = false := fun o => @block_frozen _ _ o _ _ hB1
 have HN := hd_ HD'
 have HB := hd_ hbel
 have HCK := hd_ hck
 clear HD' hbel hck
 clear h1 h2 hw2 g2 hsz hMl
 simp only [Act.put]
 go_wp2
 exact bodyPost_ret (run_resCell1 rfl _ _ _ _ rfl (ans_block hB1 _ _ _) Tryz.underlying38 rfl (by kernel_rfl)) rfl ⟨rfl, ans_dev HN.out hB1 (by decide) _ _ _, ans_below HB.out (by omega) _ _ _, ck_ans HCK.out (by omega) _ _ _⟩
theorem drop_any (xv xt xs xa xc most : Int) (xD : Option Addr) (xn xq : Nat) (hn : xn ≤ 1000000) (base D : Nat) (d : Dev) (w : World) (h : DevAt base w D d) (hbase : base ≤ w.heap.size)  :
  Calls Tryz.prog 39 #[.pointer (some ⟨D, 0, none⟩), .agg #[.int .i64 2, .int .u64 xv, .int .u64 xt, .int .i64 xs, .int .i64 xa, .int .i64 xc, .slice xD xn xq], .int .i64 most] w (OpPost base D (delK d xv) 0 0 w) := by
 obtain ⟨M, mb, h⟩ := h
 haveI := h.blk
 have x0 : w.cell? ⟨D, 0, none⟩ = some (.map (some M)) := (bc 0 h.blk).trans rfl
 haveI : Old D w := h.blk.old
 have HD := hd_ h
 clear h
 go_enter Tryz.func39, Tryz.ntmps39
 go_wp2
 refine wp_region_treeT (inCls_ghost _) (Cls.none _) ⟨Gr.of ((Below.refl _ _).drew), trivial⟩ [0, 1, 2, 3, 4, 5] 0 6 (by kernel_rfl) (by kernel_rfl) ?_
 simp only [pick, List.drop, List.take, List.nil_append, List.cons_append]
 repeat (refine wpCalm_step (fun K hK => ?_); go_simp; first | (refine hK _ ?_; clear hK K) | (apply Exists.intro; refine ⟨fun _ => ?_, hK _ ?_⟩; (skip); clear hK K))
 refine wpCalm_nil ?_
 refine ft_end ⟨by kernel_rfl, fun w2 hw2 => ?_⟩
 try simp only [List.drop_succ_cons, List.drop_zero]
 have g2 : Gr w w2 := Gr.trans gri hw2.1
 refine wpList_deleteK rfl _ _ rfl xv Tryz.underlying53 Tryz.underlying24 (HD.out.all.gr g2) rfl rfl fun W' h1 h2 => ?_
 have hMl : M < w.heap.size := HD.out.all.lt
 have HD' := HD.out.del g2 xv h1 h2
 haveI hB1 : BlockAt W' (w.heap.size + 1) #[.int .i64 0, .int .i64 0, .slice none 0 0] 38 := h2.blockAt (BlockAt.gr (inferInstance : BlockAt _ (w.heap.size + 1) _ _) hw2.1) (by omega)
 have hck := (CK.gr g2).trans (CK.only (HD.out.all.gr g2) h2)
 have hbel : Below base w W' := h2.below HD.out.bM (Nat.lt_of_lt_of_le hMl g2.below.size) (g2.below.mono hbase)
 have z0 : W'.cell? ⟨w.heap.size + 1, 0, none⟩ = some (.int .i64 0) := (bc 0 hB1).trans rfl
 have z1 : W'.cell? ⟨w.heap.size + 1, 1, none⟩ = some (.int .i64 0) := (bc 1 hB1).trans rfl
 have z2 : W'.cell? ⟨w.heap.size + 1, 2, none⟩ = some (.slice none 0 0) := (bc 2 hB1).trans rfl
 have f0 : ∀ o, W'.frozen? ⟨w.heap.size + 1, o, none⟩ = false := fun o => @block_frozen _ _ o _ _ hB1
 have HN := hd_ HD'
 have HB := hd_ hbel
 have HCK := hd_ hck
 clear HD' hbel hck
 clear h1 h2 hw2 g2 hMl
 simp only [Act.put]
 go_wp2
 exact bodyPost_ret (run_resCell1 rfl _ _ _ _ rfl (ans_block hB1 _ _ _) Tryz.underlying38 rfl (by kernel_rfl)) rfl ⟨rfl, ans_dev HN.out hB1 (by decide) _ _ _, ans_below HB.out (by omega) _ _ _, ck_ans HCK.out (by omega) _ _ _⟩
theorem getK_encB (m : List (Int × Byt)) (k : Nat) (z : Value) (hz : z = .agg (bkC zB)) : (getK (encK bkV m) k).getD z = .agg (bkC (blkM m k)) := by
 rw [getK_enc, blkM]
 cases getK m (k : Int) with
 | none => exact hz
 | some B => rfl
theorem look_blk {w : World} {b : Nat} {m : List (Int × Byt)} (h : MapAt .i64 w b (encK bkV m)) (k : Nat) : ∀ (W : World) [hW : GrC w W], (Instr.lookup 62 (.map (some b)) (.int .i64 (k : Int)) false).run Tryz.prog W = .ok (.agg (bkC (blkM m k))) W := fun W hW => by
 have hl := map_lookup (P := Tryz.prog) Tryz.underlying62 Tryz.underlying3 (h.gr (Gr.of hW.b)) (k : Int) false (Tryz.zeroValue66 _)
 rw [hl]
 have := getK_encB m k (.agg Tryz.zeroCells66) (by rw [zC_bk])
 simpa using this
theorem madeB (n : Nat) : madeCells #[.int .u8 0] n = bkC (List.replicate n 0) := by
 apply Array.toList_inj.1
 rw [toList_madeCells_one]
 simp [bkC, bv]
theorem makeB (c : Nat) (hc : c ≤ 100000) (W : World) : (Instr.makeSlice 25 (.int .i64 ((c : Int) * 64)) (.int .i64 ((c : Int) * 64))).run Tryz.prog W = .ok (.slice (some ⟨W.heap.size, 0, none⟩) (c * 64) (c * 64)) (W.alloc (.cells (bkC (List.replicate (c * 64) 0)) 5)) := by
 obtain ⟨i0, hi, hz0, hz2, hz3⟩ := info_parts bIs.hE
 have hi2 : i0.size = 1 := hz2
 have hi3 : i0.bytes = 1 := hz3
 have h := run_makeSlice (P := Tryz.prog) W 25 5 i0 (.int .u8 0) Tryz.underlying25 hi hz0 .i64 .i64 ((c : Int) * 64) ((c : Int) * 64) (by omega) (Int.le_refl _) (by rw [hi2]; omega) (by rw [hi3]; omega) (by omega)
 rw [h, hi2]
 have e1 : ((c : Int) * 64).toNat = c * 64 := by omega
 rw [e1, Nat.mul_one, show (Value.int .u8 0).cells = #[.int .u8 0] from rfl, madeB]
section
variable {P : Program} {md : Region.Mode} {W : World} {S : Type} {I : S → World → Prop} {ops : Array Oper} {L : Array Bool → S → Act → Prop} {f n : Nat} {listed : Array Bool} {s : S} {a : Act}
end
end Go.Proofs.YtddckdhnolmjoaaGreat
namespace Go.Proofs.YtddckdhnolmjoaaGreat
open Go.RowKit Go.Shelf
attribute [local go_sem] Oper.semAt_some
abbrev OvM (a c : Nat) := { x : OvX // x ∈ overK 0 (spans a c) }
abbrev encM {a c : Nat} (y : OvM a c) : Array Value := encO y.1
theorem over_stopsM (n : Nat) (hn : 1 ≤ n) (X P1 P2 a c : Nat) (w0 : World) (h1 : BlockAt w0 P1 #[.int .i64 (a : Int)] 3) (h2 : BlockAt w0 P2 #[.int .i64 (c : Int)] 3) (hX : X < w0.heap.size) (x1 : P1 ≠ X) (x2 : P2 ≠ X) (hrow : rowOk X P1 P2 w0) (ha : a ≤ 1048576) (hc : 1 ≤ c) (hc2 : c ≤ 1048576) :
  SeqStopsK Fence.wide n Tryz.prog 104 #[.pointer (some ⟨P1, 0, none⟩), .pointer (some ⟨P2, 0, none⟩)] (encM (a := a) (c := c)) (KpX X) (fun xs => xs.map (·.1) = overK 0 (spans a c)) (fun _ => True) (spans a c).length w0 := fun l J Jx W hW hJ hJx hY h0 => by
 have hb1 : BlockAt W P1 #[.int .i64 (a : Int)] 3 := ⟨(hW.block P1 h1.lt).trans h1.eq⟩
 have hb2 : BlockAt W P2 #[.int .i64 (c : Int)] 3 := ⟨(hW.block P2 h2.lt).trans h2.eq⟩
 have hXW : X < W.heap.size := Nat.lt_of_lt_of_le hX hW.size
 have hr0 : rowX W X = rowX w0 X := by
  unfold rowX
  rw [hW.cell (p := ⟨X, 0, none⟩) hX]
 have hrW : rowOk X P1 P2 W := fun b hb => by
  have := hrow b (hr0 ▸ hb)
  exact ⟨Nat.lt_of_lt_of_le this.1 hW.size, this.2⟩
 have y1 : W.cell? ⟨P1, 0, none⟩ = some (.int .i64 (a : Int)) := (bc 0 hb1).trans rfl
 have y2 : W.cell? ⟨P2, 0, none⟩ = some (.int .i64 (c : Int)) := (bc 0 hb2).trans rfl
 have HJ := hd_ hJ
 have HY := hd_ hY
 have H0 := hd_ h0
 have HB1 := hd_ hb1
 have HB2 := hd_ hb2
 have HRW := hd_ hrW
 clear hJ hY h0 hb1 hb2 hr0 hrow h1 h2 hrW hW hJx
 refine callsIn_of_wp Tryz.func104 rfl trivial ?_ rfl
 simp only [Tryz.ntmps104, List.size_toArray, List.length_cons, List.length_nil, Nat.reduceAdd, Nat.reduceSub, Array.replicate_succ, Array.replicate_zero, List.push_toArray, List.append_toArray, List.nil_append, List.cons_append]
 gi_wp2
 gi_loopw [4] (fun i wr => ∃ (pre : List (OvM a c)) (d : Nat), i = .int .i64 d ∧ d ≤ c ∧ pre.map (·.1) ++ overK d (spans (a + d) (c - d)) = overK 0 (spans a c) ∧ J pre wr ∧ BlockAt wr P1 #[.int .i64 (a : Int)] 3 ∧ BlockAt wr P2 #[.int .i64 (c : Int)] 3 ∧ rowOk X P1 P2 wr ∧ X < wr.heap.size) (fun i _ => c - (intOf i).toNat)
 case atStart => exact ⟨[], 0, rfl, Nat.zero_le _, by simp, H0.out, HB1.out, HB2.out, HRW.out, hXW⟩
 case round =>
  obtain ⟨pre, d, rfl, hd, hpre, hJs, hb1, hb2, hrw, hXr⟩ := hrel
  clear y1 y2
  have y1 : wr.cell? ⟨P1, 0, none⟩ = some (.int .i64 (a : Int)) := (bc 0 hb1).trans rfl
  have y2 : wr.cell? ⟨P2, 0, none⟩ = some (.int .i64 (c : Int)) := (bc 0 hb2).trans rfl
  haveI := hb1.old
  haveI := hb2.old
  by_cases hlt : d < c
  ·have hsp := spans_cons (a + d) (c - d) (by omega)
   obtain ⟨k, hk⟩ : ∃ k, min (4 - (a + d) % 4) (c - d) = k := ⟨_, rfl⟩
   rw [hk] at hsp
   rw [hsp] at hpre
   have hk1 : 1 ≤ k := by omega
   have hk2 : k ≤ c - d := by omega
   have hk4 : (a + d) % 4 + k ≤ 4 := by omega
   have hlen : pre.length < (spans a c).length := by
    have h9 := congrArg List.length hpre
    have h8 := congrArg List.length (overK_snd (spans a c) 0)
    simp [overK] at h9 h8
    omega
   have hmem : (d, ⟨(a + d) / 4, (a + d) % 4, (a + d) % 4 + k⟩) ∈ overK 0 (spans a c) := by rw [← hpre]; simp [overK]
   have HP := hd_ hpre
   have HSP := hd_ hsp
   have HK := hd_ hk
   clear hpre hsp hk
   by_cases h4 : ((a : Int) + (d : Int)) % 4 + (c : Int) - (d : Int) < 4
   all_goals
    obtain ⟨T, hT⟩ : ∃ T : Int, T = if ((a : Int) + (d : Int)) % 4 + (c : Int) - (d : Int) < 4 then ((a : Int) + (d : Int)) % 4 + (c : Int) - (d : Int) else 4 := ⟨_, rfl⟩
    first | rw [if_pos h4] at hT | rw [if_neg h4] at hT
    have hE : encM (⟨(d, ⟨(a + d) / 4, (a + d) % 4, (a + d) % 4 + k⟩), hmem⟩ : OvM a c) = #[.int .i64 (d : Int), .agg #[.int .i64 (((a : Int) + (d : Int)) / 4), .int .i64 (((a : Int) + (d : Int)) % 4), .int .i64 T]] := by
     have := HK.out
     unfold encM encO
     have e3 : (((a + d) % 4 + k : Nat) : Int) = T := by omega
     simp only [e3]
     simp
    have hn1 : n - 1 = n - 1 := rfl
    have hY2 := HY.out pre ⟨(d, ⟨(a + d) / 4, (a + d) % 4, (a + d) % 4 + k⟩), hmem⟩ (wr.alloc (.cells #[.int .i64 (((a : Int) + (d : Int)) / 4), .int .i64 (((a : Int) + (d : Int)) % 4), .int .i64 T] 107)) (HJ.out _ _ _ none hJs (World.grownBy_alloc wr _ none) (fun r e => by cases e)) hlen
    rw [hE] at hY2
    obtain ⟨fn, tmps, assign, body, hy, hR⟩ := hY2
    have HE := hd_ hE
    clear hE
    subst hT
    gi_wp2
    refine hR.mono ?_
    rintro e W3 (⟨rfl, hJ3, hk3⟩ | ⟨rfl, hJx3⟩)
    ·have hne : ∀ o : Obj, ∀ b, b = P1 ∨ b = P2 ∨ b = wr.heap.size → rowX (wr.alloc o) X ≠ some b := fun o b hb e => by
      rw [rowX_alloc o hXr] at e
      have := hrw b e
      omega
     have hbs := hk3.block (b := wr.heap.size) inferInstance (by omega) (hne _ _ (by simp))
     have hbp1 := hk3.block (b := P1) inferInstance x1 (hne _ _ (by simp))
     have hbp2 := hk3.block (b := P2) inferInstance x2 (hne _ _ (by simp))
     have hsz := hk3.size
     have hro : rowOk X P1 P2 W3 := fun b hb => by
      have hl := hk3.lt (fun b hb => by rw [rowX_alloc _ hXr] at hb; have := hrw b hb; simp; omega) b hb
      rcases hk3.row b hb with h9 | h9
      ·rw [rowX_alloc _ hXr] at h9
       have := hrw b h9
       exact ⟨hl, this.2⟩
      ·have p1 := hb1.lt
       have p2 := hb2.lt
       simp at h9
       exact ⟨hl, by omega, by omega⟩
     have z1 := (bc 1 hbs).trans rfl
     have z2 := (bc 2 hbs).trans rfl
     simp at hsz
     clear hb1 hb2 y1 y2 hy hR hJs hne hk3
     have HS := hd_ hsz
     have HJ3 := hd_ hJ3
     have HRO := hd_ hro
     clear hsz hJ3 hro hrw hbs
     gi_wp2
     go_roundw
     case rel =>
      refine ⟨pre ++ [⟨(d, ⟨(a + d) / 4, (a + d) % 4, (a + d) % 4 + k⟩), hmem⟩], d + k, ?_, by omega, ?_, HJ3.out, hbp1, hbp2, HRO.out, by have := HS.out; omega⟩
      ·have := HK.out
       have e9 : ∀ u v : Int, u = v → Value.int .i64 u = .int .i64 v := fun u v h => by rw [h]
       refine e9 _ _ ?_
       omega
      ·have := HP.out
       refine Eq.trans ?_ this
       rw [List.map_append, List.append_assoc]
       simp only [overK, List.map_cons, List.map_nil, List.singleton_append, Nat.add_sub_cancel_left, Nat.add_assoc, Nat.sub_sub]
     case measure =>
      have := HK.out
      simp [intOf]; omega
    ·gi_wp2
     refine bodyPost_ret (results_none rfl _ _ _) rfl ?_
     exact ⟨⟨_, rfl⟩, .inr ⟨_, trivial, hJx3⟩⟩
  ·obtain rfl : d = c := by omega
   have e0 : spans (a + d) (d - d) = [] := by rw [Nat.sub_self]; rfl
   rw [e0] at hpre
   have HP := hd_ hpre
   clear hpre e0
   gi_wp2
   go_end0
   exact ⟨⟨_, rfl⟩, .inl ⟨_, by have := HP.out; simpa [overK] using this, hJs⟩⟩
end Go.Proofs.YtddckdhnolmjoaaGreat
namespace Go.Proofs.YtddckdhnolmjoaaGreat
open Go.RowKit
def deferB (o : Oper) : Bool := match o.op with
 | .defer _ => true
 | _ => false
theorem deferB_ne {o : Oper} (h : deferB o = false) : ∀ c, o.op ≠ .defer c := fun c hc => by simp [deferB, hc] at h
section
variable {P : Program} {ops : Array Oper} {Q : Exit → Act → World → Prop} {n r : Nat}
theorem Oper.wpIn_round {o : Oper} {a : Act} {w : World} {K : Act → World → Prop} (hd : deferB o = false) (h : o.wp P a w K Q) : o.wpIn (Fence.wide.inRound r) n P a w K Q := by
 unfold Oper.wp at h
 unfold Oper.wpIn
 refine ⟨fun _ _ => trivial, ?_⟩
 rw [Oper.semAt_plain _ _ _ (deferB_ne hd)]
 generalize (execOp a.eval o).run P w = x at *
 cases x with
 | ok nx w' =>
  cases nx <;> simp only [Oper.upon] at h <;> simp only [Oper.uponIn] <;>
   first
    | exact h
    | exact h.elim
    | exact ⟨fun e => by simp [Fence.inRound, Fence.wide] at e, CallsIn.inRound r (callsIn_wide.2 h)⟩
    | exact ⟨fun e => by simp [Fence.inRound, Fence.wide] at e, fun c cs _ => let ⟨v, w'', hr, hs⟩ := h c cs; ⟨v, w'', hr, stepsIn_wide.2 hs⟩⟩
 | halt x w' => cases x <;> simp only [Oper.upon] at h <;> simp only [Oper.uponIn] <;> exact h
theorem wpOpIn_round (hq : ¬ LetsOut Q) (hd : ops.any deferB = false) {i : Nat} {a : Act} {w : World} {K : Act → World → Prop} (h : wpOp P ops Q i K a w) : wpOpIn (Fence.wide.inRound r) n P ops Q i K a w := by
 unfold wpOp at h
 unfold wpOpIn
 cases ho : ops[i]? with
 | none => simpa [ho] using h
 | some o =>
  simp only [ho] at h ⊢
  have hdo : deferB o = false := by
   obtain ⟨hi, he⟩ := Array.getElem?_eq_some_iff.1 ho
   have := Array.any_eq_false.1 hd i hi
   rw [he] at this
   simpa using this
  split
  ·rename_i hw; simp only [hw, if_true] at h; exact Oper.wpIn_round hdo (h.resolve_right fun h2 => hq h2.2)
  ·rename_i hw; simp only [hw] at h; exact ⟨fun _ _ => trivial, h⟩
theorem wpAnyIn_round (hq : ¬ LetsOut Q) (hd : ops.any deferB = false) {md : Region.Mode} : ∀ (f : Nat) (listed : Array Bool) (a : Act) (w : World), wpAny P md ops Q f listed a w → wpAnyIn (Fence.wide.inRound r) n P md ops Q f listed a w
 | 0, _, _, _, h => h
 | f + 1, listed, a, w, h => ⟨h.1, fun i hi => wpOpIn_round hq hd (wpOp_mono (fun a w => wpAnyIn_round hq hd f _ a w) (h.2 i hi))⟩
end
section
variable {P : Program} {W : World} {S : Type} {I : S → World → Prop} {l : List Oper}
theorem wpIn_region_treeT {id n' r : Nat} {Q : Exit → Act → World → Prop} {a : Act} {w : World} (hq : ¬ LetsOut Q) (hd : l.toArray.any deferB = false) (G : Ghost W I) (s : S) (hw : I s w.drew) (qs : List Nat) (m n : Nat) (hm : P.follows .mixedOrders = true) (hB : treeTB .any l.toArray qs m n = true)
  (h : wpCalm P l.toArray W (fun a' => feT P .any l.toArray W I n (fun listed s a => Region.seqB .any l.toArray (l.toArray.size - n) n listed = true ∧ ∀ w', I s w' → wpList P l.toArray Q (l.drop n) a w') m (listAll qs (Array.replicate l.toArray.size false)) s a') (pick l qs) a) : (Code.region id l.toArray true).wpIn (Fence.wide.inRound r) n' P Q a w := by
 simp only [treeTB, Bool.and_eq_true, decide_eq_true_eq] at hB
 obtain ⟨⟨⟨⟨⟨⟨hsel, hn⟩, hs⟩, hc⟩, hlen⟩, hall⟩, hfree⟩ := hB
 have hall' : ∀ k ∈ qs, k < n := fun k hk => by simpa using List.all_eq_true.1 hall k hk
 have hdl : (l.drop n).length = l.toArray.size - n := by simp
 have inv0 : HeadInv .any l.toArray n (Array.replicate l.toArray.size false) :=
  ⟨by simp, (fun j oj _ hl => by rw [getD_replicate_false] at hl; cases hl), fun t _ ht => getD_in (by simpa using ht) (getD_replicate_false _ _)⟩
 have H := feT_lex (md := .any) (P := P) (W := W) (I := I) hsel hs hc hn (fun listed s a hL => seqB_ready hL.1) m qs _ s a hall' inv0 hfree h
 refine wpIn_region_any hm (wpAnyIn_round hq hd _ _ _ _ ?_)
 have := feT_any (Q' := Q) (g := l.toArray.size - n) G (fun listed s a' w' hw' hL => by
  have := wpAny_of_seq (md := .any) (Q' := Q) (l.drop n) n listed a' w' (fun j => by simp [List.getElem?_drop]) (by rw [hdl]; exact hL.1) (hL.2 w' hw')
  rwa [hdl] at this) _ _ _ _ _ hw H
 rw [hlen, show n + (l.toArray.size - n) = l.toArray.size by simp at hn ⊢; omega] at this
 exact this
end
end Go.Proofs.YtddckdhnolmjoaaGreat
namespace Go.Proofs.YtddckdhnolmjoaaGreat
open Go.RowKit
open Go.Shelf
attribute [local go_sem] Oper.semAt_some
def LR {an C : Nat} (X V m A : Nat) (w : World) (n : Int) (mp : Nat) (f : List OvX → List UInt8) (pre : List (OvM an C)) (W : World) : Prop := LI bE w.heap.size X m 25 w f (pre.map (·.1)) W ∧ BlockAt W V #[.int .i64 n, .map (some mp)] 64 ∧ BlockAt W A #[.int .i64 0, .int .i64 0, .slice none 0 0] 38
theorem LR.own {an C X V m A : Nat} {w : World} {n : Int} {mp : Nat} {f : List OvX → List UInt8} {B : Nat} (hB : w.heap.size ≤ B) (hw : w.heap.size ≤ w.heap.size) : OwnFrom B (LR (an := an) (C := C) X V m A w n mp f) := fun s W W' row hs hg hr => by
 have hc : ∀ (k : Nat) cs t fz, W.heap[k]? = some (Obj.cells cs t fz) → W'.heap[k]? = W.heap[k]? := fun k cs t fz hk => hg.block k (Array.getElem?_eq_some_iff.1 hk).1 (fun e2 => by
  obtain ⟨_, o, h1, h2⟩ := hr k e2.symm
  rw [hk] at h1; cases h1; cases h2)
 exact ⟨LI.own hB hw (s.map (·.1)) W W' row hs.1 hg hr, ⟨(hc V _ _ _ hs.2.1.eq).trans hs.2.1.eq⟩, ⟨(hc A _ _ _ hs.2.2.eq).trans hs.2.2.eq⟩⟩
theorem flat_le (m : List (Int × Byt)) (hs : SortK m) (hl : ∀ p ∈ m, p.2.length = 256) : ∀ (l : List OvX) (n : Nat), l.length ≤ n → (l.flatMap fun y : OvX => cutK (blkM m y.2.b) y.2).length ≤ 256 * n
 | [], _, _ => by simp
 | y :: l, 0, h => by simp at h
 | y :: l, n + 1, h => by
  have h1 := flat_le m hs hl l n (by simpa using h)
  have h2 : (cutK (blkM m y.2.b) y.2).length ≤ 256 := by
   have := blkM_len hs hl y.2.b
   simp [cutK, this]
   omega
  rw [List.flatMap_cons, List.length_append]
  omega
theorem read_any (xv xt xs xa xc most : Int) (xD : Option Addr) (xn xq : Nat) (hn : xn ≤ 1000000) (base D : Nat) (d : Dev) (w : World) (h : DevAt base w D d) (x : VolM) (hv : getK d xv = some x) (a0 : 0 ≤ xa) (a1 : xa ≤ 1048576) (c0 : 1 ≤ xc) (c1 : xc ≤ 1024) :
  Calls Tryz.prog 44 #[.pointer (some ⟨D, 0, none⟩), .agg #[.int .i64 9, .int .u64 xv, .int .u64 xt, .int .i64 xs, .int .i64 xa, .int .i64 xc, .slice xD xn xq], .int .i64 most] w fun e w' => ∃ v, e = .returned (.agg #[.int .i64 0, .int .i64 0, v]) ∧ OwnN bE w.heap.size w' v ((spans xa.toNat xc.toNat).flatMap fun s => cutK (blkM x.2 s.b) s) ∧ Gr w w' := by
 obtain ⟨M, mb, h⟩ := h
 haveI := h.blk
 have x0 : w.cell? ⟨D, 0, none⟩ = some (.map (some M)) := (bc 0 h.blk).trans rfl
 haveI : Old D w := h.blk.old
 have HD := hd_ h
 have hlk := look_vol1 h xv _ hv
 simp only [volV] at hlk
 have HX := hd_ (h.ok.vols _ ((getK_mem h.ok.sort).1 hv))
 have HM := hd_ (h.vol _ ((getK_mem h.ok.sort).1 hv))
 clear h hv
 obtain ⟨an, rfl⟩ : ∃ n : Nat, xa = n := ⟨xa.toNat, by omega⟩
 obtain ⟨C, rfl⟩ : ∃ n : Nat, xc = n := ⟨xc.toNat, by omega⟩
 rw [Int.toNat_natCast, Int.toNat_natCast]
 refine (callsIn_wide (n := 3)).1 ?_
 have h1 : 1 ≤ 3 := by omega
 refine callsIn_of_wp_marks Tryz.func44 rfl trivial ?_ rfl
 simp only [Tryz.ntmps44, List.size_toArray, List.length_cons, List.length_nil, Nat.reduceAdd, Nat.reduceSub, Array.replicate_succ, Array.replicate_zero, List.push_toArray, List.append_toArray, List.nil_append, List.cons_append]
 gi_wp2
 refine wpIn_wide.2 ?_
 refine wp_region_all [0, 1, 2, 3, 4, 5, 6, 7, 8, 9] [10, 11] [12, 13] (by kernel_rfl) (by kernel_rfl) ?_
 simp only [pick, List.drop, List.take, List.nil_append, List.cons_append]
 repeat (refine wpCalm_step (fun K hK => ?_); go_simp; first | (refine hK _ ?_; clear hK K) | (apply Exists.intro; refine ⟨fun _ => ?_, hK _ ?_⟩; ((go_at_call 71; exact part_9 _ _ _ _ _ _ _ _ (by omega) _)); clear hK K))
 refine wpCalm_nil ?_
 refine ⟨_, _, _, allocOp_alloc rfl rfl Tryz.zeroValue64, fun b1_0 hb1_0 nb1_0 => ?_⟩
 refine ⟨_, _, _, allocOp_alloc rfl rfl Tryz.zeroValue148, fun b1_1 hb1_1 nb1_1 => ?_⟩
 have db1_1_0 : b1_0 ≠ b1_1 := nb1_1 (b1_0, _, _) mcs
 simp only [Act.put, stA, List.set]
 refine ⟨_, _, _, b1_0, #[.int .i64 0, .map none], _, #[.int .i64 x.1, .map (some (mb xv))], rfl, rfl, rfl, (List.mem_cons_of_mem _ mcs), ?hu, hb1_0, rfl, rfl, rfl, rfl, [(b1_0, #[.int .i64 x.1, .map (some (mb xv))], 64), (b1_1, #[.int .i64 0, .int .i64 0], 148)], ?hs, ?_⟩
 case hu =>
  intro z hz e
  rcases List.mem_cons.1 hz with rfl | hz
  ·exact absurd e db1_1_0.symm
  rcases List.mem_cons.1 hz with rfl | hz
  ·rfl
  cases hz
 case hs =>
  intro z
  constructor
  ·intro hz
   rcases List.mem_cons.1 hz with rfl | hz
   ·exact .inl rfl
   rcases List.mem_cons.1 hz with rfl | hz
   ·exact .inr ⟨mcs, db1_1_0.symm⟩
   cases hz
  ·rintro (rfl | ⟨hz, hne⟩)
   ·exact mcs
   rcases List.mem_cons.1 hz with rfl | hz
   ·exact (List.mem_cons_of_mem _ mcs)
   rcases List.mem_cons.1 hz with rfl | hz
   ·exact absurd rfl hne
   cases hz
 refine ⟨_, _, _, b1_1, #[.int .i64 0, .int .i64 0], _, #[.int .i64 (an : Int), .int .i64 (C : Int)], rfl, rfl, rfl, (List.mem_cons_of_mem _ mcs), ?hu, hb1_1, rfl, rfl, rfl, rfl, [(b1_1, #[.int .i64 (an : Int), .int .i64 (C : Int)], 148), (b1_0, #[.int .i64 x.1, .map (some (mb xv))], 64)], ?hs, ?_⟩
 case hu =>
  intro z hz e
  rcases List.mem_cons.1 hz with rfl | hz
  ·exact absurd e db1_1_0
  rcases List.mem_cons.1 hz with rfl | hz
  ·rfl
  cases hz
 case hs =>
  intro z
  constructor
  ·intro hz
   rcases List.mem_cons.1 hz with rfl | hz
   ·exact .inl rfl
   rcases List.mem_cons.1 hz with rfl | hz
   ·exact .inr ⟨mcs, db1_1_0⟩
   cases hz
  ·rintro (rfl | ⟨hz, hne⟩)
   ·exact mcs
   rcases List.mem_cons.1 hz with rfl | hz
   ·exact (List.mem_cons_of_mem _ mcs)
   rcases List.mem_cons.1 hz with rfl | hz
   ·exact absurd rfl hne
   cases hz
 intro w1 hw1
 have cb1_1 : ∀ o, w1.cell? ⟨b1_1, o, none⟩ = (#[.int .i64 (an : Int), .int .i64 (C : Int)] : Array Value)[o]? := mix_cell hw1 mcs
 haveI kb1_1 : BlockAt w1 b1_1 #[.int .i64 (an : Int), .int .i64 (C : Int)] 148 := ⟨hw1.2 _ mcs⟩
 have fb1_1 : ∀ o, w1.frozen? ⟨b1_1, o, none⟩ = false := mix_frozen hw1 mcs
 have ob1_1 : Old b1_1 w1 := mix_old hw1 mcs
 have cb1_0 : ∀ o, w1.cell? ⟨b1_0, o, none⟩ = (#[.int .i64 x.1, .map (some (mb xv))] : Array Value)[o]? := mix_cell hw1 (List.mem_cons_of_mem _ mcs)
 haveI kb1_0 : BlockAt w1 b1_0 #[.int .i64 x.1, .map (some (mb xv))] 64 := ⟨hw1.2 _ (List.mem_cons_of_mem _ mcs)⟩
 have fb1_0 : ∀ o, w1.frozen? ⟨b1_0, o, none⟩ = false := mix_frozen hw1 (List.mem_cons_of_mem _ mcs)
 have ob1_0 : Old b1_0 w1 := mix_old hw1 (List.mem_cons_of_mem _ mcs)
 have qb1_0 := @fresh_ne _ _ hb1_0
 have rb1_0 := @fresh_en _ _ hb1_0
 have lb1_0 := fresh_le hb1_0 w.heap.size
 have qb1_1 := @fresh_ne _ _ hb1_1
 have rb1_1 := @fresh_en _ _ hb1_1
 have lb1_1 := fresh_le hb1_1 w.heap.size
 have eb1_1_0 : ¬ b1_1 = b1_0 := fun e => db1_1_0 e.symm
 obtain ⟨⟨g1, rfl⟩, hbs⟩ := hw1
 clear hbs nb1_0 nb1_1
 have hgW : Gr w (grown _ g1) := gri
 have kA : BlockAt (grown _ g1) (w.heap.size + 1) #[.int .i64 0, .int .i64 0, .slice none 0 0] 38 := inferInstance
 generalize grown _ g1 = W1 at *
 rename_i Kd hKd
 refine (show Kd _ _ from hKd _ _ ?_)
 simp only [Act.put]
 have y10 : W1.cell? ⟨b1_1, 0, none⟩ = some (.int .i64 (an : Int)) := (bc 0 kb1_1).trans rfl
 have y11 : W1.cell? ⟨b1_1, 1, none⟩ = some (.int .i64 (C : Int)) := (bc 1 kb1_1).trans rfl
 haveI o1 : Old b1_1 W1 := kb1_1.old
 haveI o0 : Old b1_0 W1 := kb1_0.old
 have hlw : w.heap.size + 1 < W1.heap.size := kA.lt
 have HG := hd_ hgW
 have K0 := hd_ kb1_0
 have KA := hd_ kA
 clear hgW kA cb1_0 cb1_1 fb1_0 fb1_1 ob1_0 ob1_1 kb1_0 kb1_1
 gi_wp2_with (refine ⟨trivial, ?_⟩; gi_at_call 77; refine (callsIn_wide.2 (over_any _ _ _)).mono ?_; rintro e w' ⟨rfl, rfl⟩)
 obtain ⟨X, hX⟩ : ∃ X, W1.heap.size = X := ⟨_, rfl⟩
 rw [hX] at hlw ⊢
 obtain ⟨W0, hW0⟩ : ∃ W0, ((W1.alloc (.cells #[.slice none 0 0] 25)).alloc (.cells #[.int .i64 (an : Int)] 3)).alloc (.cells #[.int .i64 (C : Int)] 3) = W0 := ⟨_, rfl⟩
 have hs0 : W0.heap.size = X + 1 + 1 + 1 := by rw [← hW0, ← hX]; simp
 have hbX : BlockAt W0 X #[.slice none 0 0] 25 := by rw [← hW0, ← hX]; infer_instance
 have hb1 : BlockAt W0 (X + 1) #[.int .i64 (an : Int)] 3 := by rw [← hW0, ← hX]; infer_instance
 have hb2 : BlockAt W0 (X + 1 + 1) #[.int .i64 (C : Int)] 3 := by rw [← hW0, ← hX]; infer_instance
 have hg1 : Gr W1 W0 := by rw [← hW0]; exact gri
 have hg0 : Gr w W0 := HG.out.trans hg1
 have hbV : BlockAt W0 b1_0 #[.int .i64 x.1, .map (some (mb xv))] 64 := BlockAt.gr K0.out hg1
 have hbA : BlockAt W0 (w.heap.size + 1) #[.int .i64 0, .int .i64 0, .slice none 0 0] 38 := BlockAt.gr KA.out hg1
 have hVX : b1_0 < X := by rw [← hX]; exact K0.out.lt
 have hsl := spans_len an C
 rw [hW0]
 have hrX : rowOk X (X + 1) (X + 1 + 1) W0 := fun b hb => by
  unfold rowX at hb
  rw [bc 0 hbX] at hb
  cases hb
 refine wpIn_rangeFunc_ownH (F := Fence.wide) (n := 3) rfl h1 (gf := 104) (lb := #[.pointer (some ⟨X + 1, 0, none⟩), .pointer (some ⟨X + 1 + 1, 0, none⟩)]) rfl trivial (enters_of Tryz.func104 (by kernel_rfl) rfl)
  (over_stopsM (3 - 1) (by omega) X (X + 1) (X + 1 + 1) an C W0 hb1 hb2 (by omega) (by omega) (by omega) hrX (by omega) (by omega) (by omega)) (fun h k => h.trans k) (fun W l o o' hl ho hc' _ => KpX.putObj W l o o' (by omega) ho hc') (Below.refl _ _) (fun _ => rfl)
  (LR (an := an) (C := C) X b1_0 W0.heap.size (w.heap.size + 1) w x.1 (mb xv) (fun pre => pre.flatMap fun y => cutK (blkM x.2 y.2.b) y.2)) (fun _ _ _ => False) (LR.own (by omega) (Nat.le_refl _)) (fun _ _ _ _ _ h _ _ => h.elim) ⟨⟨⟨_, hbX, OwnN.nil _ _⟩, hg0.below, Nat.le_refl _⟩, hbV, hbA⟩
  (fun x' a' W => ∃ Bx, X + 1 + 1 < Bx ∧ BlockAt W Bx #[.int .i64 (x'.1.2.b : Int), .int .i64 (x'.1.2.f : Int), .int .i64 (x'.1.2.t : Int)] 107 ∧ a' = { tmps := #[.pointer (some ⟨D, 0, none⟩), .agg #[.int .i64 9, .int .u64 xv, .int .u64 xt, .int .i64 xs, .int .i64 (an : Int), .int .i64 (C : Int), .slice xD xn xq], .int .i64 most, undef, .pointer (some ⟨w.heap.size, 0, none⟩), undef, .pointer (some ⟨w.heap.size + 1, 0, none⟩), .pointer (some ⟨b1_0, 0, none⟩), .pointer (some ⟨b1_1, 0, none⟩), .pointer (some ⟨X, 0, none⟩), undef, .pointer (some ⟨Bx, 0, none⟩), .pointer (some ⟨D, 0, none⟩), .pointer (some ⟨D, 0, none⟩), .pointer (some ⟨D, 0, none⟩), .map (some M), .pointer (some ⟨w.heap.size, 1, none⟩), .int .u64 xv, .agg #[.int .i64 x.1, .map (some (mb xv))], .agg #[.int .i64 9, .int .u64 xv, .int .u64 xt, .int .i64 xs, .int .i64 (an : Int), .int .i64 (C : Int), .slice xD xn xq], .iface 148 (.agg #[.int .i64 (an : Int), .int .i64 (C : Int)]), .agg #[.int .i64 (an : Int), .int .i64 (C : Int)], .pointer (some ⟨b1_1, 0, none⟩), .int .i64 (an : Int), .pointer (some ⟨b1_1, 1, none⟩), .int .i64 (C : Int), .func (.func 104) #[] #[.pointer (some ⟨X + 1, 0, none⟩), .pointer (some ⟨X + 1 + 1, 0, none⟩)], .int .i64 (x'.1.1 : Int), .agg #[.int .i64 (x'.1.2.b : Int), .int .i64 (x'.1.2.f : Int), .int .i64 (x'.1.2.t : Int)], undef, undef, undef, undef, undef, undef, undef, undef, undef, undef, undef], defers := [] })
  (fun x' a' s W W' row hs hg hr => ?hax) ?assign ?body ?done ?stop
 case hax =>
  obtain ⟨Bx, hlt, hbx, ha'⟩ := hs
  refine ⟨Bx, hlt, ⟨(hg.block Bx hbx.lt (fun e2 => ?_)).trans hbx.eq⟩, ha'⟩
  obtain ⟨_, o, h1, h2⟩ := hr Bx e2.symm
  rw [hbx.eq] at h1; cases h1; cases h2
 case assign =>
  rintro l pre x' W K ⟨⟨⟨v, hv, ho⟩, hb, hm⟩, hV, hA⟩ hK
  have hlt := hv.lt
  have hsz := hb.size
  gi_wp2
  exact hK _ _ ((KeepsOthers.alloc _ _).from _) (kpx_gr gri hlt) ⟨⟨⟨v, hv.gr gri, ho.gr gri⟩, hb.alloc hsz _, by simp; omega⟩, hV.gr gri, hA.gr gri⟩ ⟨W.heap.size, by omega, inferInstance, rfl⟩
 case body =>
  rintro l pre x' a' W hl ⟨r, hr⟩ ⟨⟨⟨v, hv, ho⟩, hb, hm⟩, hV, hA⟩ ⟨Bx, hlt, hbx, rfl⟩ hN
  obtain ⟨⟨dx, ⟨sb, sf, st⟩⟩, hmx⟩ := x'
  have hsp := spans_all (a := an) (c := C) ⟨sb, sf, st⟩ (by rw [← overK_snd (spans an C) 0]; exact List.mem_map.2 ⟨_, hmx, rfl⟩)
  simp only at hsp hbx ⊢
  have x0 : W.cell? ⟨X, 0, none⟩ = some v := (bc 0 hv).trans rfl
  have u0 : W.frozen? ⟨X, 0, none⟩ = false := @block_frozen _ _ 0 _ _ hv
  have y0 : W.cell? ⟨Bx, 0, none⟩ = some (.int .i64 (sb : Int)) := (bc 0 hbx).trans rfl
  have y1 : W.cell? ⟨Bx, 1, none⟩ = some (.int .i64 (sf : Int)) := (bc 1 hbx).trans rfl
  have y2 : W.cell? ⟨Bx, 2, none⟩ = some (.int .i64 (st : Int)) := (bc 2 hbx).trans rfl
  have z1 : W.cell? ⟨b1_0, 1, none⟩ = some (.map (some (mb xv))) := (bc 1 hV).trans rfl
  haveI := hv.old
  haveI := hbx.old
  haveI := hV.old
  have hlb := look_blk (HM.out.below hb HM.out.lt) sb
  have hB2 : (blkM x.2 sb).length = 256 := blkM_len HX.out.sort HX.out.len sb
  have hpl : ((pre.map (·.1)).flatMap fun y : OvX => cutK (blkM x.2 y.2.b) y.2).length ≤ 256 * 1024 := flat_le x.2 HX.out.sort HX.out.len _ _ (by simp; omega)
  have hsz := hb.size
  have HV := hd_ hv
  have HO := hd_ ho
  have HB := hd_ hb
  have HPL := hd_ hpl
  have HSZ := hd_ hsz
  have HVV := hd_ hV
  have HAA := hd_ hA
  have h0f := hsp.1
  have h0t := hsp.2.1
  have hcl : (cutK (blkM x.2 sb) ⟨sb, sf, st⟩).length = 64 * (st - sf) := by simp [cutK, hB2]; omega
  have HCL := hd_ hcl
  clear hv ho hb hbx hr hN hsl hsz hbX hb1 hb2 hg0 hrX hW0 hV hA hpl hsp hcl hbV hbA hg1
  gi_wp2
  refine wpIn_region_treeT (fun ⟨_, _, h⟩ => h) (by kernel_rfl) (inCls_ghost _) (Cls.none _) ⟨Gr.of ((Below.refl _ _).drew), trivial⟩ [0, 1, 2, 3, 4, 5, 6] 1 8 (by kernel_rfl) (by kernel_rfl) ?_
  simp only [pick, List.drop, List.take, List.nil_append, List.cons_append]
  repeat (refine wpCalm_step (fun K hK => ?_); go_simp; first | (refine hK _ ?_; clear hK K) | (apply Exists.intro; refine ⟨fun _ => ?_, hK _ ?_⟩; (skip); clear hK K))
  refine wpCalm_nil ?_
  have hne : cutK (blkM x.2 sb) ⟨sb, sf, st⟩ ≠ [] := by
   intro e
   have := HCL.out
   rw [e] at this
   simp at this
   omega
  refine ft_eff 7 (by kernel_rfl) (by omega) rfl rfl fun w1 hw1 => effAt_call' 78 #[.agg (bkC (blkM x.2 sb)), .agg #[.int .i64 (sb : Int), .int .i64 (sf : Int), .int .i64 (st : Int)]] (by go_simp) ((cut_any (blkM x.2 sb) sb sf st hB2 h0f h0t w1).mono fun e w2 hc => ?_)
  obtain ⟨v1, rfl, ho1, hg1⟩ := hc
  obtain ⟨A1, c1, rfl, hbA, hA1, hx1, hy1, hcl1, hz1⟩ := ho1.cells bIs hne
  refine ⟨_, rfl, ⟨fun w2 => A1 < w2.heap.size ∧ ∀ (j : Nat) u, (cutK (blkM x.2 sb) ⟨sb, sf, st⟩)[j]? = some u → w2.cell? ⟨A1, 0 + j, none⟩ = some (bv u), fun a b h g => ⟨Nat.lt_of_lt_of_le h.1 g.below.size, fun j u hj => (g.below.cell (p := ⟨A1, 0 + j, none⟩) h.1).trans (h.2 j u hj)⟩⟩, ⟨hw1.1.trans hg1, hA1, cellsB' hcl1⟩, ?_⟩
  rw [HCL.out]
  clear ho1 hg1 hw1 hA1 hcl1 hbA hx1 hy1 hz1 w2 w1
  simp only [Act.put, stA, List.set]
  refine ft_end ⟨by kernel_rfl, fun w2 hw2 => ?_⟩
  try simp only [List.drop_succ_cons, List.drop_zero]
  have g2 : Gr W w2 := hw2.1
  refine wp_append_n (v := v) bIs rfl _ _ rfl rfl (HO.out.gr g2) A1 0 (cutK (blkM x.2 sb) ⟨sb, sf, st⟩) (64 * (st - sf)) c1 HCL.out rfl (fun _ _ => trivial) (cellsB hw2.2.2) (by have := HPL.out; have := HCL.out; omega) (by have := HSZ.out; have := g2.below.size; omega) (by have := HCL.out; omega) ?_
  intro v1 W1 h1
  obtain ⟨A2, c2, hv1, _, _, _⟩ := h1.own.form bIs
  generalize (_ ++ _ : List UInt8).length = N at hv1
  subst hv1
  have H1 := hd_ h1
  clear h1
  haveI hX1 := H1.out.keep _ _ _ (BlockAt.gr HV.out g2) (by decide)
  have z0 := (bc 0 hX1).trans rfl
  have zf := @block_frozen _ _ 0 _ _ hX1
  haveI hV1 := H1.out.keep _ _ _ (BlockAt.gr HVV.out g2) (by decide)
  haveI hA1 := H1.out.keep _ _ _ (BlockAt.gr HAA.out g2) (by decide)
  haveI : BNe b1_0 X := ⟨by omega⟩
  haveI : BNe (w.heap.size + 1) X := ⟨by omega⟩
  try simp only [Act.put]
  go_wp2
  have h9 := H1.out.own
  refine ⟨(((KeepsOthers.of_gr g2).trans (KeepsOthers.of_app H1.out)).trans (KeepsOthers.setCell _ _ _)).from _, kpx_append (e := bE) g2 HV.out (by decide) H1.out, ⟨⟨(.slice A2 N c2 : Value), ?blk, ?own⟩, ?bel, ?siz⟩, ?vol, ?ans⟩
  case blk =>
   show BlockAt _ _ (#[v].setIfInBounds 0 _) _
   infer_instance
  case own =>
   have h9 := H1.out.own.set_ X 0 (.slice A2 N c2) (by decide)
   show OwnN bE _ _ _ (List.flatMap (fun y : OvX => cutK (blkM x.2 y.2.b) y.2) (List.map (fun x => x.val) (pre ++ [_])))
   rw [List.map_append, List.flatMap_append]
   simpa using h9
  case bel =>
   exact ((HB.out.trans (g2.below.mono HSZ.out)).trans (H1.out.below)).setCell (p := ⟨X, 0, none⟩) (show w.heap.size ≤ X by omega) _
  case siz =>
   have := H1.out.size
   have := g2.below.size
   simp [World.setCell] at this ⊢
   omega
  case vol => infer_instance
  case ans => infer_instance
 case done =>
  rintro Dd ys W hD hS ⟨⟨⟨v, hv, ho⟩, hb, hm⟩, hV, hA⟩ hK
  have x0 : W.cell? ⟨X, 0, none⟩ = some v := (bc 0 hv).trans rfl
  have hS2 : ys.map (·.1) = overK 0 (spans an C) := hS
  rw [hS2] at ho
  have ho2 : OwnN bE w.heap.size W v ((spans an C).flatMap fun s => cutK (blkM x.2 s.b) s) := by
   have e : ((overK 0 (spans an C)).flatMap fun y : OvX => cutK (blkM x.2 y.2.b) y.2) = ((spans an C).flatMap fun s => cutK (blkM x.2 s.b) s) := by
    rw [← overK_snd (spans an C) 0, List.flatMap_map, overK_snd]
   rw [← e]
   exact ho
  obtain ⟨A3, c3, hv3, _, _, _⟩ := ho2.form bIs
  generalize (List.flatMap _ _ : List UInt8).length = N3 at hv3
  subst hv3
  have zA0 : W.cell? ⟨w.heap.size + 1, 0, none⟩ = some (.int .i64 0) := (bc 0 hA).trans rfl
  have zA1 : W.cell? ⟨w.heap.size + 1, 1, none⟩ = some (.int .i64 0) := (bc 1 hA).trans rfl
  have zA2 : W.cell? ⟨w.heap.size + 1, 2, none⟩ = some (.slice none 0 0) := (bc 2 hA).trans rfl
  have fA : ∀ o, W.frozen? ⟨w.heap.size + 1, o, none⟩ = false := fun o => @block_frozen _ _ o _ _ hA
  haveI := hA.old
  have HO := hd_ ho2
  have HB := hd_ hb
  have HV := hd_ hv
  have HAA := hd_ hA
  clear ho ho2 hb hv hbX hb1 hb2 hg0 hrX hW0 hV hA hg1 hbV hbA hS hS2
  gi_wp2
  have hne : Dd ≠ w.heap.size + 1 := by omega
  have hK2 : (((W.setCell ⟨w.heap.size + 1, 0, none⟩ (.int .i64 0)).setCell ⟨w.heap.size + 1, 1, none⟩ (.int .i64 0)).setCell ⟨w.heap.size + 1, 2, none⟩ (.slice A3 N3 c3)).heap[Dd]? = some (.deferred (some [])) := by
   rw [Below.heap_setCell _ _ _ _ hne, Below.heap_setCell _ _ _ _ hne, Below.heap_setCell _ _ _ _ hne]
   exact hK
  refine ⟨by simp, .inl ⟨_, _, rfl, run_takeDeferred hK2, ?_⟩⟩
  haveI kA := HAA.out
  have hB4 := ans_block kA (.int .i64 0) (.int .i64 0) (.slice A3 N3 c3)
  have hB5 : BlockAt (World.putObj (((W.setCell ⟨w.heap.size + 1, 0, none⟩ (.int .i64 0)).setCell ⟨w.heap.size + 1, 1, none⟩ (.int .i64 0)).setCell ⟨w.heap.size + 1, 2, none⟩ (.slice A3 N3 c3)) Dd (Obj.deferred none)) (w.heap.size + 1) #[.int .i64 0, .int .i64 0, .slice A3 N3 c3] 38 := ⟨(World.putObj_heap_other (Ne.symm hne)).trans hB4.eq⟩
  have hO4 := ((HO.out.set_ (w.heap.size + 1) 0 (.int .i64 0) (by decide)).set_ (w.heap.size + 1) 1 (.int .i64 0) (by decide)).set_ (w.heap.size + 1) 2 (.slice A3 N3 c3) (by decide)
  exact ⟨_, run_resCell1 rfl _ _ _ _ rfl hB5 Tryz.underlying38 rfl (by kernel_rfl), (.slice A3 N3 c3 : Value), rfl, hO4.put Dd _ _ hK2 rfl, Gr.of ((ans_below HB.out (by omega) _ _ _).trans (belowK_b (Nat.le_refl _) _ Dd _ _ (by omega) hK2 rfl rfl))⟩
 case stop =>
  rintro D c pre W hD _ h _
  exact h.elim
end Go.Proofs.YtddckdhnolmjoaaGreat
namespace Go.Proofs.YtddckdhnolmjoaaGreat
open Go.RowKit
section
variable {P : Program} {ops : Array Oper} {rest : List Oper} {o : Oper} {a : Act} {Q : Exit → Act → World → Prop} {W w : World} {q : IntKind} {b : Nat} {L : List (Int × Value)} {t kt et : TypeId}
theorem wpList_insertK (hgd : o.guard = none) (m x v : Operand) (ho : o.op = .insert t m x v) (key : Int) (val : Value) (ht : P.underlying t = some (.map kt et)) (hk : P.underlying kt = some (.int q)) (hm : MapAt q W b L) (hg : Gr w W) (hb : w.heap.size ≤ b) (hm2 : a.eval m = .map (some b)) (hx : a.eval x = .int q key) (hv : a.eval v = val)
  (h : ∀ W', MapAt q W' b (putK L key val) → Gr w W' → wpList P ops Q rest (a.put o.dst undef) W') : wpList P ops Q (o :: rest) a W := by
 refine wpList_plain hgd fun K hK => ?_
 obtain ⟨W', hrun, h1, h2⟩ := map_update (P := P) ht hk hm key val
 unfold Oper.wp
 simp [execOp, ho, hm2, hx, hv, hrun, Result.andThen]
 exact hK _ _ (h W' h1 (Gr.of (h2.below hb hm.lt hg.below)))
theorem wpList_makeMapK (hgd : o.guard = none) (ho : o.op = .makeMap t none) (h : ∀ W' b, MapAt q W' b [] → Gr W W' → W.heap.size ≤ b → wpList P ops Q rest (a.put o.dst (.map (some b))) W') : wpList P ops Q (o :: rest) a W := by
 refine wpList_plain hgd fun K hK => ?_
 unfold Oper.wp
 simp [execOp, ho, run_makeMap, Result.andThen]
 exact hK _ _ (h _ _ (mapAt_new W q) (Gr.of ((Below.refl _ _).alloc (Nat.le_refl _) _)) (Nat.le_refl _))
end
theorem OwnsRow_mono {w : World} {base base' : Nat} {e : TypeId} {size : Nat} {v : Value} {n : Nat} {xs : List Value} (h : w.ownsRow base e size v n xs) (hb : base' ≤ base) : w.ownsRow base' e size v n xs := by
 refine ⟨h.1, h.2.imp id ?_⟩
 rintro ⟨g, cap, cur, a, b, c⟩
 exact ⟨g, cap, cur, a, Nat.le_trans hb b, c⟩
def PartPost (base D : Nat) (d : Dev) (code done : Int) (data : Byt) (w : World) (e : Ending) (w' : World) : Prop :=
 ∃ A n c, e = .returned (.agg #[.int .i64 code, .int .i64 done, .slice A n c]) ∧ OwnN bE w.heap.size w' (.slice A n c) data ∧ DevAt base w' D d ∧ Below base w w' ∧ CK w w'
theorem opPost_part {base D : Nat} {d : Dev} {code done : Int} {w : World} {e : Ending} {w' : World} (h : OpPost base D d code done w e w') : PartPost base D d code done [] w e w' :=
 ⟨none, 0, 0, h.1, OwnN.nil _ _, h.2⟩
def tabF : List (Int × Value) := putK (putK (putK (putK (putK (putK (putK (putK [] 1 (.func (.func 38) #[] #[])) 2 (.func (.func 39) #[] #[])) 3 (.func (.func 40) #[] #[])) 4 (.func (.func 41) #[] #[])) 5 (.func (.func 42) #[] #[])) 6 (.func (.func 42) #[] #[])) 7 (.func (.func 43) #[] #[])) 9 (.func (.func 44) #[] #[])
theorem part_call (xk xv xt xs xa xc most : Int) (xD : Option Addr) (xn xq : Nat) (lx : Byt) (hxn : lx.length = xn) (base D : Nat) (d d' : Dev) (w : World) (h : DevAt base w D d) (hbase : base ≤ w.heap.size) (hr : Row bv w xD lx) (hn : xn ≤ 1000000) (he : errK d ⟨xk, xv, xt, xs, xa, xc, lx⟩ = 0) (f : Nat) (hf : getK tabF xk = some (.func (.func f) #[] #[])) (code done : Int) (data : Byt)
  (ef : ∀ args w, (callFunc f args).run Tryz.prog w = .ok (.enter f args) w)
  (hc : ∀ W, Gr w W → Calls Tryz.prog f #[.pointer (some ⟨D, 0, none⟩), .agg #[.int .i64 xk, .int .u64 xv, .int .u64 xt, .int .i64 xs, .int .i64 xa, .int .i64 xc, .slice xD xn xq], .int .i64 most] W (PartPost base D d' code done data W)) :
  Calls Tryz.prog 17 #[.pointer (some ⟨D, 0, none⟩), .agg #[.int .i64 xk, .int .u64 xv, .int .u64 xt, .int .i64 xs, .int .i64 xa, .int .i64 xc, .slice xD xn xq], .int .i64 most] w (PartPost base D d' code done data w) := by
 have HR := hd_ (fun W (g : Gr w W) => (refused_any xk xv xt xs xa xc xD xn xq lx hxn base D d W (h.gr g) (hr.gr g) (by omega)))
 rw [he] at HR
 have HC := hd_ hc
 clear hc h hr
 go_enter Tryz.func17, Tryz.ntmps17
 unfold tabF at hf
 go_wp2_with (first
  | (go_at_call 37; ((with_reducible refine (HR.out _ gri).mono ?_); rintro _ _ ⟨rfl, g1, rfl⟩))
  | (refine wpList_makeMapK (q := .i64) rfl rfl ?_; intro W9 b9 hm9 hgw hbw; have bO := BlockAt.gr (inferInstance : BlockAt _ w.heap.size #[.int .i64 xk, .int .u64 xv, .int .u64 xt, .int .i64 xs, .int .i64 xa, .int .i64 xc, .slice xD xn xq] 27) hgw; have bA := BlockAt.gr (inferInstance : BlockAt _ (w.heap.size + 1) #[.int .i64 0, .int .i64 0, .slice none 0 0] 38) hgw; have cO0 : W9.cell? ⟨w.heap.size, 0, none⟩ = some (.int .i64 xk) := (bc 0 bO).trans rfl; have cO1 : W9.cell? ⟨w.heap.size, 1, none⟩ = some (.int .u64 xv) := (bc 1 bO).trans rfl; have cO2 : W9.cell? ⟨w.heap.size, 2, none⟩ = some (.int .u64 xt) := (bc 2 bO).trans rfl; have cO3 : W9.cell? ⟨w.heap.size, 3, none⟩ = some (.int .i64 xs) := (bc 3 bO).trans rfl; have cO4 : W9.cell? ⟨w.heap.size, 4, none⟩ = some (.int .i64 xa) := (bc 4 bO).trans rfl; have cO5 : W9.cell? ⟨w.heap.size, 5, none⟩ = some (.int .i64 xc) := (bc 5 bO).trans rfl; have cO6 : W9.cell? ⟨w.heap.size, 6, none⟩ = some (.slice xD xn xq) := (bc 6 bO).trans rfl; have oO := bO.old; have oA := bA.old; have HbA := hd_ bA; clear bO bA)
  | (refine wpList_insertK rfl _ _ _ rfl _ (.func (.func _) #[] #[]) Tryz.underlying96 Tryz.underlying23 hm9 hgw hbw rfl rfl rfl ?_; clear cO0 cO1 cO2 cO3 cO4 cO5 cO6 oO oA HbA; clear hm9 hgw; intro W9 hm9 hgw; have bO := BlockAt.gr (inferInstance : BlockAt _ w.heap.size #[.int .i64 xk, .int .u64 xv, .int .u64 xt, .int .i64 xs, .int .i64 xa, .int .i64 xc, .slice xD xn xq] 27) hgw; have bA := BlockAt.gr (inferInstance : BlockAt _ (w.heap.size + 1) #[.int .i64 0, .int .i64 0, .slice none 0 0] 38) hgw; have cO0 : W9.cell? ⟨w.heap.size, 0, none⟩ = some (.int .i64 xk) := (bc 0 bO).trans rfl; have cO1 : W9.cell? ⟨w.heap.size, 1, none⟩ = some (.int .u64 xv) := (bc 1 bO).trans rfl; have cO2 : W9.cell? ⟨w.heap.size, 2, none⟩ = some (.int .u64 xt) := (bc 2 bO).trans rfl; have cO3 : W9.cell? ⟨w.heap.size, 3, none⟩ = some (.int .i64 xs) := (bc 3 bO).trans rfl; have cO4 : W9.cell? ⟨w.heap.size, 4, none⟩ = some (.int .i64 xa) := (bc 4 bO).trans rfl; have cO5 : W9.cell? ⟨w.heap.size, 5, none⟩ = some (.int .i64 xc) := (bc 5 bO).trans rfl; have cO6 : W9.cell? ⟨w.heap.size, 6, none⟩ = some (.slice xD xn xq) := (bc 6 bO).trans rfl; have oO := bO.old; have oA := bA.old; have HbA := hd_ bA; clear bO bA)
  | (at_lookup; go_loud (refine wpList_lookupK (q := .i64) (b := b9) rfl _ _ rfl xk Tryz.underlying96 Tryz.underlying23 (Tryz.zeroValue95 _) hm9 rfl rfl ?_); go_loud (rw [hf]; have HGW := hd_ hgw; clear hgw hbw hm9))
  | (go_at_fn f; ((with_reducible refine (HC.out _ (Gr.trans gri (Gr.trans HGW.out gri))).mono ?_); rintro _ W3 ⟨A3, n3, c3, rfl, ho3, hd3, hb3, hk3⟩; have bA3 := hk3.block HbA.out; have cA0 : W3.cell? ⟨w.heap.size + 1, 0, none⟩ = some (.int .i64 0) := (bc 0 bA3).trans rfl; have cA1 : W3.cell? ⟨w.heap.size + 1, 1, none⟩ = some (.int .i64 0) := (bc 1 bA3).trans rfl; have cA2 : W3.cell? ⟨w.heap.size + 1, 2, none⟩ = some (.slice none 0 0) := (bc 2 bA3).trans rfl; have fA : ∀ o, W3.frozen? ⟨w.heap.size + 1, o, none⟩ = false := fun o => @block_frozen _ _ o _ _ bA3)))
 have gW : Gr w W9 := Gr.trans gri HGW.out
 have hbw9 : Below base w W9 := gW.below.mono hbase
 obtain ⟨M3, mb3, hd3⟩ := hd3
 have ho4 : OwnN bE w.heap.size W3 (.slice A3 n3 c3) data := ⟨ho3.ok, OwnsRow_mono ho3.own gW.below.size⟩
 have ho5 := ((ho4.set_ (w.heap.size + 1) 0 (.int .i64 code) (by decide)).set_ (w.heap.size + 1) 1 (.int .i64 done) (by decide)).set_ (w.heap.size + 1) 2 (.slice A3 n3 c3) (by decide)
 exact bodyPost_ret (run_resCell1 rfl _ _ _ _ rfl (ans_block bA3 _ _ _) Tryz.underlying38 rfl (by kernel_rfl)) rfl ⟨A3, n3, c3, rfl, ho5, ans_dev hd3 bA3 (by decide) _ _ _, ans_below (hbw9.trans hb3) (by omega) _ _ _, ck_ans ((CK.gr gW).trans hk3) (by omega) _ _ _⟩
theorem part_ref (xk xv xt xs xa xc most : Int) (xD : Option Addr) (xn xq : Nat) (lx : Byt) (hxn : lx.length = xn) (base D : Nat) (d : Dev) (w : World) (h : DevAt base w D d) (hbase : base ≤ w.heap.size) (hr : Row bv w xD lx) (hn : xn ≤ 1000000) (k : Int) (he : errK d ⟨xk, xv, xt, xs, xa, xc, lx⟩ = k) (hk : k = 2 ∨ k = 5 ∨ k = 6 ∨ k = 7) :
  Calls Tryz.prog 17 #[.pointer (some ⟨D, 0, none⟩), .agg #[.int .i64 xk, .int .u64 xv, .int .u64 xt, .int .i64 xs, .int .i64 xa, .int .i64 xc, .slice xD xn xq], .int .i64 most] w (PartPost base D d k 0 [] w) := by
 have HR := hd_ (fun W (g : Gr w W) => (refused_any xk xv xt xs xa xc xD xn xq lx hxn base D d W (h.gr g) (hr.gr g) (by omega)))
 rw [he] at HR
 have HH := hd_ h
 clear h hr
 rcases hk with rfl | rfl | rfl | rfl
 all_goals
  go_enter Tryz.func17, Tryz.ntmps17
  go_wp2_with ((go_at_call 37; ((with_reducible refine (HR.out _ gri).mono ?_); rintro _ _ ⟨rfl, g1, rfl⟩)))
  obtain ⟨M3, mb3, hd3⟩ := HH.out
  have gW : Gr w (grown _ g1) := gri
  have bA := (inferInstance : BlockAt (grown _ g1) (w.heap.size + 1) #[.int .i64 0, .int .i64 0, .slice none 0 0] 38)
  exact bodyPost_ret (run_resCell1 rfl _ _ _ _ rfl (ans_block bA _ _ _) Tryz.underlying38 rfl (by kernel_rfl)) rfl ⟨none, 0, 0, rfl, OwnN.nil _ _, ans_dev (hd3.gr gW) bA (by decide) _ _ _, ans_below (gW.below.mono hbase) (by omega) _ _ _, ck_ans (CK.gr gW) (by omega) _ _ _⟩
theorem errK_val (d : Dev) (o : OpM) (h : ¬ errK d o = 0) : errK d o = 2 ∨ errK d o = 5 ∨ errK d o = 6 ∨ errK d o = 7 := by
 revert h
 unfold errK
 repeat' split
 all_goals simp_all
theorem part_none (xk xv xt xs xa xc most : Int) (xD : Option Addr) (xn xq : Nat) (lx : Byt) (hxn : lx.length = xn) (base D : Nat) (d : Dev) (w : World) (h : DevAt base w D d) (hbase : base ≤ w.heap.size) (hr : Row bv w xD lx) (hn : xn ≤ 1000000) (he : errK d ⟨xk, xv, xt, xs, xa, xc, lx⟩ = 0) (hf : getK tabF xk = none) :
  Calls Tryz.prog 17 #[.pointer (some ⟨D, 0, none⟩), .agg #[.int .i64 xk, .int .u64 xv, .int .u64 xt, .int .i64 xs, .int .i64 xa, .int .i64 xc, .slice xD xn xq], .int .i64 most] w (PartPost base D d 0 0 [] w) := by
 have HR := hd_ (fun W (g : Gr w W) => (refused_any xk xv xt xs xa xc xD xn xq lx hxn base D d W (h.gr g) (hr.gr g) (by omega)))
 rw [he] at HR
 have HH := hd_ h
 clear h hr
 go_enter Tryz.func17, Tryz.ntmps17
 unfold tabF at hf
 go_wp2_with (first
  | (go_at_call 37; ((with_reducible refine (HR.out _ gri).mono ?_); rintro _ _ ⟨rfl, g1, rfl⟩))
  | (refine wpList_makeMapK (q := .i64) rfl rfl ?_; intro W9 b9 hm9 hgw hbw; have bO := BlockAt.gr (inferInstance : BlockAt _ w.heap.size #[.int .i64 xk, .int .u64 xv, .int .u64 xt, .int .i64 xs, .int .i64 xa, .int .i64 xc, .slice xD xn xq] 27) hgw; have bA := BlockAt.gr (inferInstance : BlockAt _ (w.heap.size + 1) #[.int .i64 0, .int .i64 0, .slice none 0 0] 38) hgw; have cO0 : W9.cell? ⟨w.heap.size, 0, none⟩ = some (.int .i64 xk) := (bc 0 bO).trans rfl; have cO1 : W9.cell? ⟨w.heap.size, 1, none⟩ = some (.int .u64 xv) := (bc 1 bO).trans rfl; have cO2 : W9.cell? ⟨w.heap.size, 2, none⟩ = some (.int .u64 xt) := (bc 2 bO).trans rfl; have cO3 : W9.cell? ⟨w.heap.size, 3, none⟩ = some (.int .i64 xs) := (bc 3 bO).trans rfl; have cO4 : W9.cell? ⟨w.heap.size, 4, none⟩ = some (.int .i64 xa) := (bc 4 bO).trans rfl; have cO5 : W9.cell? ⟨w.heap.size, 5, none⟩ = some (.int .i64 xc) := (bc 5 bO).trans rfl; have cO6 : W9.cell? ⟨w.heap.size, 6, none⟩ = some (.slice xD xn xq) := (bc 6 bO).trans rfl; have oO := bO.old; have oA := bA.old; have HbA := hd_ bA; clear bO bA)
  | (refine wpList_insertK rfl _ _ _ rfl _ (.func (.func _) #[] #[]) Tryz.underlying96 Tryz.underlying23 hm9 hgw hbw rfl rfl rfl ?_; clear cO0 cO1 cO2 cO3 cO4 cO5 cO6 oO oA HbA; clear hm9 hgw; intro W9 hm9 hgw; have bO := BlockAt.gr (inferInstance : BlockAt _ w.heap.size #[.int .i64 xk, .int .u64 xv, .int .u64 xt, .int .i64 xs, .int .i64 xa, .int .i64 xc, .slice xD xn xq] 27) hgw; have bA := BlockAt.gr (inferInstance : BlockAt _ (w.heap.size + 1) #[.int .i64 0, .int .i64 0, .slice none 0 0] 38) hgw; have cO0 : W9.cell? ⟨w.heap.size, 0, none⟩ = some (.int .i64 xk) := (bc 0 bO).trans rfl; have cO1 : W9.cell? ⟨w.heap.size, 1, none⟩ = some (.int .u64 xv) := (bc 1 bO).trans rfl; have cO2 : W9.cell? ⟨w.heap.size, 2, none⟩ = some (.int .u64 xt) := (bc 2 bO).trans rfl; have cO3 : W9.cell? ⟨w.heap.size, 3, none⟩ = some (.int .i64 xs) := (bc 3 bO).trans rfl; have cO4 : W9.cell? ⟨w.heap.size, 4, none⟩ = some (.int .i64 xa) := (bc 4 bO).trans rfl; have cO5 : W9.cell? ⟨w.heap.size, 5, none⟩ = some (.int .i64 xc) := (bc 5 bO).trans rfl; have cO6 : W9.cell? ⟨w.heap.size, 6, none⟩ = some (.slice xD xn xq) := (bc 6 bO).trans rfl; have oO := bO.old; have oA := bA.old; have HbA := hd_ bA; clear bO bA)
  | (at_lookup; go_loud (refine wpList_lookupK (q := .i64) (b := b9) rfl _ _ rfl xk Tryz.underlying96 Tryz.underlying23 (Tryz.zeroValue95 _) hm9 rfl rfl ?_); go_loud (rw [hf]; have HGW := hd_ hgw; clear hgw hbw hm9; have cA0 : W9.cell? ⟨w.heap.size + 1, 0, none⟩ = some (.int .i64 0) := (bc 0 HbA.out).trans rfl; have cA1 : W9.cell? ⟨w.heap.size + 1, 1, none⟩ = some (.int .i64 0) := (bc 1 HbA.out).trans rfl; have cA2 : W9.cell? ⟨w.heap.size + 1, 2, none⟩ = some (.slice none 0 0) := (bc 2 HbA.out).trans rfl; have fA : ∀ o, W9.frozen? ⟨w.heap.size + 1, o, none⟩ = false := fun o => @block_frozen _ _ o _ _ HbA.out)))
 have gW : Gr w W9 := Gr.trans gri HGW.out
 obtain ⟨M3, mb3, hd3⟩ := HH.out
 have bA3 := HbA.out
 exact bodyPost_ret (run_resCell1 rfl _ _ _ _ rfl (ans_block bA3 _ _ _) Tryz.underlying38 rfl (by kernel_rfl)) rfl ⟨none, 0, 0, rfl, OwnN.nil _ _, ans_dev (hd3.gr gW) bA3 (by decide) _ _ _, ans_below (gW.below.mono hbase) (by omega) _ _ _, ck_ans (CK.gr gW) (by omega) _ _ _⟩
end Go.Proofs.YtddckdhnolmjoaaGreat
