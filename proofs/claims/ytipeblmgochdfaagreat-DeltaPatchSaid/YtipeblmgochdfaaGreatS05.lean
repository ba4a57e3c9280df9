/- A region that draws its order: calm operations, others one behind the other among them, and, behind all of these, what comes as the text has it. Conditions: each step is known. What a written device is; map writes in a walk. Conditions: none. Slices whose elements have so many cells: what is read, what the call owns, 'l = append(l, ..)'. Conditions: at most 10^8 elements. The reference's device in memory. Conditions: none. The reference's device: Find, Get. Conditions: the device stands in memory. -/
import Derived.Test.YtipeblmgochdfaaGreatS03
import Derived.Test.YtipeblmgochdfaaGreatS04
import Derived.Test.YtipeblmgochdfaaGreatS01
import Derived.Laws.OwnMore
import Derived.Test.YtipeblmgochdfaaGreatS02
import Derived.Laws.AppendOwnNone
import Derived.LoopTactic
namespace Go.Proofs.YtipeblmgochdfaaGreat
open Go.RowKit
set_option linter.unusedVariables false
set_option linter.unusedSimpArgs false
set_option linter.unnecessarySimpa false
section
variable {P : Program} {ops : Array Oper} {md : Region.Mode} {W : World} {S : Type} {I : S → World → Prop}
def feT (P : Program) (md : Region.Mode) (ops : Array Oper) (W : World) (I : S → World → Prop) (n : Nat) (L : Array Bool → S → Act → Prop) : Nat → Array Bool → S → Act → Prop
 | 0, listed, s, a => L listed s a
 | f + 1, listed, s, a => Region.ready md ops listed ≠ [] ∧ ∀ i ∈ Region.ready md ops listed, i < n ∧ feOp P ops W I i (feT P md ops W I n L f (listed.setIfInBounds i true)) s a
theorem feT_any (G : Ghost W I) {n g : Nat} {L : Array Bool → S → Act → Prop} {Q' : Exit → Act → World → Prop} (hL : ∀ listed s a w, I s w → L listed s a → wpAny P md ops Q' g listed a w) :
  ∀ (f : Nat) (listed : Array Bool) (s : S) (a : Act) (w : World), I s w → feT P md ops W I n L f listed s a → wpAny P md ops Q' (f + g) listed a w
 | 0, listed, s, a, w, hw, h => by rw [Nat.zero_add]; exact hL _ _ _ _ hw h
 | f + 1, listed, s, a, w, hw, h => by
  rw [show f + 1 + g = (f + g) + 1 by omega]
  refine ⟨fun h0 => absurd h0 h.1, fun i hi => ?_⟩
  unfold wpOp
  rcases (h.2 i hi).2 with ⟨o, ho, v, hv, hk⟩ | ⟨o, ho, hg, hs⟩
  ·simp only [ho]
   rcases hv with ⟨hw1, hc⟩ | ⟨hw1, rfl⟩
   ·simp only [hw1, if_true]
    refine .inl ?_
    obtain ⟨gw, rfl⟩ := G.out _ _ hw
    have h3 := hc gw
    unfold calmAt at h3
    unfold Oper.wp
    generalize (execOp a.eval o).run P (grown W gw) = r at *
    cases r with
    | ok nx w' =>
     cases nx <;> simp only [calmUpon] at h3 <;> simp only [Oper.upon]
     case value u => obtain ⟨e1, e2⟩ := h3; rw [e1, e2]; exact feT_any G hL f _ _ _ _ hw hk
     case skip => obtain ⟨e1, e2⟩ := h3; rw [e1, ← e2]; exact feT_any G hL f _ _ _ _ hw hk
     case enter f' args =>
      obtain ⟨e1, hc'⟩ := h3
      rw [e1]
      exact hc'.mono fun e w'' ⟨he, hw''⟩ => by subst he; exact feT_any G hL f _ _ _ _ (G.grow _ _ _ hw hw'') hk
    | halt x w' => simp only [calmUpon] at h3
   ·simp only [hw1, Bool.false_eq_true, if_false]; exact feT_any G hL f _ _ _ _ hw hk
  ·simp only [ho, hg, if_true]
   refine .inl ?_
   have h3 := hs w hw
   unfold EffAt at h3
   unfold Oper.wp
   generalize (execOp a.eval o).run P w = r at *
   cases r with
   | ok nx w' =>
    cases nx <;> simp only [effUpon] at h3 <;> simp only [Oper.upon]
    case value u => obtain ⟨s', hi', hk⟩ := h3; exact feT_any G hL f _ _ _ _ hi' hk
    case skip => obtain ⟨s', hi', hk⟩ := h3; exact feT_any G hL f _ _ _ _ hi' hk
    case enter f' args => exact h3.mono fun e w'' ⟨v, he, s', hi', hk⟩ => by subst he; exact feT_any G hL f _ _ _ _ hi' hk
   | halt x w' => simp only [effUpon] at h3
theorem feT_first {n i : Nat} {oi : Oper} {v : Value} {L : Array Bool → S → Act → Prop} (hi : ops[i]? = some oi) (hsel : ∀ (j : Nat) (o : Oper) cs b, ops[j]? = some o → o.op ≠ .select cs b)
  (hs : Region.sinkB md ops n = true) (hc : Region.chainB md ops n = true) (hn : n < ops.size) (hin : i < n) (hdone : ∀ listed s a, L listed s a → ∀ j ∈ Region.ready md ops listed, n ≤ j) :
  ∀ (f : Nat) (listed : Array Bool) (s : S) (a : Act), HeadInv md ops n listed →
   (∀ j oj, ops[j]? = some oj → j ≠ i → listed.getD j true = false → (∀ e ∈ oj.after, Region.binds md e = true → e.on ≠ i) → oi.apart ops oj = true) →
   i ∈ Region.ready md ops listed → CalmOp P ops W oi v a →
   feT P md ops W I n L f (listed.setIfInBounds i true) s (a.put oi.dst v) → feT P md ops W I n L (f + 1) listed s a := by
 intro f
 induction f with
 | zero =>
  intro listed s a inv _ hr hy H
  refine ⟨(fun h => by rw [h] at hr; cases hr), fun j hj => ?_⟩
  have hjn : j < n := (Nat.lt_or_ge j n).elim id fun h => absurd hj (tail_waits hs hc hn inv _ i rfl hin (mem_ready.1 hr).1 j h)
  by_cases hji : j = i
  ·subst hji; exact ⟨hjn, .inl ⟨oi, hi, v, hy, H⟩⟩
  ·have := hdone _ _ _ H j (ready_mono hj hji)
   omega
 | succ f ih =>
  intro listed s a inv hfree hr hy H
  have hun := (mem_ready.1 hr).1
  refine ⟨(fun h => by rw [h] at hr; cases hr), fun j hj => ?_⟩
  have hjn : j < n := (Nat.lt_or_ge j n).elim id fun h => absurd hj (tail_waits hs hc hn inv _ i rfl hin hun j h)
  refine ⟨hjn, ?_⟩
  by_cases hji : j = i
  ·subst hji; exact .inl ⟨oi, hi, v, hy, H⟩
  have h1 := (H.2 j (ready_mono hj hji)).2
  obtain ⟨hjun, oj, hoj, hall⟩ := mem_ready.1 hj
  have hnot : ∀ e ∈ oj.after, Region.binds md e = true → e.on ≠ i := fun e he hb heq => by
   have h1 := hall e he hb
   rw [heq, getD_both hun] at h1
   cases h1
  have h2 := feOp_put hoj (hfree j oj hoj hji hjun hnot) (fun cs b => hsel i oi cs b hi) (fun cs b => hsel j oj cs b hoj) hy h1
  have hfree' : ∀ k ok, ops[k]? = some ok → k ≠ i → (listed.setIfInBounds j true).getD k true = false →
    (∀ e ∈ ok.after, Region.binds md e = true → e.on ≠ i) → oi.apart ops ok = true := fun k ok hk hki hu hno => by
   refine hfree k ok hk hki ?_ hno
   by_cases hjk : j = k
   ·subst hjk; exact hjun
   ·rw [getD_set_ne true hjk] at hu; exact hu
  refine feOp_mono (fun s' a' h3 => ih (listed.setIfInBounds j true) s' a' (inv.set hj hjn) hfree' (ready_mono hr (Ne.symm hji)) h3.1 ?_) h2
  rw [Array.setIfInBounds_comm _ _ hji]
  exact h3.2
end
section
variable {P : Program} {md : Region.Mode} {W : World} {S : Type} {I : S → World → Prop} {l : List Oper}
theorem feT_lex {n : Nat} {L : Array Bool → S → Act → Prop} (hsel : Region.noSelect l.toArray = true) (hs : Region.sinkB md l.toArray n = true) (hc : Region.chainB md l.toArray n = true) (hn : n < l.toArray.size) (hdone : ∀ listed s a, L listed s a → ∀ j ∈ Region.ready md l.toArray listed, n ≤ j) (m : Nat) :
  ∀ (qs : List Nat) (listed : Array Bool) (s : S) (a : Act), (∀ k ∈ qs, k < n) → HeadInv md l.toArray n listed → freeAll md l.toArray qs listed = true → wpCalm P l.toArray W (fun a' => feT P md l.toArray W I n L m (listAll qs listed) s a') (pick l qs) a →
   feT P md l.toArray W I n L (qs.length + m) listed s a
 | [], listed, s, a, _, inv, hB, h => by
  rw [List.length_nil, Nat.zero_add]
  exact h
 | k :: r, listed, s, a, hq, inv, hB, h => by
  simp only [freeAll, Bool.and_eq_true] at hB
  obtain ⟨⟨hr, hf⟩, hB'⟩ := hB
  have hr' : k ∈ Region.ready md l.toArray listed := by simpa using hr
  obtain ⟨_, o, ho, _⟩ := mem_ready.1 hr'
  have ho' : l[k]? = some o := by simpa using ho
  have hkn := hq k (.head _)
  rw [pick_cons ho'] at h
  rw [show (k :: r).length + m = (r.length + m) + 1 by simp; omega]
  have hq' : ∀ j ∈ r, j < n := fun j hj => hq j (.tail _ hj)
  unfold wpCalm at h
  by_cases hw : Region.wanted o (yielded l.toArray a.tmps) = true
  ·simp only [hw, if_true] at h
   obtain ⟨v, hv, hk⟩ := h
   exact feT_first ho (Region.noSelect_spec hsel) hs hc hn hkn hdone _ listed s a inv (Region.free_spec ho hf) hr' (.inl ⟨hw, hv⟩) (feT_lex hsel hs hc hn hdone m r _ _ _ hq' (inv.set hr' hkn) hB' hk)
  ·simp only [hw] at h
   exact feT_first ho (Region.noSelect_spec hsel) hs hc hn hkn hdone _ listed s a inv (Region.free_spec ho hf) hr' (.inr ⟨by simpa using hw, rfl⟩) (feT_lex hsel hs hc hn hdone m r _ _ _ hq' (inv.set hr' hkn) hB' h)
def treeTB (md : Region.Mode) (ops : Array Oper) (qs : List Nat) (m n : Nat) : Bool :=
 Region.noSelect ops && decide (n < ops.size) && Region.sinkB md ops n && Region.chainB md ops n && decide (qs.length + m = n) && qs.all (fun k => decide (k < n)) && freeAll md ops qs (Array.replicate ops.size false)
theorem wp_region_treeT {id : Nat} {Q : Exit → Act → World → Prop} {a : Act} {w : World} (G : Ghost W I) (s : S) (hw : I s w.drew) (qs : List Nat) (m n : Nat) (hm : P.follows .mixedOrders = true) (hB : treeTB .any l.toArray qs m n = true)
  (h : wpCalm P l.toArray W (fun a' => feT P .any l.toArray W I n (fun listed s a => Region.seqB .any l.toArray (l.toArray.size - n) n listed = true ∧ ∀ w', I s w' → wpList P l.toArray Q (l.drop n) a w') m (listAll qs (Array.replicate l.toArray.size false)) s a') (pick l qs) a) : (Code.region id l.toArray true).wp P Q a w := by
 simp only [treeTB, Bool.and_eq_true, decide_eq_true_eq] at hB
 obtain ⟨⟨⟨⟨⟨⟨hsel, hn⟩, hs⟩, hc⟩, hlen⟩, hall⟩, hfree⟩ := hB
 have hall' : ∀ k ∈ qs, k < n := fun k hk => by simpa using List.all_eq_true.1 hall k hk
 have hdl : (l.drop n).length = l.toArray.size - n := by simp
 have inv0 : HeadInv .any l.toArray n (Array.replicate l.toArray.size false) :=
  ⟨by simp, (fun j oj _ hl => by rw [getD_replicate_false] at hl; cases hl), fun t _ ht => getD_in (by simpa using ht) (getD_replicate_false _ _)⟩
 have H := feT_lex (md := .any) (P := P) (W := W) (I := I) hsel hs hc hn (fun listed s a hL => seqB_ready hL.1) m qs _ s a hall' inv0 hfree h
 refine wp_region_any hm ?_
 have := feT_any (Q' := Q) (g := l.toArray.size - n) G (fun listed s a' w' hw' hL => by
  have := wpAny_of_seq (md := .any) (Q' := Q) (l.drop n) n listed a' w' (fun j => by simp [List.getElem?_drop]) (by rw [hdl]; exact hL.1) (hL.2 w' hw')
  rwa [hdl] at this) _ _ _ _ _ hw H
 rw [hlen, show n + (l.toArray.size - n) = l.toArray.size by simp at hn ⊢; omega] at this
 exact this
theorem effAt_call' {o : Oper} {a : Act} {w : World} {R : Value → World → Prop} (f : FuncId) (args : Array Value) (he : (execOp a.eval o).run P w = .ok (.enter f args) w) (h : Calls P f args w (fun e w' => ∃ v, e = .returned v ∧ R v w')) : EffAt P o a w R := by
 unfold EffAt
 rw [he]
 exact h
section
variable {ops : Array Oper} {L : Array Bool → S → Act → Prop} {f n : Nat} {listed : Array Bool} {s : S} {a : Act}
theorem ft_one (i : Nat) (hr : Region.ready md ops listed = [i]) (hi : i < n) (h : feOp P ops W I i (feT P md ops W I n L f (listed.setIfInBounds i true)) s a) : feT P md ops W I n L (f + 1) listed s a :=
 ⟨fun h0 => by (rw [hr] at h0; cases h0), fun k hk => by (rw [hr] at hk; obtain rfl : k = i := by simpa using hk); exact ⟨hi, h⟩⟩
theorem ft_eff (i : Nat) {o : Oper} (hr : Region.ready md ops listed = [i]) (hi : i < n) (ho : ops[i]? = some o) (hg : o.guard = none) (h : ∀ w, I s w → EffAt P o a w (fun v w' => ∃ s', I s' w' ∧ feT P md ops W I n L f (listed.setIfInBounds i true) s' (a.put o.dst v))) : feT P md ops W I n L (f + 1) listed s a :=
 ft_one i hr hi (fe_eff o ho hg h)
theorem ft_calm (i : Nat) {o : Oper} (v : Value) (hr : Region.ready md ops listed = [i]) (hi : i < n) (ho : ops[i]? = some o) (hg : o.guard = none) (hc : ∀ g : Growth W, calmAt P o a (grown W g) v) (h : feT P md ops W I n L f (listed.setIfInBounds i true) s (a.put o.dst v)) : feT P md ops W I n L (f + 1) listed s a :=
 ft_one i hr hi (fe_calm o v ho hg hc h)
theorem ft_end (h : L listed s a) : feT P md ops W I n L 0 listed s a := h
end
end
set_option maxRecDepth 100000
section
variable {P : Program} {W : World} {ops : Array Oper} {rest : List Oper} {o : Oper} {a : Act} {Q : Exit → Act → World → Prop} {q : IntKind} {b : Nat} {L : List (Int × Value)} {t kt et : TypeId}
theorem wpList_updateK (hgd : o.guard = none) (m x v : Operand) (ho : o.op = .mapUpdate t m x v) (key : Int) (val : Value) (ht : P.underlying t = some (.map kt et)) (hk : P.underlying kt = some (.int q)) (hm : MapAt q W b L) (hm2 : a.eval m = .map (some b)) (hx : a.eval x = .int q key) (hv : a.eval v = val)
  (h : ∀ W', MapAt q W' b (putK L key val) → OnlyB W W' b → wpList P ops Q rest (a.put o.dst undef) W') : wpList P ops Q (o :: rest) a W := by
 refine wpList_plain hgd fun K hK => ?_
 obtain ⟨W', hrun, h1, h2⟩ := map_update (P := P) ht hk hm key val
 unfold Oper.wp
 simp [execOp, ho, hm2, hx, hv, hrun, Result.andThen]
 exact hK _ _ (h W' h1 h2)
theorem wpList_deleteK (hgd : o.guard = none) (m x : Operand) (ho : o.op = .call { callee := .builtin .delete, args := #[m, x], argTypes := #[t, kt] }) (key : Int) (ht : P.underlying t = some (.map kt et)) (hk : P.underlying kt = some (.int q)) (hm : MapAt q W b L) (hm2 : a.eval m = .map (some b)) (hx : a.eval x = .int q key)
  (h : ∀ W', MapAt q W' b (delK L key) → OnlyB W W' b → wpList P ops Q rest (a.put o.dst (.tuple #[])) W') : wpList P ops Q (o :: rest) a W := by
 refine wpList_plain hgd fun K hK => ?_
 obtain ⟨W', hrun, h1, h2⟩ := map_delete (P := P) ht hk hm key o.type
 unfold Oper.wp
 simp [execOp, ho, resolve, invoke, builtin, hm2, hx, hrun, Result.andThen]
 exact hK _ _ (h W' h1 h2)
theorem effAt_makeMap {w : World} {R : Value → World → Prop} (ho : o.op = .makeMap t none) (h : R (.map (some w.heap.size)) (w.alloc (.map #[] 0))) : EffAt P o a w R := by
 unfold EffAt execOp
 simp only [ho]
 simp [run_makeMap, effUpon]
 exact h
end
theorem OnlyB.blockAt {W W' : World} {b : Nat} (h : OnlyB W W' b) {B : Nat} {cs : Array Value} {t : TypeId} (hB : BlockAt W B cs t) (hne : B ≠ b) : BlockAt W' B cs t := ⟨(h.block hne).trans hB.eq⟩
theorem OnlyB.mapAt {W W' : World} {b : Nat} (h : OnlyB W W' b) {q : IntKind} {B : Nat} {L : List (Int × Value)} (hB : MapAt q W B L) (hne : B ≠ b) : MapAt q W' B L := hB.keep (h.block hne)
def volF (mb : Int → Nat) (p : Int × VolM) : Int × Value := (p.1, .agg #[.int .i64 p.2.1, .map (some (mb p.1))])
theorem putK_vols (d : Dev) (mb : Int → Nat) (b : Nat) (v : Int) (x : VolM) : ∀ (hs : SortK d), putK (d.map (volF mb)) v (.agg #[.int .i64 x.1, .map (some b)]) = (putK d v x).map (volF fun u => if u = v then b else mb u) := by
 have hmap : ∀ (l : Dev), (∀ p ∈ l, p.1 ≠ v) → l.map (volF mb) = l.map (volF fun u => if u = v then b else mb u) := fun l hl => List.map_congr_left fun p hp => by simp [volF, hl p hp]
 induction d with
 | nil => intro _; simp [putK, volF]
 | cons p r ih =>
  obtain ⟨a, y⟩ := p
  intro hs
  have h1 := List.pairwise_cons.1 hs
  simp only [List.map_cons, putK, volF]
  by_cases h2 : v < a
  ·rw [if_pos h2, if_pos h2]
   have h3 := hmap ((a, y) :: r) (fun p hp => by
    rcases List.mem_cons.1 hp with rfl | hp
    ·simp; omega
    ·have := h1.1 p hp; simp at this; omega)
   simp only [List.map_cons, volF] at h3
   simp only [List.map_cons, volF]
   rw [h3]
   simp
  ·rw [if_neg h2, if_neg h2]
   by_cases h3 : v = a
   ·rw [if_pos h3, if_pos h3]
    have h4 := hmap r (fun p hp => by have := h1.1 p hp; simp at this; omega)
    rw [List.map_cons, ← h4]
    simp [volF]
   ·rw [if_neg h3, if_neg h3, List.map_cons]
    have h4 : ¬ a = v := fun e => h3 e.symm
    have h5 := ih h1.2
    unfold volF at h5 ⊢
    rw [h5]
    simp [h4]
theorem DevIn.put {base : Nat} {w W W' : World} {D M : Nat} {mb : Int → Nat} {d : Dev} (h : DevIn base w D M mb d) (g : Gr w W) (v : Int) (x : VolM) (b : Nat) (hm : MapAt .i64 W b (encK bkV x.2)) (hb : w.heap.size ≤ b ∨ (b = mb v ∧ ∃ y, (v, y) ∈ d))
  (h1 : MapAt .u64 W' M (putK (d.map fun p => (p.1, .agg #[.int .i64 p.2.1, .map (some (mb p.1))])) v (.agg #[.int .i64 x.1, .map (some b)]))) (h2 : OnlyB W W' M) (hok : DevOk (putK d v x)) (hbase : base ≤ w.heap.size) : DevIn base W' D M (fun u => if u = v then b else mb u) (putK d v x) := by
 have hlt : ∀ p ∈ d, mb p.1 < w.heap.size := fun p hp => (h.vol p hp).lt
 have hMl := h.all.lt
 have hDM : D ≠ M := by
  rintro rfl
  obtain ⟨es, clock, he, _⟩ := h.all
  have := h.blk.eq
  rw [he] at this
  cases this
 have hbM : b ≠ M := by
  rcases hb with hb | ⟨rfl, y, hy⟩
  ·omega
  ·exact h.ne _ hy
 refine ⟨h2.blockAt (h.blk.gr g) hDM, ?_, fun p hp => ?_, fun p hp r hr => ?_, fun p hp => ?_, h.bD, h.bM, fun p hp => ?_, hok⟩
 ·have := putK_vols d mb b v x h.ok.sort
  unfold volF at this
  rw [← this]
  exact h1
 ·rcases (mem_putK h.ok.sort p).1 hp with rfl | ⟨hp, hne⟩
  ·simp only [if_true]
   exact h2.mapAt hm hbM
  ·simp only [if_neg hne]
   exact h2.mapAt ((h.vol p hp).gr g) (h.ne p hp)
 ·rcases (mem_putK h.ok.sort p).1 hp with rfl | ⟨hp, hne⟩ <;> rcases (mem_putK h.ok.sort r).1 hr with rfl | ⟨hr, hnr⟩
  ·exact fun _ => rfl
  ·simp only [if_true, if_neg hnr]
   intro e
   rcases hb with hb | ⟨rfl, y, hy⟩
   ·have := hlt r hr; omega
   ·exact h.inj _ hy _ hr e
  ·simp only [if_true, if_neg hne]
   intro e
   rcases hb with hb | ⟨rfl, y, hy⟩
   ·have := hlt p hp; omega
   ·exact h.inj _ hp _ hy e
  ·simp only [if_neg hne, if_neg hnr]
   exact h.inj p hp r hr
 ·rcases (mem_putK h.ok.sort p).1 hp with rfl | ⟨hp, hne⟩
  ·simp only [if_true]; exact hbM
  ·simp only [if_neg hne]; exact h.ne p hp
 ·rcases (mem_putK h.ok.sort p).1 hp with rfl | ⟨hp, hne⟩
  ·simp only [if_true]
   rcases hb with hb | ⟨rfl, y, hy⟩
   ·omega
   ·exact h.bV _ hy
  ·simp only [if_neg hne]; exact h.bV p hp
theorem delK_vols (d : Dev) (mb : Int → Nat) (v : Int) : delK (d.map (volF mb)) v = (delK d v).map (volF mb) := by
 simp only [delK, List.filter_map]; rfl
theorem DevIn.del {base : Nat} {w W W' : World} {D M : Nat} {mb : Int → Nat} {d : Dev} (h : DevIn base w D M mb d) (g : Gr w W) (v : Int)
  (h1 : MapAt .u64 W' M (delK (d.map fun p => (p.1, .agg #[.int .i64 p.2.1, .map (some (mb p.1))])) v)) (h2 : OnlyB W W' M) : DevIn base W' D M mb (delK d v) := by
 have hDM : D ≠ M := by
  rintro rfl
  obtain ⟨es, clock, he, _⟩ := h.all
  have := h.blk.eq
  rw [he] at this
  cases this
 have hm : ∀ p ∈ delK d v, p ∈ d := fun p hp => (List.mem_filter.1 hp).1
 refine ⟨h2.blockAt (h.blk.gr g) hDM, ?_, fun p hp => h2.mapAt ((h.vol p (hm p hp)).gr g) (h.ne p (hm p hp)), fun p hp r hr => h.inj p (hm p hp) r (hm r hr), fun p hp => h.ne p (hm p hp), h.bD, h.bM, fun p hp => h.bV p (hm p hp), del_ok h.ok v⟩
 have := delK_vols d mb v
 unfold volF at this
 rw [← this]
 exact h1
theorem DevIn.keep {base : Nat} {W W' : World} {D M : Nat} {mb : Int → Nat} {d : Dev} (h : DevIn base W D M mb d) {B : Nat} {cs : Array Value} {t : TypeId} (hB : BlockAt W B cs t) (ht : t ≠ 101) (hk : ∀ i, i ≠ B → W'.heap[i]? = W.heap[i]?) : DevIn base W' D M mb d := by
 have hmap : ∀ {q : IntKind} {b : Nat} {L : List (Int × Value)}, MapAt q W b L → b ≠ B := fun hm e => by
  obtain ⟨es, clock, he, _⟩ := hm
  subst e
  rw [hB.eq] at he
  cases he
 have hD : D ≠ B := fun e => by
  subst e
  have := h.blk.eq
  rw [hB.eq] at this
  cases this
  exact ht rfl
 exact ⟨⟨(hk D hD).trans h.blk.eq⟩, h.all.keep (hk M (hmap h.all)), fun p hp => (h.vol p hp).keep (hk _ (hmap (h.vol p hp))), h.inj, h.ne, h.bD, h.bM, h.bV, h.ok⟩
theorem DevIn.setCell {base : Nat} {W : World} {D M : Nat} {mb : Int → Nat} {d : Dev} (h : DevIn base W D M mb d) (B o : Nat) (v : Value) {cs : Array Value} {t : TypeId} [hB : BlockAt W B cs t] (ht : t ≠ 101) : DevIn base (W.setCell ⟨B, o, none⟩ v) D M mb d :=
 h.keep hB ht fun i hi => Below.heap_setCell W ⟨B, o, none⟩ v i hi
theorem ans_dev {base : Nat} {W : World} {D M : Nat} {mb : Int → Nat} {d : Dev} (h : DevIn base W D M mb d) {B : Nat} {cs : Array Value} {t : TypeId} (hB : BlockAt W B cs t) (ht : t ≠ 101) (c0 c1 c2 : Value) : DevAt base (((W.setCell ⟨B, 0, none⟩ c0).setCell ⟨B, 1, none⟩ c1).setCell ⟨B, 2, none⟩ c2) D d :=
 ⟨M, mb, ((h.setCell B 0 c0 ht).setCell B 1 c1 ht).setCell B 2 c2 ht⟩
theorem ans_below {base : Nat} {w W : World} (h : Below base w W) {B : Nat} (hB : base ≤ B) (c0 c1 c2 : Value) : Below base w (((W.setCell ⟨B, 0, none⟩ c0).setCell ⟨B, 1, none⟩ c1).setCell ⟨B, 2, none⟩ c2) :=
 ((h.setCell (p := ⟨B, 0, none⟩) hB c0).setCell (p := ⟨B, 1, none⟩) hB c1).setCell (p := ⟨B, 2, none⟩) hB c2
theorem ans_block {W : World} {B : Nat} {z0 z1 z2 : Value} {t : TypeId} (hB : BlockAt W B #[z0, z1, z2] t) (c0 c1 c2 : Value) : BlockAt (((W.setCell ⟨B, 0, none⟩ c0).setCell ⟨B, 1, none⟩ c1).setCell ⟨B, 2, none⟩ c2) B #[c0, c1, c2] t := by
 show BlockAt _ _ (((#[z0, z1, z2].setIfInBounds 0 c0).setIfInBounds 1 c1).setIfInBounds 2 c2) _
 infer_instance
theorem MapAt.ne_block {W : World} {q : IntKind} {b : Nat} {L : List (Int × Value)} (h : MapAt q W b L) {B : Nat} {cs : Array Value} {t : TypeId} (hB : BlockAt W B cs t) : B ≠ b := fun e => by
 obtain ⟨es, clock, he, _⟩ := h
 subst e
 rw [hB.eq] at he
 cases he
theorem OnlyB.blockM {W W' : World} {b : Nat} (h : OnlyB W W' b) {q : IntKind} {L : List (Int × Value)} (hm : MapAt q W b L) {B : Nat} {cs : Array Value} {t : TypeId} (hB : BlockAt W B cs t) : BlockAt W' B cs t := h.blockAt hB (hm.ne_block hB)
theorem putK_same (d : Dev) (mb : Int → Nat) (v : Int) (x : VolM) (m : List (Int × Byt)) : ∀ (hs : SortK d), getK d v = some x → (putK d v (x.1, m)).map (volF mb) = d.map (volF mb) := by
 induction d with
 | nil => intro _ h; cases h
 | cons p r ih =>
  obtain ⟨a, y⟩ := p
  intro hs h
  have h1 := List.pairwise_cons.1 hs
  unfold getK at h
  unfold putK
  by_cases ha : a = v
  ·rw [if_pos ha] at h
   cases h
   subst ha
   rw [if_neg (by omega), if_pos rfl]
   rfl
  ·rw [if_neg ha] at h
   have hm := (getK_mem h1.2).1 h
   have := h1.1 _ hm
   simp only at this
   rw [if_neg (by omega), if_neg (fun e => ha e.symm), List.map_cons, ih h1.2 h, List.map_cons]
theorem DevIn.inner {base : Nat} {W W' : World} {D M : Nat} {mb : Int → Nat} {d : Dev} (h : DevIn base W D M mb d) (v : Int) (x : VolM) (hv : getK d v = some x) (m : List (Int × Byt)) (h1 : MapAt .i64 W' (mb v) (encK bkV m)) (h2 : OnlyB W W' (mb v)) (hok : VolOk (x.1, m)) : DevIn base W' D M mb (putK d v (x.1, m)) := by
 have hx := (getK_mem h.ok.sort).1 hv
 have hm := h.vol _ hx
 have hk := h.ok.keys _ hx
 refine ⟨h2.blockM hm h.blk, ?_, fun p hp => ?_, fun p hp r hr => ?_, fun p hp => ?_, h.bD, h.bM, fun p hp => ?_, put_ok h.ok hk.1 hk.2 hok⟩
 ·have e := putK_same d mb v x m h.ok.sort hv
  unfold volF at e
  rw [e]
  exact h2.mapAt h.all (fun e2 => h.ne _ hx e2.symm)
 ·rcases (mem_putK h.ok.sort p).1 hp with rfl | ⟨hp, hne⟩
  ·exact h1
  ·exact h2.mapAt (h.vol p hp) (fun e2 => hne (h.inj p hp _ hx e2))
 ·rcases (mem_putK h.ok.sort p).1 hp with rfl | ⟨hp, hne⟩ <;> rcases (mem_putK h.ok.sort r).1 hr with rfl | ⟨hr, hnr⟩
  ·exact fun _ => rfl
  ·exact h.inj (v, x) hx r hr
  ·exact h.inj p hp (v, x) hx
  ·exact h.inj p hp r hr
 ·rcases (mem_putK h.ok.sort p).1 hp with rfl | ⟨hp, hne⟩
  ·exact h.ne (v, x) hx
  ·exact h.ne p hp
 ·rcases (mem_putK h.ok.sort p).1 hp with rfl | ⟨hp, hne⟩
  ·exact h.bV (v, x) hx
  ·exact h.bV p hp
theorem getK_put_self {d : Dev} (hs : SortK d) (v : Int) (x : VolM) : getK (putK d v x) v = some x := by rw [getK_put hs, if_pos rfl]
theorem putK_putK (d : Dev) (v : Int) (x y : VolM) (hs : SortK d) : putK (putK d v x) v y = putK d v y := by
 refine sort_ext (sort_putK (sort_putK hs)) (sort_putK hs) fun p => ?_
 rw [mem_putK (sort_putK hs), mem_putK hs, mem_putK hs]
 constructor
 ·rintro (h | ⟨h | h, hn⟩)
  ·exact .inl h
  ·subst h; exact absurd rfl hn
  ·exact .inr h
 ·rintro (h | h)
  ·exact .inl h
  ·exact .inr ⟨.inr h, h.2⟩
theorem putK_own {d : Dev} (hs : SortK d) {v : Int} {x : VolM} (h : getK d v = some x) : putK d v x = d := by
 refine sort_ext (sort_putK hs) hs fun p => ?_
 rw [mem_putK hs]
 constructor
 ·rintro (rfl | h2)
  ·exact (getK_mem hs).1 h
  ·exact h2.1
 ·intro hp
  by_cases hv : p.1 = v
  ·subst hv
   have := (getK_mem hs).2 hp
   rw [h] at this
   cases this
   exact .inl rfl
  ·exact .inr ⟨hp, hv⟩
structure CK (W W' : World) : Prop where
 size : W.heap.size ≤ W'.heap.size
 keep : ∀ (b : Nat) cs t f, W.heap[b]? = some (Obj.cells cs t f) → W'.heap[b]? = W.heap[b]?
theorem CK.refl (W : World) : CK W W := ⟨Nat.le_refl _, fun _ _ _ _ _ => rfl⟩
theorem CK.gr {W W' : World} (g : Gr W W') : CK W W' := ⟨g.below.size, fun b cs t f h => g.below.block b (Array.getElem?_eq_some_iff.1 h).1⟩
theorem CK.trans {A B C : World} (h : CK A B) (k : CK B C) : CK A C := ⟨Nat.le_trans h.size k.size, fun b cs t f hb => (k.keep b cs t f ((h.keep b cs t f hb).trans hb)).trans (h.keep b cs t f hb)⟩
theorem CK.only {W W' : World} {q : IntKind} {b : Nat} {L : List (Int × Value)} (hm : MapAt q W b L) (h : OnlyB W W' b) : CK W W' := ⟨Nat.le_of_eq h.2.symm, fun c cs t f hc => h.block fun e => by
 obtain ⟨es, clock, he, _⟩ := hm
 subst e
 rw [hc] at he
 cases he⟩
theorem CK.block {W W' : World} (h : CK W W') {B : Nat} {cs : Array Value} {t : TypeId} (hB : BlockAt W B cs t) : BlockAt W' B cs t := ⟨(h.keep B _ _ _ hB.eq).trans hB.eq⟩
theorem CK.cell {W W' : World} (h : CK W W') {b o : Nat} {v : Value} (hc : W.cell? ⟨b, o, none⟩ = some v) : W'.cell? ⟨b, o, none⟩ = some v := by
 cases hb : W.heap[b]? with
 | none => simp [World.cell?, hb] at hc
 | some ob =>
  cases ob with
  | cells cs t f =>
   have := h.keep b cs t f hb
   rw [← hc]
   simp [World.cell?, this]
  | _ => simp [World.cell?, hb] at hc
theorem ck_ans {w W : World} (h : CK w W) {B : Nat} (hB : w.heap.size ≤ B) (c0 c1 c2 : Value) : CK w (((W.setCell ⟨B, 0, none⟩ c0).setCell ⟨B, 1, none⟩ c1).setCell ⟨B, 2, none⟩ c2) where
 size := by have := h.size; simpa [World.setCell] using this
 keep := fun b cs t f hb => by
  have hl := (Array.getElem?_eq_some_iff.1 hb).1
  have hne : b ≠ B := by omega
  rw [Below.heap_setCell _ _ _ _ hne, Below.heap_setCell _ _ _ _ hne, Below.heap_setCell _ _ _ _ hne]
  exact h.keep b cs t f hb
def OpPost (base D : Nat) (d : Dev) (code done : Int) (w : World) (e : Ending) (w' : World) : Prop :=
 e = .returned (.agg #[.int .i64 code, .int .i64 done, .slice none 0 0]) ∧ DevAt base w' D d ∧ Below base w w' ∧ CK w w'
theorem run_resCell1 {P : Program} {W : World} {fn : Func} {p : Tmp} {t : TypeId} (h : fn.results = #[.cell p t]) (tmps : Array Value) (B : Nat) (cs : Array Value) (d : TypeDesc) (hp : tmps.getD p undef = .pointer (some ⟨B, 0, none⟩)) (hB : BlockAt W B cs t) (hu : P.underlying t = some d) (hd : (match d with | .struct _ | .array _ _ => true | _ => false) = true) (hi : (P.info? t).map (·.size) = some cs.size) :
  (results fn tmps).run P W = .ok (.agg cs) W := results_cell_row h tmps W B t cs (0, 0) d hp hB.eq hu hd hi
structure EK (α : Type) where
 cs : α → List Value
 k : Nat
 E : TypeId
 T : TypeId
 bytes : Nat
 z : Value
 ok : α → Prop
structure EK.Is {α : Type} (e : EK α) : Prop where
 len : ∀ x, e.ok x → (e.cs x).length = e.k
 one : ∀ x, e.ok x → ∀ v ∈ e.cs x, v.oneCell' = true
 pos : 0 < e.k
 hT : Tryz.prog.underlying e.T = some (.slice e.E)
 hE : (Tryz.prog.info? e.E).map (fun i => (i.zero, i.size, i.bytes)) = some (some e.z, e.k, e.bytes)
 hz : e.z.cells.size = e.k
 hb : e.bytes ≤ 1000
section
variable {α : Type} {e : EK α}
theorem flatN_len (he : e.Is) : ∀ (xs : List α), (∀ x ∈ xs, e.ok x) → (xs.flatMap e.cs).length = xs.length * e.k
 | [], _ => by simp
 | x :: xs, h => by
  rw [List.flatMap_cons, List.length_append, he.len x (h x (.head _)), flatN_len he xs (fun y hy => h y (.tail _ hy)), List.length_cons, Nat.add_mul, Nat.one_mul, Nat.add_comm]
theorem flatN_at (he : e.Is) : ∀ (xs : List α), (∀ x ∈ xs, e.ok x) → ∀ (j i : Nat) (x : α) (v : Value), xs[j]? = some x → (e.cs x)[i]? = some v → (xs.flatMap e.cs)[j * e.k + i]? = some v
 | [], _, j, i, x, v, hj, _ => by simp at hj
 | y :: xs, h, 0, i, x, v, hj, hv => by
  simp only [List.getElem?_cons_zero, Option.some.injEq] at hj
  subst hj
  have hi : i < (e.cs y).length := (List.getElem?_eq_some_iff.1 hv).1
  rw [List.flatMap_cons, Nat.zero_mul, Nat.zero_add, List.getElem?_append_left hi]
  exact hv
 | y :: xs, h, j + 1, i, x, v, hj, hv => by
  rw [List.getElem?_cons_succ] at hj
  have h2 := flatN_at he xs (fun y hy => h y (.tail _ hy)) j i x v hj hv
  have hl := he.len y (h y (.head _))
  rw [List.flatMap_cons, List.getElem?_append_right (by rw [hl, Nat.add_mul]; omega), hl]
  rw [← h2]
  congr 1
  rw [Nat.add_mul]; omega
theorem flatN_of (he : e.Is) : ∀ (xs : List α), (∀ x ∈ xs, e.ok x) → ∀ (j : Nat) (u : Value), (xs.flatMap e.cs)[j]? = some u → ∃ q i x, j = q * e.k + i ∧ xs[q]? = some x ∧ (e.cs x)[i]? = some u
 | [], _, j, u, h => by simp at h
 | x :: xs, hx, j, u, h => by
  rw [List.flatMap_cons] at h
  have hl := he.len x (hx x (.head _))
  by_cases hj : j < (e.cs x).length
  ·rw [List.getElem?_append_left hj] at h
   exact ⟨0, j, x, by omega, rfl, h⟩
  ·rw [List.getElem?_append_right (by omega)] at h
   obtain ⟨q, i, y, h1, h2, h3⟩ := flatN_of he xs (fun y hy => hx y (.tail _ hy)) _ u h
   rw [hl] at h1 hj
   exact ⟨q + 1, i, y, by rw [Nat.add_mul]; omega, by simpa using h2, h3⟩
theorem flatN_one (he : e.Is) (xs : List α) (h : ∀ x ∈ xs, e.ok x) : ∀ u ∈ xs.flatMap e.cs, u.oneCell' = true := by
 intro u hu
 obtain ⟨x, h1, hx⟩ := List.mem_flatMap.1 hu
 exact he.one x (h x h1) u hx
theorem flatN_set (he : e.Is) : ∀ (xs : List α), (∀ x ∈ xs, e.ok x) → ∀ (j i : Nat) (x y : α) (v : Value), xs[j]? = some x → i < e.k → e.cs y = (e.cs x).set i v → (xs.flatMap e.cs).set (j * e.k + i) v = (xs.set j y).flatMap e.cs
 | [], _, j, i, x, y, v, hj, _, _ => by simp at hj
 | z :: xs, h, 0, i, x, y, v, hj, hi, hv => by
  simp only [List.getElem?_cons_zero, Option.some.injEq] at hj
  subst hj
  have hl := he.len z (h z (.head _))
  rw [List.flatMap_cons, Nat.zero_mul, Nat.zero_add, List.set_append_left _ _ (by omega), List.set_cons_zero, List.flatMap_cons, hv]
 | z :: xs, h, j + 1, i, x, y, v, hj, hi, hv => by
  rw [List.getElem?_cons_succ] at hj
  have h2 := flatN_set he xs (fun y hy => h y (.tail _ hy)) j i x y v hj hi hv
  have hl := he.len z (h z (.head _))
  rw [List.flatMap_cons, List.set_append_right _ _ (by rw [hl, Nat.add_mul]; omega), List.set_cons_succ, List.flatMap_cons, ← h2, hl]
  congr 2
  rw [Nat.add_mul]; omega
def CellsN (e : EK α) (W : World) (b p : Nat) (xs : List α) : Prop := ∀ (j : Nat) (x : α), xs[j]? = some x → ∀ (i : Nat) (u : Value), (e.cs x)[i]? = some u → W.cell? ⟨b, p + j * e.k + i, none⟩ = some u
structure RowN (e : EK α) (W : World) (A : Option Addr) (xs : List α) : Prop where
 ok : ∀ x ∈ xs, e.ok x
 at_ : xs ≠ [] → ∃ b p, A = some ⟨b, p, none⟩ ∧ b < W.heap.size ∧ CellsN e W b p xs
theorem CellsN.gr {W W' : World} {b p : Nat} {xs : List α} (h : CellsN e W b p xs) (hb : b < W.heap.size) (g : Gr W W') : CellsN e W' b p xs := fun j x hj i u hu => (g.below.cell (p := ⟨b, p + j * e.k + i, none⟩) hb).trans (h j x hj i u hu)
theorem CellsN.take {W : World} {b p : Nat} {xs : List α} (h : CellsN e W b p xs) (n : Nat) : CellsN e W b p (xs.take n) := fun j x hj => h j x (by
 rw [List.getElem?_take] at hj
 split at hj
 ·exact hj
 ·cases hj)
theorem CellsN.drop {W : World} {b p : Nat} {xs : List α} (h : CellsN e W b p xs) (n : Nat) : CellsN e W b (p + n * e.k) (xs.drop n) := fun j x hj i u hu => by
 rw [List.getElem?_drop] at hj
 have := h (n + j) x hj i u hu
 rw [show p + n * e.k + j * e.k + i = p + (n + j) * e.k + i by rw [Nat.add_mul]; omega]
 exact this
theorem CellsN.block {W : World} {B : Nat} {cs : Array Value} {t : TypeId} (x : α) (h : BlockAt W B cs t) (hx : e.cs x = cs.toList) : CellsN e W B 0 [x] := by
 intro j y hj i u hu
 cases j with
 | succ j => simp at hj
 | zero =>
  simp only [List.getElem?_cons_zero, Option.some.injEq] at hj
  subst hj
  rw [Nat.zero_mul, Nat.zero_add, block_cells W B i cs t]
  rw [hx, Array.getElem?_toList] at hu
  exact hu
theorem RowN.nil {W : World} {A : Option Addr} : RowN e W A [] := ⟨by simp, fun h => absurd rfl h⟩
theorem RowN.gr {W W' : World} {A : Option Addr} {xs : List α} (h : RowN e W A xs) (g : Gr W W') : RowN e W' A xs :=
 ⟨h.ok, fun h0 => by
  obtain ⟨b, p, rfl, hb, hc⟩ := h.at_ h0
  exact ⟨b, p, rfl, Nat.lt_of_lt_of_le hb g.below.size, hc.gr hb g⟩⟩
structure OwnN (e : EK α) (base : Nat) (W : World) (v : Value) (xs : List α) : Prop where
 ok : ∀ x ∈ xs, e.ok x
 own : W.ownsRow base e.E e.k v xs.length (xs.flatMap e.cs)
variable {base : Nat} {W W' : World} {v : Value} {xs : List α}
theorem OwnN.nil (base : Nat) (W : World) : OwnN e base W (.slice none 0 0) [] := ⟨by simp, World.ownsRow_nil _ _ _ _⟩
theorem OwnN.lt (h : OwnN e base W v xs) : ∀ k, v.ownBlock = some k → base ≤ k ∧ k < W.heap.size := World.ownsRow.lt h.own
theorem OwnN.keep (h : OwnN e base W v xs) (hk : ∀ k, v.ownBlock = some k → W'.heap[k]? = W.heap[k]?) : OwnN e base W' v xs := by
 refine ⟨h.ok, h.own.1, ?_⟩
 rcases h.own.2 with h2 | ⟨g, cap, cur, hv, hb, hh, h4⟩
 ·exact .inl h2
 ·exact .inr ⟨g, cap, cur, hv, hb, (hk g (by rw [hv]; rfl)).trans hh, h4⟩
theorem OwnN.gr (h : OwnN e base W v xs) (g : Gr W W') : OwnN e base W' v xs := h.keep fun k hk => g.below.block k (h.lt k hk).2
theorem OwnN.set_ (h : OwnN e base W v xs) (B o : Nat) (u : Value) {cs : Array Value} {T : TypeId} [hB : BlockAt W B cs T] (hT : T ≠ e.E) : OwnN e base (W.setCell ⟨B, o, none⟩ u) v xs := by
 refine ⟨h.ok, h.own.1, ?_⟩
 rcases h.own.2 with h2 | ⟨g, cap, cur, hv, hb, hh, h4⟩
 ·exact .inl h2
 ·refine .inr ⟨g, cap, cur, hv, hb, ?_, h4⟩
  have hne : g ≠ B := by
   rintro rfl
   have := hB.eq
   rw [hh] at this
   cases this
   exact hT rfl
  exact (Below.heap_setCell W ⟨B, o, none⟩ u g hne).trans hh
theorem OwnN.more {base2 : Nat} (h : OwnN e base2 W v xs) (hb : base ≤ base2) : OwnN e base W v xs := by
 refine ⟨h.ok, h.own.1, ?_⟩
 rcases h.own.2 with h2 | ⟨g, cap, cur, hv, hb2, h4⟩
 ·exact .inl h2
 ·exact .inr ⟨g, cap, cur, hv, Nat.le_trans hb hb2, h4⟩
theorem OwnN.cells (he : e.Is) (h : OwnN e base W v xs) (hne : xs ≠ []) : ∃ g c, v = .slice (some ⟨g, 0, none⟩) xs.length c ∧ base ≤ g ∧ g < W.heap.size ∧ xs.length ≤ c ∧ c ≤ maxLen ∧ CellsN e W g 0 xs ∧ ∀ o, W.frozen? ⟨g, o, none⟩ = false := by
 have h0 := h.own
 rcases h.own.2 with ⟨_, hn⟩ | ⟨g, cap, cur, rfl, hb, hh, hnc, hcm, _⟩
 ·exact absurd (List.eq_nil_of_length_eq_zero hn) hne
 ·refine ⟨g, cap, rfl, hb, (Array.getElem?_eq_some_iff.1 hh).1, hnc, hcm, fun j x hj i u hu => ?_, fun o => by simp [World.frozen?, hh]⟩
  have h1 := World.ownsRow.cells h0 (g := g) rfl (j * e.k + i) u (flatN_at he xs h.ok j i x u hj hu)
  rw [Go.WideShapes.add_plain] at h1
  rw [Nat.zero_add] at h1 ⊢
  exact h1
theorem OwnN.form (he : e.Is) (h : OwnN e base W v xs) : ∃ A c, v = .slice A xs.length c ∧ xs.length ≤ c ∧ c ≤ maxLen ∧ RowN e W A xs := by
 by_cases hne : xs = []
 ·subst hne
  rcases h.own.2 with ⟨rfl, _⟩ | ⟨g, cap, cur, rfl, _, _, hnc, hcm, _⟩
  ·exact ⟨none, 0, rfl, Nat.le_refl _, by unfold maxLen; omega, RowN.nil⟩
  ·exact ⟨_, cap, rfl, hnc, hcm, RowN.nil⟩
 ·obtain ⟨g, c, rfl, _, hg, hc, hm, hcl, _⟩ := h.cells he hne
  exact ⟨_, c, rfl, hc, hm, h.ok, fun _ => ⟨g, 0, rfl, hg, hcl⟩⟩
theorem OwnN.store (he : e.Is) {g n c : Nat} (h : OwnN e base W (.slice (some ⟨g, 0, none⟩) n c) xs) (j i : Nat) (x y : α) (u : Value) (hj : xs[j]? = some x) (hi : i < e.k) (hy : e.cs y = (e.cs x).set i u) (hok : e.ok y) : OwnN e base (W.setCell ⟨g, j * e.k + i, none⟩ u) (.slice (some ⟨g, 0, none⟩) n c) (xs.set j y) := by
 have hn : n = xs.length := by
  rcases h.own.2 with ⟨h2, _⟩ | ⟨g', cap, cur, hv, _⟩
  ·cases h2
  ·cases hv; rfl
 subst hn
 refine ⟨fun z hz => ?_, ?_⟩
 ·rcases List.mem_or_eq_of_mem_set hz with hz | rfl
  ·exact h.ok z hz
  ·exact hok
 ·have := (h.own.stored (j * e.k + i) u).1
  rw [flatN_set he xs h.ok j i x y u hj hi hy] at this
  rw [List.length_set]
  exact this
structure AppN (e : EK α) (base : Nat) (W : World) (v : Value) (xs ys : List α) (v' : Value) (W' : World) : Prop where
 own : OwnN e base W' v' (xs ++ ys)
 below : Below base W W'
 size : W.heap.size ≤ W'.heap.size
 keep : ∀ B cs t, BlockAt W B cs t → t ≠ e.E → BlockAt W' B cs t
 block : ∀ k, k < W.heap.size → (∀ cs f, W.heap[k]? ≠ some (.cells cs e.E f)) → W'.heap[k]? = W.heap[k]?
 gb : W.grownBy W' v.ownBlock
 row : ∀ b, v'.ownBlock = some b → v.ownBlock = some b ∨ b = W.heap.size
theorem AppN.from_ {ys : List α} {v' : Value} (h : AppN e base W v xs ys v' W') (a : World) [ht : From a W] : From a W' := ⟨Nat.le_trans ht.le h.size⟩
theorem AppN.old {ys : List α} {v' : Value} (h : AppN e base W v xs ys v' W') (b : Nat) [ht : Old b W] : Old b W' := ⟨Nat.lt_of_lt_of_le ht.lt h.size⟩
theorem AppN.grc {ys : List α} {v' : Value} (h : AppN e base W v xs ys v' W') (a : World) [ht : GrC a W] (hl : a.heap.size ≤ base) : GrC a W' := ⟨ht.b.trans (h.below.mono hl)⟩
theorem grc_of {a W : World} (h : Gr a W) : GrC a W := ⟨h.below⟩
theorem from_of {a W : World} (h : Gr a W) : From a W := ⟨h.below.size⟩
theorem run_append_row (he : e.Is) (ty : TypeId) (hown : OwnN e base W v xs) (b p : Nat) (ys : List α) (c : Nat) (hys : ∀ y ∈ ys, e.ok y) (hc : CellsN e W b p ys) (hlen : xs.length + ys.length ≤ 100000000) {v' : Value} {W' : World}
  (hr : (Builtin.append_ #[e.T, e.T] ty #[v, .slice (some ⟨b, p, none⟩) ys.length c]).run Tryz.prog W = .ok v' W') (h0 : 0 < ys.length) : ∀ q, v'.ownBlock = some q → v.ownBlock = some q ∨ q = W.heap.size := by
 obtain ⟨i0, hi, hz0, hz2, hz3⟩ := info_parts he.hE
 have hlN : (ys.flatMap e.cs).length = ys.length * i0.size := by rw [flatN_len he ys hys, hz2]
 have hnews : ∀ j u, (ys.flatMap e.cs)[j]? = some u → W.cell? ((⟨b, p, none⟩ : Addr).add j) = some u := fun j u hj => by
  obtain ⟨q, i, y, rfl, h1, h2⟩ := flatN_of he ys hys j u hj
  rw [Go.WideShapes.add_plain, ← Nat.add_assoc]
  exact hc q y h1 i u h2
 have hby : (xs.length + ys.length) * i0.bytes ≤ 140737488355328 := by rw [hz3]; have := Nat.mul_le_mul hlen he.hb; omega
 rcases hown.own.2 with ⟨rfl, hx⟩ | ⟨g, cap, cur, rfl, hbg, hg, hnc, hcm, hcs, htake⟩
 ·have h9 := run_append_nil (P := Tryz.prog) W e.T ty e.E i0 e.z he.hT hi hz0 ⟨b, p, none⟩ ys.length c (ys.flatMap e.cs) hlN hnews h0 (by omega) (by rw [Nat.add_mul] at hby; omega)
  rw [h9] at hr
  cases hr
  intro q hq
  exact .inr (by simpa [Value.ownBlock] using hq.symm)
 ·by_cases hroom : xs.length + ys.length ≤ cap
  ·have hfit : xs.length * i0.size + (ys.flatMap e.cs).length ≤ cur.size := by rw [hlN, hcs, ← hz2, ← Nat.add_mul]; exact Nat.mul_le_mul_right _ hroom
   have h9 := run_append_room (P := Tryz.prog) W e.T ty e.E i0 he.hT hi g xs.length cap cur hg ⟨b, p, none⟩ ys.length c (ys.flatMap e.cs) hlN hnews (flatN_one he ys hys) hroom hfit
   rw [h9] at hr
   cases hr
   intro q hq
   exact .inl hq
  ·have h9 := run_append_grow (P := Tryz.prog) W e.T ty e.E i0 e.z he.hT hi hz0 ⟨g, 0, none⟩ xs.length cap (xs.flatMap e.cs) (by rw [hown.own.1, hz2]) (hown.own.cells (g := g) rfl) ⟨b, p, none⟩ ys.length c (ys.flatMap e.cs) hlN hnews (by omega) (by omega) (growslice_fits (by omega) hby)
   rw [h9] at hr
   cases hr
   intro q hq
   exact .inr (by simpa [Value.ownBlock] using hq.symm)
theorem run_append_n (he : e.Is) (ty : TypeId) (hown : OwnN e base W v xs) (b p : Nat) (ys : List α) (c : Nat) (hys : ∀ y ∈ ys, e.ok y) (hc : CellsN e W b p ys) (hlen : xs.length + ys.length ≤ 100000000) (hbase : base ≤ W.heap.size) (hp : 0 < ys.length) :
  ∃ v' W', (Builtin.append_ #[e.T, e.T] ty #[v, .slice (some ⟨b, p, none⟩) ys.length c]).run Tryz.prog W = .ok v' W' ∧ AppN e base W v xs ys v' W' := by
 obtain ⟨i0, hi, hz0, hz2, hz3⟩ := info_parts he.hE
 obtain ⟨v', W', hrun, hown', hgrow, _⟩ := run_append_own (P := Tryz.prog) W base e.T ty e.E i0 e.z e.k e.bytes he.hT hi hz0 hz2 hz3 he.hz he.pos v xs.length (xs.flatMap e.cs) hown.own ⟨b, p, none⟩ ys.length c (ys.flatMap e.cs) (flatN_len he ys hys) (fun j u hj => by
  obtain ⟨q, i, y, rfl, h1, h2⟩ := flatN_of he ys hys j u hj
  rw [Go.WideShapes.add_plain, ← Nat.add_assoc]
  exact hc q y h1 i u h2) (flatN_one he ys hys) (by unfold maxLen; omega) (by have := Nat.mul_le_mul hlen he.hb; omega) hbase
 have hne : ∀ k, some k = v.ownBlock → ∃ cs, W.heap[k]? = some (.cells cs e.E (0, 0)) := fun k hk => by
  rcases hown.own.2 with ⟨rfl, _⟩ | ⟨g, cap, cur, rfl, _, hh, _⟩
  ·simp [Value.ownBlock] at hk
  ·have e2 : k = g := by simpa [Value.ownBlock] using hk
   subst e2
   exact ⟨_, hh⟩
 refine ⟨v', W', hrun, ⟨fun x hx => ?_, ?_⟩, (Below.refl base W).grown hgrow hbase (fun q hq => (World.ownsRow.lt hown.own q hq).1), hgrow.size, fun B cs t hB ht => hB.grown hgrow (fun e2 => ?_), fun k hk hcs => hgrow.block k hk (fun e2 => ?_), hgrow, run_append_row he ty hown b p ys c hys hc hlen hrun hp⟩
 ·rcases List.mem_append.1 hx with h | h
  ·exact hown.ok x h
  ·exact hys x h
 ·rw [List.length_append, List.flatMap_append]; exact hown'
 ·obtain ⟨cs2, h2⟩ := hne B e2
  have := hB.eq
  rw [h2] at this
  cases this
  exact ht rfl
 ·obtain ⟨cs2, h2⟩ := hne k e2
  exact hcs _ _ h2
theorem wp_append_n (he : e.Is) {ops : Array Oper} {rest : List Oper} {o : Oper} {a : Act} {Q : Exit → Act → World → Prop} (hgd : o.guard = none) (s x : Operand)
  (ho : o.op = .call { callee := .builtin .append, args := #[s, x], argTypes := #[e.T, e.T] })
  (hs : a.eval s = v) (hown : OwnN e base W v xs) (b p : Nat) (ys : List α) (m c : Nat) (hm : ys.length = m) (hx : a.eval x = .slice (some ⟨b, p, none⟩) m c)
  (hys : ∀ y ∈ ys, e.ok y) (hc : CellsN e W b p ys) (hlen : xs.length + ys.length ≤ 100000000) (hbase : base ≤ W.heap.size) (hp : 0 < ys.length)
  (h : ∀ v' W', AppN e base W v xs ys v' W' → wpList Tryz.prog ops Q rest (a.put o.dst v') W') : wpList Tryz.prog ops Q (o :: rest) a W := by
 subst hm
 refine wpList_plain hgd fun K' hK' => ?_
 obtain ⟨v', W', hrun, happ⟩ := run_append_n he o.type hown b p ys c hys hc hlen hbase hp
 unfold Oper.wp execOp
 simp only [ho, resolve, invoke, builtin, Sem.run_bind, Sem.run_pure, Result.andThen_ok, List.map_toArray, List.map_cons, List.map_nil, hs, hx, hrun]
 exact hK' _ _ (h v' W' happ)
end
set_option maxRecDepth 100000
def rbE : EK (Int × Byt) := ⟨fun p => .int .i64 p.1 :: p.2.map bv, 257, 120, 62, 264, .agg (#[.int .i64 0] ++ bkC zB), fun p => p.2.length = 256⟩
theorem rbIs : rbE.Is where
 len := fun x h => by
  have h : x.2.length = 256 := h
  simp [rbE, h]
 one := fun x _ v hv => by
  simp only [rbE, List.mem_cons, List.mem_map] at hv
  rcases hv with rfl | ⟨b, _, rfl⟩ <;> rfl
 pos := by decide
 hT := Tryz.underlying62
 hE := by kernel_rfl
 hz := by kernel_rfl
 hb := by decide
structure RV where
 n : Int
 s : Int
 v : Value
def rvE : EK RV := ⟨fun x => [.int .u64 x.n, .int .i64 x.s, x.v], 3, 64, 65, 40, .agg #[.int .u64 0, .int .i64 0, .slice none 0 0], fun x => x.v.oneCell' = true⟩
theorem rvIs : rvE.Is where
 len := fun _ _ => rfl
 one := fun x hx v hv => by
  simp only [rvE, List.mem_cons, List.mem_nil_iff, or_false] at hv
  rcases hv with rfl | rfl | rfl
  ·rfl
  ·rfl
  ·exact hx
 pos := by decide
 hT := Tryz.underlying65
 hE := by kernel_rfl
 hz := rfl
 hb := by decide
def BlkS (W : World) (v : Value) (m : List (Int × Byt)) : Prop :=
 ∃ A c, v = .slice A m.length c ∧ m.length ≤ c ∧ c ≤ maxLen ∧ (A = none → c = 0) ∧ (∀ p ∈ m, p.2.length = 256) ∧ (m ≠ [] → ∃ b p cs f, A = some ⟨b, p, none⟩ ∧ W.heap[b]? = some (.cells cs 120 f) ∧ CellsN rbE W b p m)
theorem BlkS.keep {W W' : World} {v : Value} {m : List (Int × Byt)} (h : BlkS W v m) (hk : ∀ (b : Nat) cs f, W.heap[b]? = some (Obj.cells cs 120 f) → W'.heap[b]? = W.heap[b]?) : BlkS W' v m := by
 obtain ⟨A, c, rfl, h1, h2, h3, h4, h5⟩ := h
 refine ⟨A, c, rfl, h1, h2, h3, h4, fun hm => ?_⟩
 obtain ⟨b, p, cs, f, rfl, hb, hc⟩ := h5 hm
 have e := hk b cs f hb
 refine ⟨b, p, cs, f, rfl, e.trans hb, fun j x hj i u hu => ?_⟩
 rw [← hc j x hj i u hu]
 simp [World.cell?, e]
theorem BlkS.gr {W W' : World} {v : Value} {m : List (Int × Byt)} (h : BlkS W v m) (g : Gr W W') : BlkS W' v m := h.keep fun b _ _ hb => g.below.block b (Array.getElem?_eq_some_iff.1 hb).1
theorem BlkS.nil (W : World) : BlkS W (.slice none 0 0) [] := ⟨none, 0, rfl, Nat.le_refl _, by unfold maxLen; omega, fun _ => rfl, by simp, fun h => absurd rfl h⟩
theorem BlkS.one {W : World} {v : Value} {m : List (Int × Byt)} (h : BlkS W v m) : v.oneCell' = true := by obtain ⟨A, c, rfl, _⟩ := h; rfl
theorem BlkS.row {W : World} {v : Value} {m : List (Int × Byt)} (h : BlkS W v m) : ∃ A c, v = .slice A m.length c ∧ m.length ≤ c ∧ c ≤ maxLen ∧ (A = none → c = 0) ∧ RowN rbE W A m := by
 obtain ⟨A, c, rfl, h1, h2, h3, h4, h5⟩ := h
 refine ⟨A, c, rfl, h1, h2, h3, h4, fun hm => ?_⟩
 obtain ⟨b, p, cs, f, rfl, hb, hc⟩ := h5 hm
 exact ⟨b, p, rfl, (Array.getElem?_eq_some_iff.1 hb).1, hc⟩
theorem OwnN.blkS {base : Nat} {W : World} {v : Value} {m : List (Int × Byt)} (h : OwnN rbE base W v m) : BlkS W v m := by
 by_cases hm : m = []
 ·subst hm
  rcases h.own.2 with ⟨rfl, _⟩ | ⟨g, cap, cur, rfl, _, hh, hnc, hcm, _⟩
  ·exact BlkS.nil W
  ·exact ⟨_, cap, rfl, Nat.zero_le _, hcm, (fun e => by cases e), by simp, fun h => absurd rfl h⟩
 ·obtain ⟨g, c, rfl, hb, hg, hc, hcm, hcl, _⟩ := h.cells rbIs hm
  rcases h.own.2 with ⟨e, _⟩ | ⟨g', cap, cur, e, _, hh, _⟩
  ·cases e
  ·cases e
   exact ⟨_, c, rfl, hc, hcm, (fun e => by cases e), h.ok, fun _ => ⟨g, 0, _, _, rfl, hh, hcl⟩⟩
def refT (t : TypeId) : Prop := t = 64 ∨ t = 67
structure RK (W W' : World) : Prop where
 size : W.heap.size ≤ W'.heap.size
 keep : ∀ (b : Nat) o, W.heap[b]? = some o → (∀ cs t f, o = Obj.cells cs t f → ¬ refT t) → W'.heap[b]? = some o
theorem RK.refl (W : World) : RK W W := ⟨Nat.le_refl _, fun _ _ h _ => h⟩
theorem RK.gr {W W' : World} (g : Gr W W') : RK W W' := ⟨g.below.size, fun b o h _ => (g.below.block b (Array.getElem?_eq_some_iff.1 h).1).trans h⟩
theorem RK.trans {A B C : World} (h : RK A B) (k : RK B C) : RK A C := ⟨Nat.le_trans h.size k.size, fun b o hb hn => k.keep b o (h.keep b o hb hn) hn⟩
theorem RK.blkS {W W' : World} (k : RK W W') {v : Value} {m : List (Int × Byt)} (h : BlkS W v m) : BlkS W' v m := h.keep fun b cs f hb => (k.keep b _ hb (fun cs' t f' e => by cases e; unfold refT; decide)).trans hb.symm
theorem RK.block {W W' : World} (k : RK W W') {B : Nat} {cs : Array Value} {t : TypeId} (hB : BlockAt W B cs t) (ht : ¬ refT t) : BlockAt W' B cs t := ⟨k.keep B _ hB.eq (fun cs' t' f' e => by cases e; exact ht)⟩
theorem RK.set_ {w W : World} (k : RK w W) (B o : Nat) (u : Value) {cs : Array Value} {t : TypeId} {f : Nat × Nat} (hB : W.heap[B]? = some (.cells cs t f)) (ht : refT t) : RK w (W.setCell ⟨B, o, none⟩ u) := by
 refine ⟨by have := k.size; simpa [World.setCell] using this, fun b ob hb hn => ?_⟩
 have h1 := k.keep b ob hb hn
 have hne : b ≠ B := by
  rintro rfl
  rw [hB] at h1
  cases h1
  exact hn _ _ _ rfl ht
 exact (Below.heap_setCell W ⟨B, o, none⟩ u b hne).trans h1
def rvF (vf : Int → Value) (p : Int × VolM) : RV := ⟨p.1, p.2.1, vf p.1⟩
structure RefIn (base : Nat) (W : World) (R : Nat) (v : Value) (vf : Int → Value) (d : Dev) : Prop where
 blk : BlockAt W R #[v] 67
 own : OwnN rvE base W v (d.map (rvF vf))
 vol : ∀ p ∈ d, BlkS W (vf p.1) p.2.2
 bR : base ≤ R
 ok : DevOk d
def RefAt (base : Nat) (W : World) (R : Nat) (d : Dev) : Prop := ∃ v vf, RefIn base W R v vf d
theorem RefIn.gr {base R : Nat} {W W' : World} {v : Value} {vf : Int → Value} {d : Dev} (h : RefIn base W R v vf d) (g : Gr W W') : RefIn base W' R v vf d := ⟨h.blk.gr g, h.own.gr g, fun p hp => (h.vol p hp).gr g, h.bR, h.ok⟩
theorem RefAt.gr {base R : Nat} {W W' : World} {d : Dev} (h : RefAt base W R d) (g : Gr W W') : RefAt base W' R d := by
 obtain ⟨v, vf, h⟩ := h
 exact ⟨v, vf, h.gr g⟩
theorem RefIn.neD {base R : Nat} {W : World} {v : Value} {vf : Int → Value} {d : Dev} (h : RefIn base W R v vf d) {g : Nat} (hg : v.ownBlock = some g) : g ≠ R := by
 rintro rfl
 rcases h.own.own.2 with ⟨rfl, _⟩ | ⟨b, cap, cur, rfl, _, hh, _⟩
 ·cases hg
 ·have e : b = g := by simpa [Value.ownBlock] using hg
  subst e
  have := h.blk.eq
  rw [hh] at this
  cases this
theorem RefIn.form {base R : Nat} {W : World} {v : Value} {vf : Int → Value} {d : Dev} (h : RefIn base W R v vf d) (hd : d ≠ []) : ∃ g c, v = .slice (some ⟨g, 0, none⟩) d.length c ∧ base ≤ g ∧ g < W.heap.size ∧ g ≠ R ∧ d.length ≤ c ∧ c ≤ maxLen ∧ (∃ cs, W.heap[g]? = some (.cells cs 64 (0, 0))) ∧ (∀ (i : Nat) p, d[i]? = some p → W.cell? ⟨g, i * 3 + 0, none⟩ = some (.int .u64 p.1) ∧ W.cell? ⟨g, i * 3 + 1, none⟩ = some (.int .i64 p.2.1) ∧ W.cell? ⟨g, i * 3 + 2, none⟩ = some (vf p.1)) := by
 obtain ⟨g, c, hv, hb, hg, hc, hcm, hcl, _⟩ := h.own.cells rvIs (by simpa using hd)
 rw [List.length_map] at hv hc
 subst hv
 refine ⟨g, c, rfl, hb, hg, h.neD rfl, hc, hcm, ?_, fun i p hp => ?_⟩
 ·rcases h.own.own.2 with ⟨e, _⟩ | ⟨b, cap, cur, e, _, hh, _⟩
  ·cases e
  ·have e2 : g = b := by simp only [Value.slice.injEq, Option.some.injEq, Addr.mk.injEq] at e; exact e.1.1
   subst e2
   exact ⟨_, hh⟩
 ·have hi : (d.map (rvF vf))[i]? = some (rvF vf p) := by rw [List.getElem?_map, hp]; rfl
  have := hcl i _ hi
  refine ⟨?_, ?_, ?_⟩
  ·have := this 0 _ rfl; rwa [Nat.zero_add] at this
  ·have := this 1 _ rfl; rwa [Nat.zero_add] at this
  ·have := this 2 _ rfl; rwa [Nat.zero_add] at this
theorem RefIn.nilv {base R : Nat} {W : World} {v : Value} {vf : Int → Value} {d : Dev} (h : RefIn base W R v vf d) : ∃ A c, v = .slice A d.length c ∧ d.length ≤ c ∧ c ≤ maxLen ∧ (A = none → c = 0) ∧ RowN rvE W A (d.map (rvF vf)) := by
 obtain ⟨A, c, hv, h1, h2, h3⟩ := h.own.form rvIs
 rw [List.length_map] at hv h1
 refine ⟨A, c, hv, h1, h2, fun e => ?_, h3⟩
 subst e
 rcases h.own.own.2 with ⟨e, _⟩ | ⟨b, cap, cur, e, _⟩
 ·rw [hv] at e
  simp only [Value.slice.injEq] at e
  exact e.2.2
 ·rw [hv] at e
  simp only [Value.slice.injEq] at e
  cases e.1
theorem RefIn.setM {base R : Nat} {w W : World} {g n c : Nat} {vf : Int → Value} {d : Dev} (h : RefIn base w R (.slice (some ⟨g, 0, none⟩) n c) vf d) (hg : Gr w W) {i : Nat} {p : Int × VolM} (hp : d[i]? = some p) (m : List (Int × Byt)) (u : Value) (hu : BlkS W u m) (hok : VolOk (p.2.1, m)) :
  RefIn base (W.setCell ⟨g, i * 3 + 2, none⟩ u) R (.slice (some ⟨g, 0, none⟩) n c) (fun k => if k = p.1 then u else vf k) (putK d p.1 (p.2.1, m)) := by
 have H := h.gr hg
 obtain ⟨cs, hh⟩ : ∃ cs, W.heap[g]? = some (.cells cs 64 (0, 0)) := by
  rcases H.own.own.2 with ⟨e, _⟩ | ⟨b, cap, cur, e, _, hh, _⟩
  ·cases e
  ·cases e; exact ⟨_, hh⟩
 have hk := h.ok.keys p (List.mem_of_getElem? hp)
 have hset := putK_set h.ok.sort (y := (p.2.1, m)) (show d[i]? = some (p.1, p.2) from hp)
 have hrk : RK W (W.setCell ⟨g, i * 3 + 2, none⟩ u) := (RK.refl W).set_ g _ u hh (.inl rfl)
 refine ⟨?_, ?_, fun q hq => ?_, h.bR, put_ok h.ok hk.1 hk.2 hok⟩
 ·haveI := H.blk
  haveI : BNe R g := ⟨(H.neD rfl).symm⟩
  infer_instance
 ·have hs := H.own.store rvIs i 2 (rvF vf p) ⟨p.1, p.2.1, u⟩ u (by rw [List.getElem?_map, hp]; rfl) (by decide) rfl hu.one
  have e : (d.map (rvF vf)).set i ⟨p.1, p.2.1, u⟩ = (putK d p.1 (p.2.1, m)).map (rvF fun k => if k = p.1 then u else vf k) := by
   rw [← hset]
   apply List.ext_getElem?
   intro j
   rw [List.getElem?_set, List.getElem?_map, List.getElem?_map, List.getElem?_set]
   have hil : i < d.length := (List.getElem?_eq_some_iff.1 hp).1
   by_cases hj : i = j
   ·subst hj
    simp [hil, rvF]
   ·simp only [hj, if_false]
    cases hq : d[j]? with
    | none => rfl
    | some q =>
     have hne : ¬ q.1 = p.1 := fun e => by
      have h1 := findN_at h.ok.sort (show d[i]? = some (p.1, p.2) from hp)
      have h2 := findN_at h.ok.sort (show d[j]? = some (q.1, q.2) from hq)
      rw [e, h1] at h2
      cases h2
      exact hj rfl
     simp [rvF, hne]
  rw [e] at hs
  exact hs
 ·rcases (mem_putK h.ok.sort q).1 hq with rfl | ⟨hq, hne⟩
  ·simp only [if_true]
   exact hrk.blkS hu
  ·simp only [if_neg hne]
   exact hrk.blkS (H.vol q hq)
section
variable {W : World} {ops : Array Oper} {rest : List Oper} {o : Oper} {a : Act} {Q : Exit → Act → World → Prop}
theorem wpLoadCs (hgd : o.guard = none) (ty : TypeId) (x : Operand) (ho : o.op = .load ty x) (ad : Addr) (cs : List Value) (d : TypeDesc) (hx : a.eval x = .pointer (some ad)) (hu : Tryz.prog.underlying ty = some d) (hd : (match d with | .struct _ | .array _ _ => true | _ => false) = true) (hi : (Tryz.prog.info? ty).map (·.size) = some cs.length)
  (hc : ∀ j v, cs[j]? = some v → W.cell? (ad.add j) = some v) (h : wpList Tryz.prog ops Q rest (a.put o.dst (.agg cs.toArray)) W) : wpList Tryz.prog ops Q (o :: rest) a W := by
 refine wpList_plain hgd fun K' hK' => ?_
 have hl := run_loadCells_list (P := Tryz.prog) W ad cs hc
 have hrun : (loadVar ty ad).run Tryz.prog W = .ok (.agg cs.toArray) W := by
  cases hq : Tryz.prog.info? ty with
  | none => simp [hq] at hi
  | some i =>
   have hs : i.size = cs.length := by simpa [hq] using hi
   have hagg : (isAgg ty).run Tryz.prog W = .ok true W := by
    unfold isAgg
    rw [Sem.run_bind, run_underlying hu W]
    cases d <;> simp_all
   simp [loadVar, Sem.run_bind, hagg, sizeOf, typeInfo, hq, hs, hl]
 unfold Oper.wp execOp
 simp only [ho, hx, Instr.loadAt, Instr.sureAddr, Sem.run_bind, Sem.run_pure, Result.andThen_ok, hrun]
 exact hK' _ _ h
theorem AppN.same {α : Type} {e : EK α} {base : Nat} {v : Value} {xs : List α} (h : OwnN e base W v xs) (hbase : base ≤ W.heap.size) : AppN e base W v xs [] v W := by
 refine ⟨by simpa using h, Below.refl _ _, Nat.le_refl _, fun _ _ _ h _ => h, fun _ _ _ => rfl, ⟨rfl, rfl, rfl, Nat.le_refl _, fun _ _ _ => rfl⟩, fun b hb => .inl hb⟩
theorem run_append_x {α : Type} {e : EK α} {base : Nat} {v : Value} {xs : List α} (he : e.Is) (ty : TypeId) (hown : OwnN e base W v xs) (A : Option Addr) (ys : List α) (m c : Nat) (hm : ys.length = m) (hn : A = none → c = 0)
  (hr : RowN e W A ys) (hlen : xs.length + ys.length ≤ 100000000) (hbase : base ≤ W.heap.size) : ∃ v' W', (Builtin.append_ #[e.T, e.T] ty #[v, .slice A m c]).run Tryz.prog W = .ok v' W' ∧ AppN e base W v xs ys v' W' := by
 subst hm
 by_cases hy : ys = []
 ·subst hy
  obtain ⟨i0, hi, hz0, hz2, hz3⟩ := info_parts he.hE
  refine ⟨v, W, ?_, AppN.same hown hbase⟩
  cases A with
  | none =>
   obtain rfl := hn rfl
   exact run_append_owned_none W base e.T ty e.E i0 e.k he.hT hi v xs.length (xs.flatMap e.cs) hown.own
  | some ad =>
   rcases hown.own.2 with ⟨rfl, hx0⟩ | ⟨g, cap, cur, rfl, _, _, hnc, _⟩
   ·simp [Builtin.append_, run_underlying he.hT, sizeOf, typeInfo, hi, Builtin.lenOf, Builtin.firstCells, loadCells, loadCellsFrom]
   ·simp [Builtin.append_, run_underlying he.hT, sizeOf, typeInfo, hi, Builtin.lenOf, Builtin.firstCells, hnc, storeCells, loadCells, loadCellsFrom]
 ·obtain ⟨b, p, rfl, hb, hc⟩ := hr.at_ hy
  exact run_append_n he ty hown b p ys c hr.ok hc hlen hbase (by cases ys with | nil => exact absurd rfl hy | cons _ _ => simp)
theorem wp_append_x {α : Type} {e : EK α} {base : Nat} {v : Value} {xs : List α} (he : e.Is) (hgd : o.guard = none) (s x : Operand)
  (ho : o.op = .call { callee := .builtin .append, args := #[s, x], argTypes := #[e.T, e.T] })
  (hs : a.eval s = v) (hown : OwnN e base W v xs) (A : Option Addr) (ys : List α) (m c : Nat) (hm : ys.length = m) (hx : a.eval x = .slice A m c) (hn : A = none → c = 0)
  (hr : RowN e W A ys) (hlen : xs.length + ys.length ≤ 100000000) (hbase : base ≤ W.heap.size)
  (h : ∀ v' W', AppN e base W v xs ys v' W' → wpList Tryz.prog ops Q rest (a.put o.dst v') W') : wpList Tryz.prog ops Q (o :: rest) a W := by
 refine wpList_plain hgd fun K' hK' => ?_
 obtain ⟨v', W', hrun, happ⟩ := run_append_x he o.type hown A ys m c hm hn hr hlen hbase
 unfold Oper.wp execOp
 simp only [ho, resolve, invoke, builtin, Sem.run_bind, Sem.run_pure, Result.andThen_ok, List.map_toArray, List.map_cons, List.map_nil, hs, hx, hrun]
 exact hK' _ _ (h v' W' happ)
theorem effAt_append_x {α : Type} {e : EK α} {base : Nat} {v : Value} {xs : List α} {R : Value → World → Prop} (he : e.Is) (s x : Operand)
  (ho : o.op = .call { callee := .builtin .append, args := #[s, x], argTypes := #[e.T, e.T] })
  (hs : a.eval s = v) (hown : OwnN e base W v xs) (A : Option Addr) (ys : List α) (m c : Nat) (hm : ys.length = m) (hx : a.eval x = .slice A m c) (hn : A = none → c = 0)
  (hr : RowN e W A ys) (hlen : xs.length + ys.length ≤ 100000000) (hbase : base ≤ W.heap.size)
  (h : ∀ v' W', AppN e base W v xs ys v' W' → R v' W') : EffAt Tryz.prog o a W R := by
 obtain ⟨v', W', hrun, happ⟩ := run_append_x he o.type hown A ys m c hm hn hr hlen hbase
 unfold EffAt execOp
 simp only [ho, resolve, invoke, builtin, Sem.run_bind, Sem.run_pure, Result.andThen_ok, List.map_toArray, List.map_cons, List.map_nil, hs, hx, hrun]
 exact h v' W' happ
theorem RefIn.setV {base R : Nat} {w w1 : World} {v v' : Value} {vf vf' : Int → Value} {d d' : Dev} (h : RefIn base w R v vf d) (hg : Gr w w1) (hbase : base ≤ w.heap.size) (hown : OwnN rvE w.heap.size w1 v' (d'.map (rvF vf'))) (hv : ∀ p ∈ d', BlkS w1 (vf' p.1) p.2.2) (hok : DevOk d') :
  RefIn base (w1.setCell ⟨R, 0, none⟩ v') R v' vf' d' ∧ RK w (w1.setCell ⟨R, 0, none⟩ v') := by
 have hb := h.blk.gr hg
 have hrk : RK w1 (w1.setCell ⟨R, 0, none⟩ v') := (RK.refl w1).set_ R 0 v' hb.eq (.inr rfl)
 haveI := hb
 refine ⟨⟨?_, ?_, fun p hp => hrk.blkS (hv p hp), h.bR, hok⟩, (RK.gr hg).trans hrk⟩
 ·show BlockAt _ R (#[v].setIfInBounds 0 v') _
  infer_instance
 ·exact (hown.more hbase).set_ R 0 v' (by decide)
end
set_option maxRecDepth 100000
set_option maxHeartbeats 2000000
theorem findN_hitp {β : Type} {l : List (Int × β)} {n : Int} {k : Nat} {p : Int × β} (h : findN (l.take k) n = none) (hk : l[k]? = some p) (hp : p.1 = n) : findN l n = some k := by
 subst hp
 exact findN_hit h hk
theorem rfind_any (base R : Nat) (d : Dev) (n : Int) (w : World) (h : RefAt base w R d) (hl : d.length ≤ 1000000) : Calls Tryz.prog 24 #[.pointer (some ⟨R, 0, none⟩), .int .u64 n] w fun e w' => e = .returned (.int .i64 (idxK d n)) ∧ Gr w w' := by
 obtain ⟨v, vf, h⟩ := h
 haveI := h.blk
 haveI : Old R w := h.blk.old
 have x0 : w.cell? ⟨R, 0, none⟩ = some v := (@block_cells _ _ 0 _ _ h.blk).trans rfl
 obtain ⟨A, c, rfl, hc1, hc2, _, _⟩ := h.nilv
 have HH := Lib.hid h; clear h
 go_enter Tryz.func24, Tryz.ntmps24
 go_wp2
 go_loopw [5] (fun i wr => ∃ k : Nat, k ≤ d.length ∧ i = .int .i64 k ∧ findN (d.take k) n = none ∧ Gr w wr) (fun i _ => d.length - (intOf i).toNat)
 case atStart => exact ⟨0, Nat.zero_le _, rfl, rfl, Gr.refl _⟩
 case round =>
  obtain ⟨k, hk, rfl, hf, hg⟩ := hrel
  have HF := Lib.hid hf
  have y0 : wr.cell? ⟨R, 0, none⟩ = some (.slice A d.length c) := (@block_cells _ _ 0 _ _ (HH.out.blk.gr hg)).trans rfl
  haveI : Old R wr := (HH.out.blk.gr hg).old
  haveI := grc_of hg
  clear hf
  by_cases hlt : k < d.length
  ·obtain ⟨p, hp⟩ : ∃ p, d[k]? = some p := ⟨_, List.getElem?_eq_getElem hlt⟩
   obtain ⟨g, c', hv, hbg, hgl, _, _, _, _, hcl⟩ := (HH.out.gr hg).form (by rintro rfl; simp at hlt)
   cases hv
   have c0 := (hcl k p hp).1
   rw [Nat.add_zero] at c0
   haveI : Old g wr := ⟨hgl⟩
   have HP := Lib.hid hp
   have HG := Lib.hid hg
   clear hcl hp hg
   by_cases hq : p.1 = n
   ·have hb : (p.1 == n) = true := by simpa using hq
    have HR := Lib.hid (idx_some (findN_hitp HF.out HP.out hq))
    go_wp2
    go_ret
    exact ⟨by rw [HR.out]; rfl, gri⟩
   ·have hb : (p.1 == n) = false := by simpa using hq
    have HQ := Lib.hid hq; clear hq
    go_wp2
    go_roundw
    case rel => exact ⟨k + 1, by omega, by go_num, findN_miss HF.out HP.out HQ.out, gri⟩
    case measure => simp [intOf]; omega
  ·have : k = d.length := by omega
   subst this
   have HR := Lib.hid (idx_none (by have := HF.out; rwa [List.take_length] at this))
   go_wp2
   go_ret
   exact ⟨by rw [HR.out]; rfl, gri⟩
theorem getK_append {β : Type} (a b : List (Int × β)) (n : Int) : getK (a ++ b) n = (getK a n).or (getK b n) := by
 induction a with
 | nil => simp [getK]
 | cons p r ih =>
  obtain ⟨k, x⟩ := p
  simp only [List.cons_append, getK]
  by_cases h : k = n
  ·simp [h]
  ·simp [h, ih]
theorem getK_hit {β : Type} {l : List (Int × β)} {n : Int} {k : Nat} {x : β} (h : getK (l.take k) n = none) (hk : l[k]? = some (n, x)) : getK l n = some x := by
 rw [cut_at hk, getK_append, h]
 simp [getK]
theorem getK_hitp {β : Type} {l : List (Int × β)} {n : Int} {k : Nat} {p : Int × β} (h : getK (l.take k) n = none) (hk : l[k]? = some p) (hp : p.1 = n) : getK l n = some p.2 := by
 subst hp
 exact getK_hit h hk
theorem getK_miss {β : Type} {l : List (Int × β)} {n : Int} {k : Nat} {p : Int × β} (h : getK (l.take k) n = none) (hk : l[k]? = some p) (hp : ¬ p.1 = n) : getK (l.take (k + 1)) n = none := by
 rw [List.take_add_one, hk, getK_append, h]
 obtain ⟨a, x⟩ := p
 simp at hp
 simp [getK, hp]
theorem cells_blk {W : World} {b p : Nat} {m : List (Int × Byt)} (h : CellsN rbE W b p m) {k : Nat} {x : Int × Byt} (hx : m[k]? = some x) : W.cell? ⟨b, p + k * 257, none⟩ = some (.int .i64 x.1) ∧ ∀ j v, (x.2.map bv)[j]? = some v → W.cell? ((⟨b, p + k * 257 + 1, none⟩ : Addr).add j) = some v := by
 have h1 := h k x hx
 refine ⟨?_, fun j v hj => ?_⟩
 ·have := h1 0 _ rfl; rwa [Nat.add_zero] at this
 ·have := h1 (j + 1) v (by simpa [rbE] using hj)
  rw [Go.WideShapes.add_plain]
  rwa [show p + k * 257 + 1 + j = p + k * rbE.k + (j + 1) by show _ = p + k * 257 + (j + 1); omega]
theorem rget_any (g q : Nat) (v : Value) (m : List (Int × Byt)) (n : Int) (w : World) (hc : w.cell? ⟨g, q + 2, none⟩ = some v) (hm : BlkS w v m) : Calls Tryz.prog 55 #[.pointer (some ⟨g, q, none⟩), .int .i64 n] w fun e w' => e = .returned (.tuple #[.agg (bkC ((getK m n).getD zB)), .bool (getK m n).isSome]) ∧ Gr w w' := by
 obtain ⟨A, c, hv, hc1, hc2, _, hr⟩ := hm.row
 obtain ⟨N, hN⟩ : ∃ N : Nat, N = m.length := ⟨_, rfl⟩
 rw [← hN] at hv hc1
 subst hv
 have HN := Lib.hid hN
 clear hN
 have hb2 := Nat.le_trans hc1 hc2
 unfold maxLen at hb2
 have HR := Lib.hid hr
 haveI : Old g w := old_of_cell hc
 have HC := Lib.hid hc
 have EZ := Lib.hid zC_bk
 clear hr hc hm
 go_enter Tryz.func55, Tryz.ntmps55
 go_wp2
 obtain ⟨w0, hw0⟩ : ∃ w0, w0 = w.alloc (.cells Tryz.zeroCells88 88) := ⟨_, rfl⟩
 go_loopw [6] (fun i wr => ∃ k : Nat, k ≤ N ∧ i = .int .i64 k ∧ getK (m.take k) n = none ∧ BlockAt wr w.heap.size Tryz.zeroCells88 88 ∧ Gr w wr) (fun i _ => N - (intOf i).toNat)
 case atStart => exact ⟨0, Nat.zero_le _, rfl, rfl, inferInstance, gri⟩
 case round =>
  obtain ⟨k, hk, rfl, hf, hb, hg⟩ := hrel
  have HF := Lib.hid hf
  have y0 : wr.cell? ⟨g, q + 2, none⟩ = some (.slice A N c) := (hg.below.cell (p := ⟨g, q + 2, none⟩) (old_of_cell HC.out).lt).trans HC.out
  haveI : Old g wr := old_of_cell y0
  haveI := hb
  haveI := grc_of hg
  clear hf
  by_cases hlt : k < N
  ·obtain ⟨p, hp⟩ : ∃ p, m[k]? = some p := ⟨_, List.getElem?_eq_getElem (by rw [← HN.out]; exact hlt)⟩
   obtain ⟨b, o, rfl, hbl, hcl⟩ := (HR.out.gr hg).at_ (by rintro rfl; have := HN.out; simp at this; omega)
   obtain ⟨c0, c1⟩ := cells_blk hcl hp
   have h256 : p.2.length = 256 := HR.out.ok p (List.mem_of_getElem? hp)
   haveI : Old b wr := ⟨hbl⟩
   haveI := bkC_row h256
   have HP := Lib.hid hp
   have HG := Lib.hid hg
   have C1 := Lib.hid c1
   clear hcl hp hg c1
   by_cases hq : p.1 = n
   ·have hb : (p.1 == n) = true := by simpa using hq
    have HR2 := Lib.hid (getK_hitp HF.out HP.out hq)
    have L1 := Lib.hid (show ((Tryz.prog.info? 88).map (·.size) = some (p.2.map bv).length) by rw [List.length_map, h256]; exact infoBlk)
    go_wp2_with (first | (refine wpLoadCs rfl _ _ rfl ⟨b, o + k * 257 + 1, none⟩ (p.2.map bv) _ rfl Tryz.underlying88 rfl L1.out C1.out ?_) | (refine wpStoreB rfl _ _ rfl _ _ (bkC p.2) rfl rfl inferInstance inferInstance inferInstance ?_))
    exact bodyPost_ret (run_resB rfl _ _ _ _ rfl rfl inferInstance inferInstance) rfl ⟨by rw [HR2.out]; rfl, gri⟩
   ·have hb : (p.1 == n) = false := by simpa using hq
    have HQ := Lib.hid hq; clear hq
    go_wp2
    go_roundw
    case rel => exact ⟨k + 1, hlt, by go_num, getK_miss HF.out HP.out HQ.out, inferInstance, gri⟩
    case measure => simp [intOf]; omega
  ·have : k = N := by omega
   subst this
   have HR2 := Lib.hid (show getK m n = none by have := HF.out; rwa [HN.out, List.take_length] at this)
   go_wp2_with (first | (refine wpStoreB rfl _ _ rfl _ _ _ rfl rfl inferInstance inferInstance inferInstance ?_))
   exact bodyPost_ret (run_resB rfl _ _ _ _ rfl rfl inferInstance inferInstance) rfl ⟨by rw [HR2.out, EZ.out]; rfl, gri⟩
end Go.Proofs.YtipeblmgochdfaaGreat
