/- A region that draws its order, among whose operations are some that read, compute, or call functions that only make new memory, some that lay a new block, and, behind them all, some that come one behind the other: one walk, with the new blocks' numbers as variables. -/
import Derived.Test.YtginaleekfljfaaGrow
namespace Go.Proofs.Ytginaleekfljfaa
open Go.RowKit
section
variable {P : Program} {ops : Array Oper} {md : Region.Mode} {W : World}
/-- What an operation has yielded: v, in the world that it got; or a call that hands back v, in a world that has grown. -/
def calmUpon (P : Program) (w : World) (v : Value) : Result Next → Prop
  | .ok (.value u) w' => w' = w ∧ u = v
  | .ok .skip w' => w' = w ∧ v = undef
  | .ok (.enter f args) w' => w' = w ∧ Calls P f args w (fun e w'' => e = .returned v ∧ Gr w w'')
  | _ => False
def calmAt (P : Program) (o : Oper) (a : Act) (w : World) (v : Value) : Prop := calmUpon P w v ((execOp a.eval o).run P w)
def calm (P : Program) (o : Oper) (a : Act) (W : World) (next : Act → Prop) : Prop := ∃ v, (∀ g : Growth W, calmAt P o a (grown W g) v) ∧ next (a.put o.dst v)
attribute [go_sem] calmUpon calmAt calm
def wpCalm (P : Program) (ops : Array Oper) (W : World) (Q : Act → Prop) : List Oper → Act → Prop
  | [], a => Q a
  | o :: rest, a => if Region.wanted o (yielded ops a.tmps) then calm P o a W (wpCalm P ops W Q rest) else wpCalm P ops W Q rest (a.put o.dst undef)
theorem wpCalm_nil {Q : Act → Prop} {a : Act} (h : Q a) : wpCalm P ops W Q [] a := h
theorem wpCalm_step {Q : Act → Prop} {a : Act} {o : Oper} {rest : List Oper}
    (h : ∀ K : Act → Prop, (∀ a, wpCalm P ops W Q rest a → K a) → if Region.wanted o (yielded ops a.tmps) then calm P o a W K else K (a.put o.dst undef)) : wpCalm P ops W Q (o :: rest) a :=
  h _ (fun _ h => h)
def CalmOp (P : Program) (ops : Array Oper) (W : World) (o : Oper) (v : Value) (a : Act) : Prop :=
  (Region.wanted o (yielded ops a.tmps) = true ∧ ∀ g : Growth W, calmAt P o a (grown W g) v) ∨ (Region.wanted o (yielded ops a.tmps) = false ∧ v = undef)
def AllocOp (P : Program) (ops : Array Oper) (o : Oper) (mk : Nat → Value) (zs : Array Value) (T : TypeId) (a : Act) : Prop :=
  Region.wanted o (yielded ops a.tmps) = true ∧ ∀ w, (execOp a.eval o).run P w = .ok (.value (mk w.heap.size)) (w.alloc (.cells zs T))
abbrev Blocks := List (Nat × Array Value × TypeId)
def aOp (P : Program) (ops : Array Oper) (W : World) (i : Nat) (K : Blocks → Act → Prop) (bs : Blocks) (a : Act) : Prop :=
  ∃ o, ops[i]? = some o ∧ ∃ mk zs T, AllocOp P ops o mk zs T a ∧ ∀ b, W.heap.size ≤ b → (∀ x ∈ bs, x.1 ≠ b) → K ((b, zs, T) :: bs) (a.put o.dst (mk b))
def mOp (P : Program) (ops : Array Oper) (W : World) (i : Nat) (K : Blocks → Act → Prop) (bs : Blocks) (a : Act) : Prop :=
  (∃ o, ops[i]? = some o ∧ ∃ v, CalmOp P ops W o v a ∧ K bs (a.put o.dst v)) ∨ aOp P ops W i K bs a
theorem aOp_mono {i : Nat} {K K' : Blocks → Act → Prop} {bs : Blocks} {a : Act} (h : ∀ bs a, K bs a → K' bs a) (hh : aOp P ops W i K bs a) : aOp P ops W i K' bs a :=
  let ⟨o, ho, mk, zs, T, hA, hk⟩ := hh; ⟨o, ho, mk, zs, T, hA, fun b h1 h2 => h _ _ (hk b h1 h2)⟩
theorem mOp_mono {i : Nat} {K K' : Blocks → Act → Prop} {bs : Blocks} {a : Act} (h : ∀ bs a, K bs a → K' bs a) (hh : mOp P ops W i K bs a) : mOp P ops W i K' bs a :=
  hh.imp (fun ⟨o, ho, v, hv, hk⟩ => ⟨o, ho, v, hv, h _ _ hk⟩) (aOp_mono h)
theorem CalmOp.put {o oj : Oper} {v u : Value} {a : Act} (hs : ∀ cs b, o.op ≠ .select cs b) (h3 : ∀ d, oj.dst = some d → d ∉ o.looksAt ops) (h : CalmOp P ops W o v a) : CalmOp P ops W o v (a.put oj.dst u) := by
  unfold CalmOp calmAt at *
  rw [execOp_put o hs a oj.dst u h3, wanted_put o a oj.dst u h3]
  exact h
theorem CalmOp.unput {o oj : Oper} {v u : Value} {a : Act} (hs : ∀ cs b, o.op ≠ .select cs b) (h3 : ∀ d, oj.dst = some d → d ∉ o.looksAt ops) (h : CalmOp P ops W o v (a.put oj.dst u)) : CalmOp P ops W o v a := by
  unfold CalmOp calmAt at *
  rw [execOp_put o hs a oj.dst u h3, wanted_put o a oj.dst u h3] at h
  exact h
theorem AllocOp.put {o oj : Oper} {mk : Nat → Value} {zs : Array Value} {T : TypeId} {u : Value} {a : Act} (hs : ∀ cs b, o.op ≠ .select cs b) (h3 : ∀ d, oj.dst = some d → d ∉ o.looksAt ops) (h : AllocOp P ops o mk zs T a) : AllocOp P ops o mk zs T (a.put oj.dst u) := by
  unfold AllocOp at *
  rw [execOp_put o hs a oj.dst u h3, wanted_put o a oj.dst u h3]
  exact h
theorem AllocOp.unput {o oj : Oper} {mk : Nat → Value} {zs : Array Value} {T : TypeId} {u : Value} {a : Act} (hs : ∀ cs b, o.op ≠ .select cs b) (h3 : ∀ d, oj.dst = some d → d ∉ o.looksAt ops) (h : AllocOp P ops o mk zs T (a.put oj.dst u)) : AllocOp P ops o mk zs T a := by
  unfold AllocOp at *
  rw [execOp_put o hs a oj.dst u h3, wanted_put o a oj.dst u h3] at h
  exact h
/-- The first n operations, in whatever order; behind them L. -/
def mixAny (P : Program) (md : Region.Mode) (ops : Array Oper) (W : World) (n : Nat) (L : Blocks → Array Bool → Act → Prop) : Nat → Array Bool → Blocks → Act → Prop
  | 0, listed, bs, a => L bs listed a
  | f + 1, listed, bs, a => Region.ready md ops listed ≠ [] ∧ ∀ i ∈ Region.ready md ops listed, i < n ∧ mOp P ops W i (mixAny P md ops W n L f (listed.setIfInBounds i true)) bs a
def layAny (P : Program) (md : Region.Mode) (ops : Array Oper) (W : World) (n : Nat) (L : Blocks → Array Bool → Act → Prop) : Nat → Array Bool → Blocks → Act → Prop
  | 0, listed, bs, a => L bs listed a
  | f + 1, listed, bs, a => Region.ready md ops listed ≠ [] ∧ ∀ i ∈ Region.ready md ops listed, i < n ∧ aOp P ops W i (layAny P md ops W n L f (listed.setIfInBounds i true)) bs a
theorem mix_of_lay {n : Nat} {L : Blocks → Array Bool → Act → Prop} : ∀ (f : Nat) (listed : Array Bool) (bs : Blocks) (a : Act), layAny P md ops W n L f listed bs a → mixAny P md ops W n L f listed bs a
  | 0, _, _, _, h => h
  | f + 1, _, _, _, h => ⟨h.1, fun i hi => ⟨(h.2 i hi).1, .inr (aOp_mono (fun bs a => mix_of_lay f _ bs a) (h.2 i hi).2)⟩⟩
/-- The world of a region under way: nothing that stood has turned; the new blocks stand as they were laid. -/
def MixWorld (W : World) (bs : Blocks) (w : World) : Prop := Gr W w ∧ ∀ x ∈ bs, w.heap[x.1]? = some (.cells x.2.1 x.2.2)
theorem MixWorld.grow {bs : Blocks} {w w' : World} (h : MixWorld W bs w) (hg : Gr w w') : MixWorld W bs w' :=
  ⟨h.1.trans hg, fun x hx => by
    have h1 := h.2 x hx
    have hlt : x.1 < w.heap.size := (Array.getElem?_eq_some_iff.1 h1).1
    rw [hg.below.block x.1 hlt]; exact h1⟩
theorem mixAny_any {n g : Nat} {L : Blocks → Array Bool → Act → Prop} {Q' : Exit → Act → World → Prop} (hL : ∀ listed bs a w, MixWorld W bs w → L bs listed a → wpAny P md ops Q' g listed a w) :
    ∀ (f : Nat) (listed : Array Bool) (bs : Blocks) (a : Act) (w : World), MixWorld W bs w → mixAny P md ops W n L f listed bs a → wpAny P md ops Q' (f + g) listed a w
  | 0, listed, bs, a, w, hw, h => by rw [Nat.zero_add]; exact hL _ _ _ _ hw h
  | f + 1, listed, bs, a, w, hw, h => by
    rw [show f + 1 + g = (f + g) + 1 by omega]
    refine ⟨fun h0 => absurd h0 h.1, fun i hi => ?_⟩
    unfold wpOp
    rcases (h.2 i hi).2 with ⟨o, ho, v, hv, hk⟩ | ⟨o, ho, mk, zs, T, ⟨hw1, hrun⟩, hk⟩
    · simp only [ho]
      rcases hv with ⟨hw1, hc⟩ | ⟨hw1, rfl⟩
      · simp only [hw1, if_true]
        refine .inl ?_
        obtain ⟨gw, rfl⟩ := hw.1
        have h3 := hc gw
        unfold calmAt at h3
        unfold Oper.wp
        generalize (execOp a.eval o).run P (grown W gw) = r at *
        cases r with
        | ok nx w' =>
          cases nx <;> simp only [calmUpon] at h3 <;> simp only [Oper.upon]
          case value u => obtain ⟨e1, e2⟩ := h3; rw [e1, e2]; exact mixAny_any hL f _ _ _ _ hw hk
          case skip => obtain ⟨e1, e2⟩ := h3; rw [e1, ← e2]; exact mixAny_any hL f _ _ _ _ hw hk
          case enter f' args =>
            obtain ⟨e1, hc'⟩ := h3
            rw [e1]
            exact hc'.mono fun e w'' ⟨he, hw''⟩ => by subst he; exact mixAny_any hL f _ _ _ _ (hw.grow hw'') hk
        | halt x w' => simp only [calmUpon] at h3
      · simp only [hw1, Bool.false_eq_true, if_false]; exact mixAny_any hL f _ _ _ _ hw hk
    · simp only [ho, hw1, if_true]
      refine .inl ?_
      unfold Oper.wp
      rw [hrun w]
      simp only [Oper.upon]
      refine mixAny_any hL f _ _ _ _ ⟨hw.1.trans (Gr.of (below_alloc (Below.refl _ _) _)), fun x hx => ?_⟩ (hk w.heap.size hw.1.below.size fun x hx e => ?_)
      · rcases List.mem_cons.1 hx with rfl | hx
        · show (w.heap.push _)[w.heap.size]? = _
          simp
        · have h1 := hw.2 x hx
          have hlt : x.1 < w.heap.size := (Array.getElem?_eq_some_iff.1 h1).1
          rw [Below.heap_alloc w _ x.1 hlt]; exact h1
      · have hlt : x.1 < w.heap.size := (Array.getElem?_eq_some_iff.1 (hw.2 x hx)).1
        omega
/-- Another operation, apart from a calm one. -/
theorem mOp_put {j : Nat} {oi oj : Oper} {v : Value} (hj : ops[j]? = some oj) (hap : oi.apart ops oj = true)
    (hsi : ∀ cs b, oi.op ≠ .select cs b) (hsj : ∀ cs b, oj.op ≠ .select cs b) {K : Blocks → Act → Prop} {bs : Blocks} {a : Act}
    (hy : CalmOp P ops W oi v a) (h : mOp P ops W j K bs (a.put oi.dst v)) :
    mOp P ops W j (fun bs' a' => CalmOp P ops W oi v a' ∧ K bs' (a'.put oi.dst v)) bs a := by
  obtain ⟨h1, h2, h3⟩ := Oper.apart_spec hap
  rcases h with ⟨o, ho, u, hu, hk⟩ | ⟨o, ho, mk, zs, T, hA, hk⟩
  · obtain rfl : o = oj := Option.some.inj (ho.symm.trans hj)
    exact .inl ⟨o, hj, u, hu.unput hsj h1, hy.put hsi h3, by rw [← Act.put_comm a v u h2]; exact hk⟩
  · obtain rfl : o = oj := Option.some.inj (ho.symm.trans hj)
    exact .inr ⟨o, hj, mk, zs, T, hA.unput hsj h1, fun b hb hn => ⟨hy.put hsi h3, by rw [← Act.put_comm a v _ h2]; exact hk b hb hn⟩⟩
theorem mixAny_first {n i : Nat} {oi : Oper} {v : Value} {L : Blocks → Array Bool → Act → Prop} (hi : ops[i]? = some oi) (hsel : ∀ (j : Nat) (o : Oper) cs b, ops[j]? = some o → o.op ≠ .select cs b)
    (hs : Region.sinkB md ops n = true) (hc : Region.chainB md ops n = true) (hn : n < ops.size) (hin : i < n)
    (hdone : ∀ bs listed a, L bs listed a → ∀ j ∈ Region.ready md ops listed, n ≤ j) :
    ∀ (f : Nat) (listed : Array Bool) (bs : Blocks) (a : Act), HeadInv md ops n listed →
      (∀ j oj, ops[j]? = some oj → j ≠ i → listed.getD j true = false → (∀ e ∈ oj.after, Region.binds md e = true → e.on ≠ i) → oi.apart ops oj = true) →
      i ∈ Region.ready md ops listed → CalmOp P ops W oi v a →
      mixAny P md ops W n L f (listed.setIfInBounds i true) bs (a.put oi.dst v) → mixAny P md ops W n L (f + 1) listed bs a := by
  intro f
  induction f with
  | zero =>
    intro listed bs a inv _ hr hy H
    refine ⟨(fun h => by rw [h] at hr; cases hr), fun j hj => ?_⟩
    have hjn : j < n := (Nat.lt_or_ge j n).elim id fun h => absurd hj (tail_waits hs hc hn inv _ i rfl hin (mem_ready.1 hr).1 j h)
    by_cases hji : j = i
    · subst hji; exact ⟨hjn, .inl ⟨oi, hi, v, hy, H⟩⟩
    · have := hdone _ _ _ H j (ready_mono hj hji)
      omega
  | succ f ih =>
    intro listed bs a inv hfree hr hy H
    have hun := (mem_ready.1 hr).1
    refine ⟨(fun h => by rw [h] at hr; cases hr), fun j hj => ?_⟩
    have hjn : j < n := (Nat.lt_or_ge j n).elim id fun h => absurd hj (tail_waits hs hc hn inv _ i rfl hin hun j h)
    refine ⟨hjn, ?_⟩
    by_cases hji : j = i
    · subst hji; exact .inl ⟨oi, hi, v, hy, H⟩
    have h1 := (H.2 j (ready_mono hj hji)).2
    obtain ⟨hjun, oj, hoj, hall⟩ := mem_ready.1 hj
    have hnot : ∀ e ∈ oj.after, Region.binds md e = true → e.on ≠ i := fun e he hb heq => by
      have h1 := hall e he hb
      rw [heq, getD_both hun] at h1
      cases h1
    have h2 := mOp_put hoj (hfree j oj hoj hji hjun hnot) (fun cs b => hsel i oi cs b hi) (fun cs b => hsel j oj cs b hoj) hy h1
    have hfree' : ∀ k ok, ops[k]? = some ok → k ≠ i → (listed.setIfInBounds j true).getD k true = false →
        (∀ e ∈ ok.after, Region.binds md e = true → e.on ≠ i) → oi.apart ops ok = true := fun k ok hk hki hu hno => by
      refine hfree k ok hk hki ?_ hno
      by_cases hjk : j = k
      · subst hjk; exact hjun
      · rw [getD_set_ne true hjk] at hu; exact hu
    refine mOp_mono (fun bs' a' h3 => ih (listed.setIfInBounds j true) bs' a' (inv.set hj hjn) hfree' (ready_mono hr (Ne.symm hji)) h3.1 ?_) h2
    rw [Array.setIfInBounds_comm _ _ hji]
    exact h3.2
theorem layAny_perm {n : Nat} {L : Blocks → Array Bool → Act → Prop} (hP : ∀ bs bs' l a, bs.Perm bs' → L bs l a → L bs' l a) : ∀ (f : Nat) (listed : Array Bool) (bs bs' : Blocks) (a : Act), bs.Perm bs' → layAny P md ops W n L f listed bs a → layAny P md ops W n L f listed bs' a
  | 0, _, _, _, _, hp, h => hP _ _ _ _ hp h
  | f + 1, _, _, _, _, hp, h => ⟨h.1, fun i hi => ⟨(h.2 i hi).1, by
      obtain ⟨o, ho, mk, zs, T, hA, hk⟩ := (h.2 i hi).2
      exact ⟨o, ho, mk, zs, T, hA, fun b hb hn => layAny_perm hP f _ _ _ _ (hp.cons _) (hk b hb fun x hx => hn x (hp.mem_iff.1 hx))⟩⟩⟩
theorem layAny_first {n i : Nat} {oi : Oper} {mk : Nat → Value} {zs : Array Value} {T : TypeId} {L : Blocks → Array Bool → Act → Prop} (hP : ∀ bs bs' l a, bs.Perm bs' → L bs l a → L bs' l a) (hi : ops[i]? = some oi) (hsel : ∀ (j : Nat) (o : Oper) cs b, ops[j]? = some o → o.op ≠ .select cs b)
    (hs : Region.sinkB md ops n = true) (hc : Region.chainB md ops n = true) (hn : n < ops.size) (hin : i < n)
    (hdone : ∀ bs listed a, L bs listed a → ∀ j ∈ Region.ready md ops listed, n ≤ j) :
    ∀ (f : Nat) (listed : Array Bool) (bs : Blocks) (a : Act), HeadInv md ops n listed →
      (∀ j oj, ops[j]? = some oj → j ≠ i → listed.getD j true = false → (∀ e ∈ oj.after, Region.binds md e = true → e.on ≠ i) → oi.apart ops oj = true) →
      i ∈ Region.ready md ops listed → AllocOp P ops oi mk zs T a →
      (∀ b, W.heap.size ≤ b → (∀ x ∈ bs, x.1 ≠ b) → layAny P md ops W n L f (listed.setIfInBounds i true) ((b, zs, T) :: bs) (a.put oi.dst (mk b))) → layAny P md ops W n L (f + 1) listed bs a := by
  have fresh : ∀ bs : Blocks, ∃ b, W.heap.size ≤ b ∧ ∀ x ∈ bs, x.1 ≠ b := by
    intro bs
    have : ∃ m, W.heap.size ≤ m ∧ ∀ x ∈ bs, x.1 < m := by
      induction bs with
      | nil => exact ⟨W.heap.size, Nat.le_refl _, fun x hx => by cases hx⟩
      | cons y r ih =>
        obtain ⟨m, h1, h2⟩ := ih
        refine ⟨max m (y.1 + 1), by omega, fun x hx => ?_⟩
        rcases List.mem_cons.1 hx with rfl | hx
        · omega
        · have := h2 x hx; omega
    obtain ⟨m, h1, h2⟩ := this
    exact ⟨m, h1, fun x hx e => by have := h2 x hx; omega⟩
  intro f
  induction f with
  | zero =>
    intro listed bs a inv _ hr hy H
    refine ⟨(fun h => by rw [h] at hr; cases hr), fun j hj => ?_⟩
    have hjn : j < n := (Nat.lt_or_ge j n).elim id fun h => absurd hj (tail_waits hs hc hn inv _ i rfl hin (mem_ready.1 hr).1 j h)
    by_cases hji : j = i
    · subst hji; exact ⟨hjn, oi, hi, mk, zs, T, hy, H⟩
    · obtain ⟨b, hb, hnb⟩ := fresh bs
      have := hdone _ _ _ (H b hb hnb) j (ready_mono hj hji)
      omega
  | succ f ih =>
    intro listed bs a inv hfree hr hy H
    have hun := (mem_ready.1 hr).1
    refine ⟨(fun h => by rw [h] at hr; cases hr), fun j hj => ?_⟩
    have hjn : j < n := (Nat.lt_or_ge j n).elim id fun h => absurd hj (tail_waits hs hc hn inv _ i rfl hin hun j h)
    refine ⟨hjn, ?_⟩
    by_cases hji : j = i
    · subst hji; exact ⟨oi, hi, mk, zs, T, hy, H⟩
    obtain ⟨hjun, oj, hoj, hall⟩ := mem_ready.1 hj
    have hnot : ∀ e ∈ oj.after, Region.binds md e = true → e.on ≠ i := fun e he hb heq => by
      have h1 := hall e he hb
      rw [heq, getD_both hun] at h1
      cases h1
    obtain ⟨p1, p2, p3⟩ := Oper.apart_spec (hfree j oj hoj hji hjun hnot)
    have hfree' : ∀ k ok, ops[k]? = some ok → k ≠ i → (listed.setIfInBounds j true).getD k true = false →
        (∀ e ∈ ok.after, Region.binds md e = true → e.on ≠ i) → oi.apart ops ok = true := fun k ok hk hki hu hno => by
      refine hfree k ok hk hki ?_ hno
      by_cases hjk : j = k
      · subst hjk; exact hjun
      · rw [getD_set_ne true hjk] at hu; exact hu
    -- what j lays, whatever i's block
    obtain ⟨b0, hb0, hnb0⟩ := fresh bs
    obtain ⟨o', ho', mk', zs', T', hA', _⟩ := ((H b0 hb0 hnb0).2 j (ready_mono hj hji)).2
    obtain rfl : o' = oj := Option.some.inj (ho'.symm.trans hoj)
    have hAj := hA'.unput (oj := oi) (fun cs b => hsel j o' cs b hoj) p1
    refine ⟨o', hoj, mk', zs', T', hAj, fun b' hb' hnb' => ?_⟩
    refine ih (listed.setIfInBounds j true) _ _ (inv.set hj hjn) hfree' (ready_mono hr (Ne.symm hji)) (hy.put (fun cs b => hsel i oi cs b hi) p3) fun b hb hnb => ?_
    have hbs : ∀ x ∈ bs, x.1 ≠ b := fun x hx => hnb x (List.mem_cons_of_mem _ hx)
    obtain ⟨o2, ho2, mk2, zs2, T2, hA2, hk2⟩ := ((H b hb hbs).2 j (ready_mono hj hji)).2
    obtain rfl : o2 = o' := Option.some.inj (ho2.symm.trans hoj)
    have hAj2 := hA2.unput (oj := oi) (fun cs b => hsel j o2 cs b hoj) p1
    have e := (hAj.2 W).symm.trans (hAj2.2 W)
    have ez : zs' = zs2 ∧ T' = T2 := by
      have e2 : W.alloc (.cells zs' T') = W.alloc (.cells zs2 T2) := by injection e
      have e3 : (W.alloc (.cells zs' T')).heap[W.heap.size]? = (W.alloc (.cells zs2 T2)).heap[W.heap.size]? := by rw [e2]
      have e4 : some (Obj.cells zs' T') = some (Obj.cells zs2 T2) := by
        have q : ∀ ob : Obj, (W.alloc ob).heap[W.heap.size]? = some ob := fun ob => by show (W.heap.push ob)[W.heap.size]? = _; simp
        rw [q, q] at e3; exact e3
      injection e4 with e5
      injection e5 with e6 e7
      exact ⟨e6, e7⟩
    obtain ⟨rfl, rfl⟩ := ez
    have em : mk' = mk2 := by
      funext m
      have e1 := (hAj.2 { W with heap := Array.replicate m default }).symm.trans (hAj2.2 { W with heap := Array.replicate m default })
      have e2 : Next.value (mk' (Array.replicate m (default : Obj)).size) = Next.value (mk2 (Array.replicate m (default : Obj)).size) := by injection e1
      rw [Array.size_replicate] at e2
      injection e2
    subst em
    have hne : b ≠ b' := fun e => hnb _ (List.mem_cons_self) e.symm
    have h4 := hk2 b' hb' (fun x hx => by
      rcases List.mem_cons.1 hx with rfl | hx
      · exact hne
      · exact hnb' x hx)
    rw [Array.setIfInBounds_comm _ _ hji, ← Act.put_comm a _ _ p2]
    exact layAny_perm hP f _ _ _ _ (List.Perm.swap _ _ _) h4
def wpLay (P : Program) (ops : Array Oper) (W : World) (Q : Blocks → Act → Prop) : List Oper → Blocks → Act → Prop
  | [], bs, a => Q bs a
  | o :: r, bs, a => ∃ mk zs T, AllocOp P ops o mk zs T a ∧ ∀ b, W.heap.size ≤ b → (∀ x ∈ bs, x.1 ≠ b) → wpLay P ops W Q r ((b, zs, T) :: bs) (a.put o.dst (mk b))
def pick (l : List Oper) : List Nat → List Oper
  | [] => []
  | k :: r => (l.drop k).take 1 ++ pick l r
def mixSeq (md : Region.Mode) (ops : Array Oper) (g n : Nat) : List Nat → Array Bool → Bool
  | [], listed => Region.seqB md ops g n listed
  | k :: r, listed => decide (k < n) && (Region.ready md ops listed).contains k && Region.free md ops listed k && mixSeq md ops g n r (listed.setIfInBounds k true)
def mixB (md : Region.Mode) (ops : Array Oper) (qs as : List Nat) (n : Nat) : Bool :=
  Region.noSelect ops && decide (n < ops.size) && Region.sinkB md ops n && Region.chainB md ops n && decide (qs.length + as.length = n) && mixSeq md ops (ops.size - n) n (qs ++ as) (Array.replicate ops.size false)
theorem pick_cons {l : List Oper} {k : Nat} {r : List Nat} {o : Oper} (h : l[k]? = some o) : pick l (k :: r) = o :: pick l r := by
  obtain ⟨hl, hv⟩ := List.getElem?_eq_some_iff.1 h
  simp [pick, List.drop_eq_getElem_cons hl, hv]
section
variable {l : List Oper} {n g : Nat} {Lq : Blocks → Act → Prop}
theorem layAny_lex (hP : ∀ bs bs' a, bs.Perm bs' → Lq bs a → Lq bs' a) (hsel : Region.noSelect l.toArray = true) (hs : Region.sinkB md l.toArray n = true) (hc : Region.chainB md l.toArray n = true) (hn : n < l.toArray.size) :
    ∀ (as : List Nat) (listed : Array Bool) (bs : Blocks) (a : Act), HeadInv md l.toArray n listed → mixSeq md l.toArray g n as listed = true → wpLay P l.toArray W Lq (pick l as) bs a →
      layAny P md l.toArray W n (fun bs' listed' a' => Region.seqB md l.toArray g n listed' = true ∧ Lq bs' a') as.length listed bs a
  | [], listed, bs, a, _, hB, h => ⟨hB, h⟩
  | k :: r, listed, bs, a, inv, hB, h => by
    simp only [mixSeq, Bool.and_eq_true, decide_eq_true_eq] at hB
    obtain ⟨⟨⟨hkn, hr⟩, hf⟩, hB'⟩ := hB
    have hr' : k ∈ Region.ready md l.toArray listed := by simpa using hr
    obtain ⟨_, o, ho, _⟩ := mem_ready.1 hr'
    have ho' : l[k]? = some o := by simpa using ho
    rw [pick_cons ho'] at h
    obtain ⟨mk, zs, T, hA, hk⟩ := h
    exact layAny_first (fun bs bs' l' a hp hL => ⟨hL.1, hP _ _ _ hp hL.2⟩) ho (Region.noSelect_spec hsel) hs hc hn hkn (fun bs' listed' a' hL => seqB_ready hL.1) r.length listed bs a inv (Region.free_spec ho hf) hr' hA
      fun b hb hnb => layAny_lex hP hsel hs hc hn r _ _ _ (inv.set hr' hkn) hB' (hk b hb hnb)
theorem mixAny_lex (hP : ∀ bs bs' a, bs.Perm bs' → Lq bs a → Lq bs' a) (hsel : Region.noSelect l.toArray = true) (hs : Region.sinkB md l.toArray n = true) (hc : Region.chainB md l.toArray n = true) (hn : n < l.toArray.size) (as : List Nat) :
    ∀ (qs : List Nat) (listed : Array Bool) (a : Act), HeadInv md l.toArray n listed → mixSeq md l.toArray g n (qs ++ as) listed = true → wpCalm P l.toArray W (fun a' => wpLay P l.toArray W Lq (pick l as) [] a') (pick l qs) a →
      mixAny P md l.toArray W n (fun bs' listed' a' => Region.seqB md l.toArray g n listed' = true ∧ Lq bs' a') (qs.length + as.length) listed [] a
  | [], listed, a, inv, hB, h => by
    rw [List.length_nil, Nat.zero_add]
    exact mix_of_lay _ _ _ _ (layAny_lex hP hsel hs hc hn as listed [] a inv hB h)
  | k :: r, listed, a, inv, hB, h => by
    simp only [List.cons_append, mixSeq, Bool.and_eq_true, decide_eq_true_eq] at hB
    obtain ⟨⟨⟨hkn, hr⟩, hf⟩, hB'⟩ := hB
    have hr' : k ∈ Region.ready md l.toArray listed := by simpa using hr
    obtain ⟨_, o, ho, _⟩ := mem_ready.1 hr'
    have ho' : l[k]? = some o := by simpa using ho
    rw [pick_cons ho'] at h
    rw [show (k :: r).length + as.length = (r.length + as.length) + 1 by simp; omega]
    unfold wpCalm at h
    by_cases hw : Region.wanted o (yielded l.toArray a.tmps) = true
    · simp only [hw, if_true] at h
      obtain ⟨v, hv, hk⟩ := h
      exact mixAny_first ho (Region.noSelect_spec hsel) hs hc hn hkn (fun bs' listed' a' hL => seqB_ready hL.1) _ listed [] a inv (Region.free_spec ho hf) hr' (.inl ⟨hw, hv⟩)
        (mixAny_lex hP hsel hs hc hn as r _ _ (inv.set hr' hkn) hB' hk)
    · simp only [hw] at h
      exact mixAny_first ho (Region.noSelect_spec hsel) hs hc hn hkn (fun bs' listed' a' hL => seqB_ready hL.1) _ listed [] a inv (Region.free_spec ho hf) hr' (.inr ⟨by simpa using hw, rfl⟩)
        (mixAny_lex hP hsel hs hc hn as r _ _ (inv.set hr' hkn) hB' h)
end
/-- ONE WALK: the calm operations 'qs', then the blocks that 'as' lay, with their numbers as variables, then the others, one behind the other, in a world of which that is known. -/
theorem wp_region_mix {id : Nat} {Q : Exit → Act → World → Prop} {a : Act} {l : List Oper} (qs as : List Nat) (n : Nat) (hm : P.follows .mixedOrders = true) (hB : mixB .any l.toArray qs as n = true)
    (h : wpCalm P l.toArray W (fun a' => wpLay P l.toArray W (fun bs a'' => ∀ w', MixWorld W bs w' → wpList P l.toArray Q (l.drop n) a'' w') (pick l as) [] a') (pick l qs) a) : (Code.region id l.toArray true).wp P Q a W := by
  simp only [mixB, Bool.and_eq_true, decide_eq_true_eq] at hB
  obtain ⟨⟨⟨⟨⟨hsel, hn⟩, hs⟩, hc⟩, hlen⟩, hlex⟩ := hB
  have hdl : (l.drop n).length = l.toArray.size - n := by simp
  have inv0 : HeadInv .any l.toArray n (Array.replicate l.toArray.size false) :=
    ⟨by simp, (fun j oj _ hl => by rw [getD_replicate_false] at hl; cases hl), fun t _ ht => getD_in (by simpa using ht) (getD_replicate_false _ _)⟩
  have H := mixAny_lex (md := .any) (g := l.toArray.size - n) (P := P) (W := W) (fun bs bs' a hp (hL : ∀ w', MixWorld W bs w' → wpList P l.toArray Q (l.drop n) a w') w' hw' => hL w' ⟨hw'.1, fun x hx => hw'.2 x (hp.mem_iff.1 hx)⟩) hsel hs hc hn as qs _ a inv0 hlex h
  refine wp_region_any hm ?_
  have := mixAny_any (Q' := Q) (g := l.toArray.size - n) (fun listed bs a' w' hw' hL => by
    have := wpAny_of_seq (md := .any) (Q' := Q) (l.drop n) n listed a' w' (fun j => by simp [List.getElem?_drop]) (by rw [hdl]; exact hL.1) (hL.2 w' hw')
    rwa [hdl] at this) _ _ _ _ _ ⟨Gr.of ((Below.refl _ _).drew), fun x hx => by cases hx⟩ H
  rw [hlen, show n + (l.toArray.size - n) = l.toArray.size by simp at hn ⊢; omega] at this
  exact this
/-- A new block's whole store. -/
theorem mix_store {Q : Exit → Act → World → Prop} {o : Oper} {rest : List Oper} {a : Act} {w : World} {bs : Blocks} {b : Nat} {zs : Array Value} {T ty : TypeId} {x y : Operand} (bs' : Blocks) (cs : Array Value) (hw : MixWorld W bs w) (ho : o.op = .store ty x y) (hg : o.guard = none)
    (hx : a.eval x = .pointer (some ⟨b, 0, none⟩)) (hb : (b, zs, T) ∈ bs) (hW : W.heap.size ≤ b) (hy : (a.eval y).cells = cs) (hi : (P.info? ty).map (·.size) = some cs.size) (hold : zs.size = cs.size) (h1 : cs.toList.all (·.oneCell') = true)
    (hp : ∀ z ∈ bs', z = (b, cs, T) ∨ (z ∈ bs ∧ z.1 ≠ b))
    (h : ∀ w', MixWorld W bs' w' → wpList P ops Q rest (a.put o.dst undef) w') : wpList P ops Q (o :: rest) a w := by
  refine wpList_plain hg fun K hK => ?_
  have hh := hw.2 _ hb
  have hrun : (storeVar ty ⟨b, 0, none⟩ (a.eval y)).run P w = .ok () (w.setRow b cs) := by
    have := run_storeCells_from (P := P) b T cs.toList 0 zs w hh (by simp; omega) (fun v hv => List.all_eq_true.1 h1 v hv)
    cases hq : P.info? ty with
    | none => simp [hq] at hi
    | some i =>
      have hs : cs.size = i.size := by simp [hq] at hi; omega
      simp [storeVar, sizeOf, typeInfo, hq, hy, hs, this]
  unfold Oper.wp execOp
  simp only [ho, hx, Instr.storeAt, Instr.sureAddr, Sem.run_bind, Sem.run_pure, Result.andThen_ok, hrun]
  refine hK _ _ (h _ ⟨Gr.of ?_, fun z hz => ?_⟩)
  · exact hw.1.below.trans ⟨rfl, rfl, rfl, by simp [World.setRow], fun k hk => by
      simp only [World.setRow, Array.getElem?_modify]
      rw [if_neg (by omega)]⟩
  · rcases hp z hz with rfl | ⟨h1, h2⟩
    · exact setRow_heap w b zs _ T _ hh
    · rw [← hw.2 z h1]
      simp only [World.setRow, Array.getElem?_modify]
      rw [if_neg (by omega)]
/-- What 'var x T' lays: its zero value. -/
theorem allocOp_alloc {o : Oper} {T : TypeId} {z : Value} {a : Act} (ho : o.op = .alloc T) (hg : o.guard = none) (hz : ∀ w, (zeroValue T).run P w = .ok z w) : AllocOp P ops o (fun b => .pointer (some ⟨b, 0, none⟩)) z.cells T a :=
  ⟨by simp [Region.wanted, hg], fun w => by simp [execOp, ho, Instr.alloc, Sem.run_bind, hz, newVar, newRow, go_sem]⟩
theorem allocOp_box {o : Oper} {T : TypeId} {x : Operand} {a : Act} (ho : o.op = .box T x) (hg : o.guard = none) : AllocOp P ops o (fun b => .pointer (some ⟨b, 0, none⟩)) (a.eval x).cells T a :=
  ⟨by simp [Region.wanted, hg], fun w => by simp [execOp, ho, Instr.box, newVar, newRow, go_sem]⟩
theorem mix_cell {bs : Blocks} {w : World} (h : MixWorld W bs w) {b : Nat} {zs : Array Value} {T : TypeId} (hx : (b, zs, T) ∈ bs) (o : Nat) : w.cell? ⟨b, o, none⟩ = zs[o]? := by
  simp [World.cell?, h.2 _ hx]
theorem mix_frozen {bs : Blocks} {w : World} (h : MixWorld W bs w) {b : Nat} {zs : Array Value} {T : TypeId} (hx : (b, zs, T) ∈ bs) (o : Nat) : w.frozen? ⟨b, o, none⟩ = false := by
  simp [World.frozen?, h.2 _ hx]
theorem mix_old {bs : Blocks} {w : World} (h : MixWorld W bs w) {b : Nat} {zs : Array Value} {T : TypeId} (hx : (b, zs, T) ∈ bs) : Old b w := ⟨(Array.getElem?_eq_some_iff.1 (h.2 _ hx)).1⟩
end
end Go.Proofs.Ytginaleekfljfaa
