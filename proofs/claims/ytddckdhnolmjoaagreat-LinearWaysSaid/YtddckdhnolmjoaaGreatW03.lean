/- part.Over: the parts, one behind the other, to whatever loop keeps all but its own. Conditions: what is captured stands in .. -/
import Derived.Test.YtddckdhnolmjoaaGreatW02
import Derived.RangeFuncNested
import Derived.RangeFuncBound
import Derived.RangeFuncCalls
import Derived.RangeFuncLeaves
import Derived.Shelf.Abstract
import Derived.Shelf.RegionOpen
import Derived.OwnWalkIn
import Derived.TacticsInMore
import Derived.LoopNIn
import Derived.LoopIn
import Derived.RangeFuncFrom
import Derived.Test.YtddckdhnolmjoaaGreatW01
set_option linter.unusedVariables false
set_option linter.unusedSimpArgs false
set_option linter.unnecessarySimpa false
set_option maxRecDepth 100000
set_option maxHeartbeats 8000000
namespace Go.Proofs.YtddckdhnolmjoaaGreat
open Go.RowKit Go.Shelf
attribute [local go_sem] Oper.semAt_some
def rowX (W : World) (X : Nat) : Option Nat := (W.cell? ⟨X, 0, none⟩).bind Value.ownBlock
structure KpX (X : Nat) (W W' : World) : Prop where
 size : W.heap.size ≤ W'.heap.size
 keep : ∀ (b : Nat) cs t f, W.heap[b]? = some (.cells cs t f) → b ≠ X → rowX W X ≠ some b → W'.heap[b]? = W.heap[b]?
 row : ∀ b, rowX W' X = some b → rowX W X = some b ∨ W.heap.size ≤ b
 lt : (∀ b, rowX W X = some b → b < W.heap.size) → ∀ b, rowX W' X = some b → b < W'.heap.size
theorem KpX.trans {X : Nat} {A B C : World} (h : KpX X A B) (k : KpX X B C) : KpX X A C where
 size := Nat.le_trans h.size k.size
 keep := fun b cs t f hb hx hr => by
  have h1 := h.keep b cs t f hb hx hr
  have hlt := (Array.getElem?_eq_some_iff.1 hb).1
  exact (k.keep b cs t f (h1.trans hb) hx (fun e => (h.row b e).elim hr (fun h2 => by omega))).trans h1
 row := fun b hb => (k.row b hb).elim (fun e => h.row b e) (fun h2 => .inr (Nat.le_trans h.size h2))
 lt := fun h0 => k.lt (h.lt h0)
theorem KpX.putObj {X : Nat} (W : World) (l : Nat) (o o' : Obj) (hX : X ≠ l) (hl : W.heap[l]? = some o) (ho : o.isCells = false) : KpX X W (W.putObj l o') := by
 have hr : rowX (W.putObj l o') X = rowX W X := by
  unfold rowX World.cell?
  simp only
  rw [World.putObj_heap_other hX]
 have hs : (W.putObj l o').heap.size = W.heap.size := by simp [World.putObj]
 refine ⟨by omega, fun b cs t f hb hx _ => ?_, fun b hb => .inl (hr ▸ hb), fun h0 b hb => by rw [hs]; exact h0 b (hr ▸ hb)⟩
 have hne : b ≠ l := by
  rintro rfl
  rw [hb] at hl
  cases hl
  cases ho
 exact World.putObj_heap_other hne
theorem KpX.block {X : Nat} {W W' : World} (h : KpX X W W') {b : Nat} {cs : Array Value} {t : TypeId} (hb : BlockAt W b cs t) (hx : b ≠ X) (hr : rowX W X ≠ some b) : BlockAt W' b cs t := ⟨(h.keep b _ _ _ hb.eq hx hr).trans hb.eq⟩
theorem rowX_alloc {W : World} {X : Nat} (o : Obj) (h : X < W.heap.size) : rowX (W.alloc o) X = rowX W X := by
 unfold rowX
 haveI : Old X W := ⟨h⟩
 rw [alloc_cells]
abbrev OvX := Nat × Spn
abbrev encO (x : OvX) : Array Value := #[.int .i64 (x.1 : Int), .agg #[.int .i64 (x.2.b : Int), .int .i64 (x.2.f : Int), .int .i64 (x.2.t : Int)]]
def overK (d : Nat) : List Spn → List OvX
 | [] => []
 | s :: r => (d, s) :: overK (d + (s.t - s.f)) r
theorem overK_snd : ∀ (l : List Spn) (d : Nat), (overK d l).map (·.2) = l
 | [], _ => rfl
 | s :: r, d => by simp [overK, overK_snd r]
def rowOk (X P1 P2 : Nat) (W : World) : Prop := ∀ b, rowX W X = some b → b < W.heap.size ∧ b ≠ P1 ∧ b ≠ P2
theorem over_stops (n : Nat) (hn : 1 ≤ n) (X P1 P2 a c : Nat) (w0 : World) (h1 : BlockAt w0 P1 #[.int .i64 (a : Int)] 3) (h2 : BlockAt w0 P2 #[.int .i64 (c : Int)] 3) (hX : X < w0.heap.size) (x1 : P1 ≠ X) (x2 : P2 ≠ X) (hrow : rowOk X P1 P2 w0) (ha : a ≤ 1048576) (hc : 1 ≤ c) (hc2 : c ≤ 1048576) :
  SeqStopsK Fence.wide n Tryz.prog 104 #[.pointer (some ⟨P1, 0, none⟩), .pointer (some ⟨P2, 0, none⟩)] encO (KpX X) (fun xs => xs = overK 0 (spans a c)) (fun _ => True) (spans a c).length w0 := fun l J Jx W hW hJ hJx hY h0 => by
 have hb1 : BlockAt W P1 #[.int .i64 (a : Int)] 3 := ⟨(hW.block P1 h1.lt).trans h1.eq⟩
 have hb2 : BlockAt W P2 #[.int .i64 (c : Int)] 3 := ⟨(hW.block P2 h2.lt).trans h2.eq⟩
 have hXW : X < W.heap.size := Nat.lt_of_lt_of_le hX hW.size
 have hr0 : rowX W X = rowX w0 X := by
  unfold rowX
  rw [hW.cell (p := ⟨X, 0, none⟩) hX]
 have hrW : rowOk X P1 P2 W := fun b hb => by
  have := hrow b (hr0 ▸ hb)
  exact ⟨Nat.lt_of_lt_of_le this.1 hW.size, this.2⟩
 have y1 : W.cell? ⟨P1, 0, none⟩ = some (.int .i64 (a : Int)) := (bc 0 hb1).trans rfl
 have y2 : W.cell? ⟨P2, 0, none⟩ = some (.int .i64 (c : Int)) := (bc 0 hb2).trans rfl
 have HJ := hd_ hJ
 have HY := hd_ hY
 have H0 := hd_ h0
 have HB1 := hd_ hb1
 have HB2 := hd_ hb2
 have HRW := hd_ hrW
 clear hJ hY h0 hb1 hb2 hr0 hrow h1 h2 hrW hW hJx
 refine callsIn_of_wp Tryz.func104 rfl trivial ?_ rfl
 simp only [Tryz.ntmps104, List.size_toArray, List.length_cons, List.length_nil, Nat.reduceAdd, Nat.reduceSub, Array.replicate_succ, Array.replicate_zero, List.push_toArray, List.append_toArray, List.nil_append, List.cons_append]
 gi_wp2
 gi_loopw [4] (fun i wr => ∃ (pre : List OvX) (d : Nat), i = .int .i64 d ∧ d ≤ c ∧ pre ++ overK d (spans (a + d) (c - d)) = overK 0 (spans a c) ∧ J pre wr ∧ BlockAt wr P1 #[.int .i64 (a : Int)] 3 ∧ BlockAt wr P2 #[.int .i64 (c : Int)] 3 ∧ rowOk X P1 P2 wr ∧ X < wr.heap.size) (fun i _ => c - (intOf i).toNat)
 case atStart => exact ⟨[], 0, rfl, Nat.zero_le _, by simp, H0.out, HB1.out, HB2.out, HRW.out, hXW⟩
 case round =>
  obtain ⟨pre, d, rfl, hd, hpre, hJs, hb1, hb2, hrw, hXr⟩ := hrel
  clear y1 y2
  have y1 : wr.cell? ⟨P1, 0, none⟩ = some (.int .i64 (a : Int)) := (bc 0 hb1).trans rfl
  have y2 : wr.cell? ⟨P2, 0, none⟩ = some (.int .i64 (c : Int)) := (bc 0 hb2).trans rfl
  haveI := hb1.old
  haveI := hb2.old
  by_cases hlt : d < c
  ·have hsp := spans_cons (a + d) (c - d) (by omega)
   obtain ⟨k, hk⟩ : ∃ k, min (4 - (a + d) % 4) (c - d) = k := ⟨_, rfl⟩
   rw [hk] at hsp
   rw [hsp] at hpre
   have hk1 : 1 ≤ k := by omega
   have hk2 : k ≤ c - d := by omega
   have hk4 : (a + d) % 4 + k ≤ 4 := by omega
   have hlen : pre.length < (spans a c).length := by
    have h9 := congrArg List.length hpre
    have h8 := congrArg List.length (overK_snd (spans a c) 0)
    simp [overK] at h9 h8
    omega
   have HP := hd_ hpre
   have HSP := hd_ hsp
   have HK := hd_ hk
   clear hpre hsp hk
   by_cases h4 : ((a : Int) + (d : Int)) % 4 + (c : Int) - (d : Int) < 4
   all_goals
    obtain ⟨T, hT⟩ : ∃ T : Int, T = if ((a : Int) + (d : Int)) % 4 + (c : Int) - (d : Int) < 4 then ((a : Int) + (d : Int)) % 4 + (c : Int) - (d : Int) else 4 := ⟨_, rfl⟩
    first | rw [if_pos h4] at hT | rw [if_neg h4] at hT
    have hE : encO (d, ⟨(a + d) / 4, (a + d) % 4, (a + d) % 4 + k⟩) = #[.int .i64 (d : Int), .agg #[.int .i64 (((a : Int) + (d : Int)) / 4), .int .i64 (((a : Int) + (d : Int)) % 4), .int .i64 T]] := by
     have := HK.out
     unfold encO
     have e3 : (((a + d) % 4 + k : Nat) : Int) = T := by omega
     simp only [e3]
     simp
    have hn1 : n - 1 = n - 1 := rfl
    have hY2 := HY.out pre (d, ⟨(a + d) / 4, (a + d) % 4, (a + d) % 4 + k⟩) (wr.alloc (.cells #[.int .i64 (((a : Int) + (d : Int)) / 4), .int .i64 (((a : Int) + (d : Int)) % 4), .int .i64 T] 107)) (HJ.out _ _ _ none hJs (World.grownBy_alloc wr _ none) (fun r e => by cases e)) hlen
    rw [hE] at hY2
    obtain ⟨fn, tmps, assign, body, hy, hR⟩ := hY2
    have HE := hd_ hE
    clear hE
    subst hT
    gi_wp2
    refine hR.mono ?_
    rintro e W3 (⟨rfl, hJ3, hk3⟩ | ⟨rfl, hJx3⟩)
    ·have hne : ∀ o : Obj, ∀ b, b = P1 ∨ b = P2 ∨ b = wr.heap.size → rowX (wr.alloc o) X ≠ some b := fun o b hb e => by
      rw [rowX_alloc o hXr] at e
      have := hrw b e
      omega
     have hbs := hk3.block (b := wr.heap.size) inferInstance (by omega) (hne _ _ (by simp))
     have hbp1 := hk3.block (b := P1) inferInstance x1 (hne _ _ (by simp))
     have hbp2 := hk3.block (b := P2) inferInstance x2 (hne _ _ (by simp))
     have hsz := hk3.size
     have hro : rowOk X P1 P2 W3 := fun b hb => by
      have hl := hk3.lt (fun b hb => by rw [rowX_alloc _ hXr] at hb; have := hrw b hb; simp; omega) b hb
      rcases hk3.row b hb with h9 | h9
      ·rw [rowX_alloc _ hXr] at h9
       have := hrw b h9
       exact ⟨hl, this.2⟩
      ·have p1 := hb1.lt
       have p2 := hb2.lt
       simp at h9
       exact ⟨hl, by omega, by omega⟩
     have z1 := (bc 1 hbs).trans rfl
     have z2 := (bc 2 hbs).trans rfl
     simp at hsz
     clear hb1 hb2 y1 y2 hy hR hJs hne hk3
     have HS := hd_ hsz
     have HJ3 := hd_ hJ3
     have HRO := hd_ hro
     clear hsz hJ3 hro hrw hbs
     gi_wp2
     go_roundw
     case rel =>
      refine ⟨pre ++ [(d, ⟨(a + d) / 4, (a + d) % 4, (a + d) % 4 + k⟩)], d + k, ?_, by omega, ?_, HJ3.out, hbp1, hbp2, HRO.out, by have := HS.out; omega⟩
      ·have := HK.out
       have e9 : ∀ u v : Int, u = v → Value.int .i64 u = .int .i64 v := fun u v h => by rw [h]
       refine e9 _ _ ?_
       omega
      ·have := HP.out
       rw [← this, List.append_assoc]
       simp only [overK, List.singleton_append, Nat.add_sub_cancel_left, Nat.add_assoc, Nat.sub_sub]
     case measure =>
      have := HK.out
      simp [intOf]; omega
    ·gi_wp2
     refine bodyPost_ret (results_none rfl _ _ _) rfl ?_
     exact ⟨⟨_, rfl⟩, .inr ⟨_, trivial, hJx3⟩⟩
  ·obtain rfl : d = c := by omega
   have e0 : spans (a + d) (d - d) = [] := by rw [Nat.sub_self]; rfl
   rw [e0] at hpre
   have HP := hd_ hpre
   clear hpre e0
   gi_wp2
   go_end0
   exact ⟨⟨_, rfl⟩, .inl ⟨_, by have := HP.out; simpa [overK] using this, hJs⟩⟩
end Go.Proofs.YtddckdhnolmjoaaGreat
namespace Go.Proofs.YtddckdhnolmjoaaGreat
open Go.RowKit Go.Shelf
attribute [local go_sem] Oper.semAt_some
def spE : EK Spn := ⟨fun s => [.int .i64 (s.b : Int), .int .i64 (s.f : Int), .int .i64 (s.t : Int)], 3, 107, 71, 24, .agg #[.int .i64 0, .int .i64 0, .int .i64 0], fun _ => True⟩
theorem spIs : spE.Is where
 len := fun _ _ => rfl
 one := fun x _ v hv => by
  simp only [spE, List.mem_cons, List.mem_nil_iff, or_false] at hv
  rcases hv with rfl | rfl | rfl <;> rfl
 pos := by decide
 hT := Tryz.underlying71
 hE := by kernel_rfl
 hz := rfl
 hb := by decide
section
variable {α : Type} {e : EK α}
def LI (e : EK α) (base X m : Nat) (T : TypeId) (w : World) (f : List OvX → List α) (pre : List OvX) (W : World) : Prop := (∃ v, BlockAt W X #[v] T ∧ OwnN e base W v (f pre)) ∧ Below base w W ∧ m ≤ W.heap.size
theorem LI.own {base X m : Nat} {T : TypeId} {w : World} {f : List OvX → List α} {B : Nat} (hB : base ≤ B) (hw : base ≤ w.heap.size) : OwnFrom B (LI e base X m T w f) := fun s W W' row hs hg hr => by
 obtain ⟨⟨v, hv, ho⟩, hb, hm⟩ := hs
 have hc : ∀ (k : Nat) cs t fz, W.heap[k]? = some (Obj.cells cs t fz) → W'.heap[k]? = W.heap[k]? := fun k cs t fz hk => hg.block k (Array.getElem?_eq_some_iff.1 hk).1 (fun e2 => by
  obtain ⟨_, o, h1, h2⟩ := hr k e2.symm
  rw [hk] at h1; cases h1; cases h2)
 refine ⟨⟨v, ⟨(hc X _ _ _ hv.eq).trans hv.eq⟩, ho.keep fun k hk => ?_⟩, hb.grown hg (Nat.le_trans hw hb.size) (fun k e2 => Nat.le_trans hB (hr k e2).1), Nat.le_trans hm hg.size⟩
 rcases ho.own.2 with ⟨rfl, _⟩ | ⟨g, cap, cur, rfl, _, hh, _⟩
 ·cases hk
 ·have : k = g := by simpa [Value.ownBlock] using hk.symm
  subst this
  exact hc _ _ _ _ hh
theorem kpx_append {base X : Nat} {T : TypeId} {W W2 W3 : World} {v v' : Value} {xs ys : List α} (g : Gr W W2) (hX : BlockAt W X #[v] T) (hT : T ≠ e.E) (h : AppN e base W2 v xs ys v' W3) : KpX X W (W3.setCell ⟨X, 0, none⟩ v') := by
 have hX3 : BlockAt W3 X #[v] T := h.keep X _ _ (hX.gr g) hT
 have hX4 : (W3.setCell ⟨X, 0, none⟩ v').cell? ⟨X, 0, none⟩ = some v' := World.cell?_setCell_same' _ _ _ (by rw [bc 0 hX3]; rfl)
 have hr0 : rowX W X = v.ownBlock := by
  unfold rowX
  rw [bc 0 hX]; rfl
 have hr4 : rowX (W3.setCell ⟨X, 0, none⟩ v') X = v'.ownBlock := by
  unfold rowX
  rw [hX4]; rfl
 have hs4 : (W3.setCell ⟨X, 0, none⟩ v').heap.size = W3.heap.size := by simp [World.setCell]
 have hs2 := g.below.size
 have hs3 := h.size
 refine ⟨by omega, fun b cs t f hb hx hr => ?_, fun b hb => ?_, fun h0 b hb => ?_⟩
 ·have hlt := (Array.getElem?_eq_some_iff.1 hb).1
  rw [hr0] at hr
  rw [Below.heap_setCell W3 ⟨X, 0, none⟩ v' b hx, h.gb.block b (by omega) (fun e2 => hr e2.symm), g.below.block b hlt]
 ·rw [hr4] at hb
  rw [hr0]
  rcases h.row b hb with h9 | h9
  ·exact .inl h9
  ·exact .inr (by omega)
 ·rw [hr4] at hb
  rw [hs4]
  exact (h.own.lt b hb).2
end
theorem kpx_gr {X : Nat} {W W' : World} (g : Gr W W') (hX : X < W.heap.size) : KpX X W W' := by
 have hr : rowX W' X = rowX W X := by
  unfold rowX
  rw [g.below.cell (p := ⟨X, 0, none⟩) hX]
 exact ⟨g.below.size, fun b cs t f hb _ _ => g.below.block b (Array.getElem?_eq_some_iff.1 hb).1, fun b hb => .inl (hr ▸ hb), fun h0 b hb => Nat.lt_of_lt_of_le (h0 b (hr ▸ hb)) g.below.size⟩
theorem KeepsOthers.of_gr {W W' : World} (g : Gr W W') : KeepsOthers W W' := ⟨g.below.size, fun k o hk _ => (g.below.block k (Array.getElem?_eq_some_iff.1 hk).1).trans hk⟩
theorem KeepsOthers.of_app {α : Type} {e : EK α} {base : Nat} {W W' : World} {v v' : Value} {xs ys : List α} (h : AppN e base W v xs ys v' W') : KeepsOthers W W' := ⟨h.size, fun k o hk ho => (h.block k (Array.getElem?_eq_some_iff.1 hk).1 (fun cs f h2 => by rw [hk] at h2; cases h2; cases ho)).trans hk⟩
theorem OwnN.cellsBlock {α : Type} {e : EK α} {base : Nat} {W : World} {v : Value} {xs : List α} (h : OwnN e base W v xs) : ∀ k, v.ownBlock = some k → ∃ cs, W.heap[k]? = some (Obj.cells cs e.E (0, 0)) := fun k hk => by
 rcases h.own.2 with ⟨rfl, _⟩ | ⟨g, cap, cur, rfl, _, hh, _⟩
 ·cases hk
 ·have : k = g := by simpa [Value.ownBlock] using hk.symm
  subst this
  exact ⟨_, hh⟩
theorem OwnN.put {α : Type} {e : EK α} {base : Nat} {W : World} {v : Value} {xs : List α} (h : OwnN e base W v xs) (D : Nat) (o o' : Obj) (hD : W.heap[D]? = some o) (ho : o.isCells = false) : OwnN e base (W.putObj D o') v xs := h.keep fun k hk => by
 obtain ⟨cs, hh⟩ := h.cellsBlock k hk
 refine World.putObj_heap_other fun e2 => ?_
 subst e2
 rw [hh] at hD
 cases hD
 cases ho
theorem wpIn_append_n {α : Type} {e : EK α} {base : Nat} {W : World} {v : Value} {xs : List α} {F : Fence} {n : Nat} (he : e.Is) {ops : Array Oper} {rest : List Oper} {o : Oper} {a : Act} {Q : Exit → Act → World → Prop} (hgd : o.guard = none) (s x : Operand)
  (ho : o.op = .call { callee := .builtin .append, args := #[s, x], argTypes := #[e.T, e.T] })
  (hs : a.eval s = v) (hown : OwnN e base W v xs) (b p : Nat) (ys : List α) (m c : Nat) (hm : ys.length = m) (hx : a.eval x = .slice (some ⟨b, p, none⟩) m c)
  (hys : ∀ y ∈ ys, e.ok y) (hc : CellsN e W b p ys) (hlen : xs.length + ys.length ≤ 100000000) (hbase : base ≤ W.heap.size) (hp : 0 < ys.length)
  (h : ∀ v' W', AppN e base W v xs ys v' W' → wpListIn F n Tryz.prog ops Q rest (a.put o.dst v') W') : wpListIn F n Tryz.prog ops Q (o :: rest) a W := by
 subst hm
 refine wpListIn_plain hgd fun K hK' => ?_
 obtain ⟨v', W', hrun, happ⟩ := run_append_n he o.type hown b p ys c hys hc hlen hbase hp
 unfold Oper.wpIn
 refine ⟨?_, ?_⟩
 ·simp [Oper.about, ho, resolve, Target.leads, Sem.run_pure]
 ·rw [Oper.semAt_plain F _ _ (by rw [ho]; intro c hc'; cases hc')]
  simp [execOp, ho, resolve, invoke, builtin, hs, hx, hrun, Result.andThen]
  exact hK' _ _ (h v' W' happ)
theorem over_any (a c : Int) (w : World) : Calls Tryz.prog 77 #[.int .i64 a, .int .i64 c] w fun e w' => e = .returned (.func (.func 104) #[] #[.pointer (some ⟨w.heap.size, 0, none⟩), .pointer (some ⟨w.heap.size + 1, 0, none⟩)]) ∧ w' = (w.alloc (.cells #[.int .i64 a] 3)).alloc (.cells #[.int .i64 c] 3) := by
 go_enter Tryz.func77, Tryz.ntmps77
 go_wp2
 go_ret
 exact ⟨rfl, rfl⟩
theorem split_any (a c : Nat) (ha : a ≤ 1048576) (hc : 1 ≤ c) (hc2 : c ≤ 1048576) (w : World) : Calls Tryz.prog 74 #[.int .i64 (a : Int), .int .i64 (c : Int)] w fun e w' => ∃ v, e = .returned v ∧ OwnN spE w.heap.size w' v (spans a c) ∧ Gr w w' := by
 refine (callsIn_wide (n := 3)).1 ?_
 have h1 : 1 ≤ 3 := by omega
 refine callsIn_of_wp_marks Tryz.func74 rfl trivial ?_ rfl
 simp only [Tryz.ntmps74, List.size_toArray, List.length_cons, List.length_nil, Nat.reduceAdd, Nat.reduceSub, Array.replicate_succ, Array.replicate_zero, List.push_toArray, List.append_toArray, List.nil_append, List.cons_append]
 have hnf : ∀ (W : World) (A : Array Value), (binOp .eql 155 (.func (.func 104) #[] A) .nilFunc).run Tryz.prog W = .ok (.bool false) W := fun W A => by kernel_rfl
 gi_wp2_with (refine ⟨trivial, ?_⟩; gi_at_call 77; refine (callsIn_wide.2 (over_any _ _ _)).mono ?_; rintro e w' ⟨rfl, rfl⟩)
 obtain ⟨W0, hW0⟩ : ∃ W0, ((w.alloc (.cells #[.slice none 0 0] 71)).alloc (.cells #[.int .i64 (a : Int)] 3)).alloc (.cells #[.int .i64 (c : Int)] 3) = W0 := ⟨_, rfl⟩
 have hs0 : W0.heap.size = w.heap.size + 1 + 1 + 1 := by rw [← hW0]; simp
 have hbX : BlockAt W0 w.heap.size #[.slice none 0 0] 71 := by rw [← hW0]; infer_instance
 have hb1 : BlockAt W0 (w.heap.size + 1) #[.int .i64 (a : Int)] 3 := by rw [← hW0]; infer_instance
 have hb2 : BlockAt W0 (w.heap.size + 1 + 1) #[.int .i64 (c : Int)] 3 := by rw [← hW0]; infer_instance
 have hg0 : Gr w W0 := by rw [← hW0]; exact gri
 rw [hW0]
 have hrX : rowOk w.heap.size (w.heap.size + 1) (w.heap.size + 1 + 1) W0 := fun b hb => by
  unfold rowX at hb
  rw [bc 0 hbX] at hb
  cases hb
 refine wpIn_rangeFunc_ownH (F := Fence.wide) (n := 3) rfl h1 (gf := 104) (lb := #[.pointer (some ⟨w.heap.size + 1, 0, none⟩), .pointer (some ⟨w.heap.size + 1 + 1, 0, none⟩)]) rfl trivial (enters_of Tryz.func104 (by kernel_rfl) rfl)
  (over_stops (3 - 1) (by omega) w.heap.size (w.heap.size + 1) (w.heap.size + 1 + 1) a c W0 hb1 hb2 (by omega) (by omega) (by omega) hrX ha hc hc2) (fun h k => h.trans k) (fun W l o o' hl ho hc' _ => KpX.putObj W l o o' (by omega) ho hc') (Below.refl _ _) (fun _ => rfl)
  (LI spE w.heap.size w.heap.size W0.heap.size 71 w (fun pre => pre.map (·.2))) (fun _ _ _ => False) (LI.own (by omega) (Nat.le_refl _)) (fun _ _ _ _ _ h _ _ => h.elim) ⟨⟨_, hbX, OwnN.nil _ _⟩, hg0.below, Nat.le_refl _⟩
  (fun x a' W => ∃ Bx, w.heap.size + 1 + 1 < Bx ∧ BlockAt W Bx #[.int .i64 (x.2.b : Int), .int .i64 (x.2.f : Int), .int .i64 (x.2.t : Int)] 107 ∧ a' = { tmps := #[.int .i64 (a : Int), .int .i64 (c : Int), undef, undef, .slice none 0 0, .pointer (some ⟨w.heap.size, 0, none⟩), undef, .pointer (some ⟨Bx, 0, none⟩), .int .i64 (a : Int), .int .i64 (c : Int), .func (.func 104) #[] #[.pointer (some ⟨w.heap.size + 1, 0, none⟩), .pointer (some ⟨w.heap.size + 1 + 1, 0, none⟩)], .int .i64 (x.1 : Int), .agg #[.int .i64 (x.2.b : Int), .int .i64 (x.2.f : Int), .int .i64 (x.2.t : Int)], undef, undef, undef, undef, undef], defers := [] })
  (fun x a' s W W' row hs hg hr => ?hax) ?assign ?body ?done ?stop
 case hax =>
  obtain ⟨Bx, hlt, hbx, ha'⟩ := hs
  refine ⟨Bx, hlt, ⟨(hg.block Bx hbx.lt (fun e2 => ?_)).trans hbx.eq⟩, ha'⟩
  obtain ⟨_, o, h1, h2⟩ := hr Bx e2.symm
  rw [hbx.eq] at h1; cases h1; cases h2
 case assign =>
  rintro l pre x W K ⟨⟨v, hv, ho⟩, hb, hm⟩ hK
  have hlt := hv.lt
  have hsz := hb.size
  gi_wp2
  exact hK _ _ ((KeepsOthers.alloc _ _).from _) (kpx_gr gri hlt) ⟨⟨v, hv.gr gri, ho.gr gri⟩, hb.alloc hsz _, by simp; omega⟩ ⟨W.heap.size, by omega, inferInstance, rfl⟩
 case body =>
  rintro l pre x a' W hl ⟨r, hr⟩ ⟨⟨v, hv, ho⟩, hb, hm⟩ ⟨Bx, hlt, hbx, rfl⟩ hN
  have x0 : W.cell? ⟨w.heap.size, 0, none⟩ = some v := (bc 0 hv).trans rfl
  have u0 : W.frozen? ⟨w.heap.size, 0, none⟩ = false := @block_frozen _ _ 0 _ _ hv
  have y0 : W.cell? ⟨Bx, 0, none⟩ = some (.int .i64 (x.2.b : Int)) := (bc 0 hbx).trans rfl
  have y1 : W.cell? ⟨Bx, 1, none⟩ = some (.int .i64 (x.2.f : Int)) := (bc 1 hbx).trans rfl
  have y2 : W.cell? ⟨Bx, 2, none⟩ = some (.int .i64 (x.2.t : Int)) := (bc 2 hbx).trans rfl
  haveI := hv.old
  haveI := hbx.old
  have hsz := hb.size
  have hsl := spans_len a c
  have HV := hd_ hv
  have HO := hd_ ho
  have HB := hd_ hb
  have HL : Hid (pre.length ≤ 2000000) := hd_ (by omega)
  have HSZ := hd_ hsz
  clear hv ho hb hbx hr hN hsl hsz hbX hb1 hb2 hg0 hrX hW0
  gi_wp2_with (first | (gi_at_builtin; refine wpIn_append_n (v := v) spIs rfl _ _ rfl rfl (HO.out.gr gri) _ 0 [x.2] 1 1 rfl rfl (fun _ _ => trivial) (CellsN.block _ inferInstance rfl) (by have := HL.out; simp; omega) (by have := HSZ.out; simp; omega) (by simp) ?_; intro v1 W1 h1; obtain ⟨A1, c1, hv1, _, _, _⟩ := h1.own.form spIs; simp only [List.length_append, List.length_map, List.length_cons, List.length_nil, Nat.zero_add] at hv1; subst hv1; have H1 := hd_ h1; clear h1; have z0 := (bc 0 (H1.out.keep _ _ _ (HV.out.gr gri) (by decide))).trans rfl; have zf := @block_frozen _ _ 0 _ _ (H1.out.keep _ _ _ (HV.out.gr gri) (by decide))))
  haveI hX1 := H1.out.keep _ _ _ (HV.out.gr gri) (by decide)
  refine ⟨(((KeepsOthers.of_gr (gri : Gr W _)).trans (KeepsOthers.of_app H1.out)).trans (KeepsOthers.setCell _ _ _)).from _, kpx_append (e := spE) gri HV.out (by decide) H1.out, ⟨(.slice A1 (pre.length + 1) c1 : Value), ?blk, ?own⟩, ?bel, ?siz⟩
  case blk =>
   show BlockAt _ _ (#[v].setIfInBounds 0 _) _
   infer_instance
  case own =>
   have h9 := H1.out.own.set_ w.heap.size 0 (.slice A1 (pre.length + 1) c1) (by decide)
   show OwnN spE w.heap.size _ _ ((pre ++ [x]).map (·.2))
   rw [List.map_append]
   exact h9
  case bel =>
   exact ((HB.out.alloc HSZ.out _).trans (H1.out.below)).setCell (p := ⟨w.heap.size, 0, none⟩) (Nat.le_refl _) _
  case siz =>
   have := H1.out.size
   simp [World.setCell] at this ⊢
   omega
 case done =>
  rintro D ys W hD hS ⟨⟨v, hv, ho⟩, hb, hm⟩ hK
  have x0 : W.cell? ⟨w.heap.size, 0, none⟩ = some v := (bc 0 hv).trans rfl
  have hS2 : ys = overK 0 (spans a c) := hS
  subst hS2
  have ho2 : OwnN spE w.heap.size W v (spans a c) := by
   have := ho
   rw [show (fun pre : List OvX => pre.map (·.2)) (overK 0 (spans a c)) = spans a c from overK_snd _ _] at this
   exact this
  have HO := hd_ ho2
  have HB := hd_ hb
  have HV := hd_ hv
  clear ho ho2 hb hv hbX hb1 hb2 hg0 hrX hW0
  gi_wp2
  refine ⟨by simp, .inl ⟨_, _, rfl, run_takeDeferred hK, ?_⟩⟩
  exact ⟨_, results_tmp rfl _ _ _, v, rfl, HO.out.put D _ _ hK rfl, Gr.of (HB.out.trans (belowK_b (Nat.le_refl _) W D _ _ (by omega) hK rfl rfl))⟩
 case stop =>
  rintro D c pre W hD _ h _
  exact h.elim
end Go.Proofs.YtddckdhnolmjoaaGreat
namespace Go.Proofs.YtddckdhnolmjoaaGreat
open Go.RowKit Go.Shelf
attribute [local go_sem] Oper.semAt_some
def LN (base X m : Nat) (w : World) (pre : List OvX) (W : World) : Prop := BlockAt W X #[.int .i64 (pre.length : Int)] 3 ∧ Below base w W ∧ m ≤ W.heap.size
theorem LN.own {base X m : Nat} {w : World} {B : Nat} (hB : base ≤ B) (hw : base ≤ w.heap.size) : OwnFrom B (LN base X m w) := fun s W W' row hs hg hr => by
 obtain ⟨hv, hb, hm⟩ := hs
 refine ⟨⟨(hg.block X hv.lt (fun e2 => ?_)).trans hv.eq⟩, hb.grown hg (Nat.le_trans hw hb.size) (fun k e2 => Nat.le_trans hB (hr k e2).1), Nat.le_trans hm hg.size⟩
 obtain ⟨_, o, h1, h2⟩ := hr X e2.symm
 rw [hv.eq] at h1; cases h1; cases h2
theorem blk_to {W : World} {B : Nat} {cs cs' : Array Value} {t : TypeId} (h : BlockAt W B cs t) (e : cs = cs') : BlockAt W B cs' t := e ▸ h
theorem kpx_refl (X : Nat) (W : World) : KpX X W W := ⟨Nat.le_refl _, fun _ _ _ _ _ _ _ => rfl, fun _ h => .inl h, fun h => h⟩
theorem kpx_int {X : Nat} {W : World} {q : IntKind} {n n' : Int} {T : TypeId} (hX : BlockAt W X #[.int q n] T) : KpX X W (W.setCell ⟨X, 0, none⟩ (.int q n')) := by
 have h4 : (W.setCell ⟨X, 0, none⟩ (.int q n')).cell? ⟨X, 0, none⟩ = some (.int q n') := World.cell?_setCell_same' _ _ _ (by rw [bc 0 hX]; rfl)
 have hr : ∀ b, rowX (W.setCell ⟨X, 0, none⟩ (.int q n')) X ≠ some b := fun b e => by
  unfold rowX at e
  rw [h4] at e
  cases e
 refine ⟨by simp [World.setCell], fun b cs t f hb hx _ => Below.heap_setCell W ⟨X, 0, none⟩ _ b hx, fun b hb => absurd hb (hr b), fun _ b hb => absurd hb (hr b)⟩
theorem blocks_any (a c : Nat) (ha : a ≤ 1048576) (hc : 1 ≤ c) (hc2 : c ≤ 1048576) (w : World) : Calls Tryz.prog 60 #[.int .i64 (a : Int), .int .i64 (c : Int)] w fun e w' => e = .returned (.int .i64 ((spans a c).length : Int)) ∧ Gr w w' := by
 refine (callsIn_wide (n := 3)).1 ?_
 have h1 : 1 ≤ 3 := by omega
 refine callsIn_of_wp_marks Tryz.func60 rfl trivial ?_ rfl
 simp only [Tryz.ntmps60, List.size_toArray, List.length_cons, List.length_nil, Nat.reduceAdd, Nat.reduceSub, Array.replicate_succ, Array.replicate_zero, List.push_toArray, List.append_toArray, List.nil_append, List.cons_append]
 have hnf : ∀ (W : World) (A : Array Value), (binOp .eql 155 (.func (.func 104) #[] A) .nilFunc).run Tryz.prog W = .ok (.bool false) W := fun W A => by kernel_rfl
 gi_wp2_with (refine ⟨trivial, ?_⟩; gi_at_call 77; refine (callsIn_wide.2 (over_any _ _ _)).mono ?_; rintro e w' ⟨rfl, rfl⟩)
 obtain ⟨W0, hW0⟩ : ∃ W0, ((w.alloc (.cells #[.int .i64 0] 3)).alloc (.cells #[.int .i64 (a : Int)] 3)).alloc (.cells #[.int .i64 (c : Int)] 3) = W0 := ⟨_, rfl⟩
 have hs0 : W0.heap.size = w.heap.size + 1 + 1 + 1 := by rw [← hW0]; simp
 have hbX : BlockAt W0 w.heap.size #[.int .i64 0] 3 := by rw [← hW0]; infer_instance
 have hb1 : BlockAt W0 (w.heap.size + 1) #[.int .i64 (a : Int)] 3 := by rw [← hW0]; infer_instance
 have hb2 : BlockAt W0 (w.heap.size + 1 + 1) #[.int .i64 (c : Int)] 3 := by rw [← hW0]; infer_instance
 have hg0 : Gr w W0 := by rw [← hW0]; exact gri
 rw [hW0]
 have hrX : rowOk w.heap.size (w.heap.size + 1) (w.heap.size + 1 + 1) W0 := fun b hb => by
  unfold rowX at hb
  rw [bc 0 hbX] at hb
  cases hb
 refine wpIn_rangeFunc_ownH (F := Fence.wide) (n := 3) rfl h1 (gf := 104) (lb := #[.pointer (some ⟨w.heap.size + 1, 0, none⟩), .pointer (some ⟨w.heap.size + 1 + 1, 0, none⟩)]) rfl trivial (enters_of Tryz.func104 (by kernel_rfl) rfl)
  (over_stops (3 - 1) (by omega) w.heap.size (w.heap.size + 1) (w.heap.size + 1 + 1) a c W0 hb1 hb2 (by omega) (by omega) (by omega) hrX ha hc hc2) (fun h k => h.trans k) (fun W l o o' hl ho hc' _ => KpX.putObj W l o o' (by omega) ho hc') (Below.refl _ _) (fun _ => rfl)
  (LN w.heap.size w.heap.size W0.heap.size w) (fun _ _ _ => False) (LN.own (by omega) (Nat.le_refl _)) (fun _ _ _ _ _ h _ _ => h.elim) ⟨hbX, hg0.below, Nat.le_refl _⟩
  (fun x a' W => a' = { tmps := #[.int .i64 (a : Int), .int .i64 (c : Int), undef, undef, .int .i64 0, .pointer (some ⟨w.heap.size, 0, none⟩), .int .i64 (a : Int), .int .i64 (c : Int), .func (.func 104) #[] #[.pointer (some ⟨w.heap.size + 1, 0, none⟩), .pointer (some ⟨w.heap.size + 1 + 1, 0, none⟩)], .int .i64 (x.1 : Int), .agg #[.int .i64 (x.2.b : Int), .int .i64 (x.2.f : Int), .int .i64 (x.2.t : Int)], undef, undef, undef], defers := [] })
  (fun x a' s W W' row hs hg hr => hs) ?assign ?body ?done ?stop
 case assign =>
  rintro l pre x W K ⟨hv, hb, hm⟩ hK
  gi_wp2
  exact hK _ _ ((KeepsOthers.refl _).from _) (kpx_refl _ _) ⟨hv, hb, hm⟩ (by first | (simp [encO]; done) | kernel_rfl)
 case body =>
  rintro l pre x a' W hl ⟨r, hr⟩ ⟨hv, hb, hm⟩ rfl hN
  have x0 : W.cell? ⟨w.heap.size, 0, none⟩ = some (.int .i64 (pre.length : Int)) := (bc 0 hv).trans rfl
  have u0 : W.frozen? ⟨w.heap.size, 0, none⟩ = false := @block_frozen _ _ 0 _ _ hv
  haveI := hv
  haveI := hv.old
  have hsz := hb.size
  have hsl := spans_len a c
  have hpl : pre.length ≤ 2000000 := by omega
  have HV := hd_ hv
  have HB := hd_ hb
  have HSZ := hd_ hsz
  have HM := hd_ hm
  clear hv hb hr hN hsl hsz hbX hb1 hb2 hg0 hrX hW0 hm
  gi_wp2
  refine ⟨((KeepsOthers.setCell _ _ _)).from _, kpx_int HV.out, ?blk, ?bel, ?siz⟩
  case blk =>
   show BlockAt _ _ #[.int .i64 (((pre ++ [x]).length : Nat) : Int)] _
   rw [List.length_append, List.length_singleton]
   exact blk_to inferInstance (by simp)
  case bel => exact HB.out.setCell (p := ⟨w.heap.size, 0, none⟩) (Nat.le_refl _) _
  case siz => have := HM.out; simp [World.setCell] at this ⊢; omega
 case done =>
  rintro D ys W hD hS ⟨hv, hb, hm⟩ hK
  have hS2 : ys = overK 0 (spans a c) := hS
  subst hS2
  have hl : (overK 0 (spans a c)).length = (spans a c).length := by have := congrArg List.length (overK_snd (spans a c) 0); rwa [List.length_map] at this
  rw [hl] at hv
  have x0 : W.cell? ⟨w.heap.size, 0, none⟩ = some (.int .i64 ((spans a c).length : Int)) := (bc 0 hv).trans rfl
  haveI := hv.old
  have HB := hd_ hb
  clear hv hb hbX hb1 hb2 hg0 hrX hW0 hl
  gi_wp2
  refine ⟨by simp, .inl ⟨_, _, rfl, run_takeDeferred hK, ?_⟩⟩
  exact ⟨_, results_tmp rfl _ _ _, rfl, Gr.of (HB.out.trans (belowK_b (Nat.le_refl _) W D _ _ (by omega) hK rfl rfl))⟩
 case stop =>
  rintro D c pre W hD _ h _
  exact h.elim
end Go.Proofs.YtddckdhnolmjoaaGreat
namespace Go.Proofs.YtddckdhnolmjoaaGreat
open Go.RowKit
section
variable {P : Program} {ops : Array Oper} {md : Region.Mode} {W : World}
def calmUpon (P : Program) (w : World) (v : Value) : Result Next → Prop
 | .ok (.value u) w' => w' = w ∧ u = v
 | .ok .skip w' => w' = w ∧ v = undef
 | .ok (.enter f args) w' => w' = w ∧ Calls P f args w (fun e w'' => e = .returned v ∧ Gr w w'')
 | _ => False
def calmAt (P : Program) (o : Oper) (a : Act) (w : World) (v : Value) : Prop := calmUpon P w v ((execOp a.eval o).run P w)
def calm (P : Program) (o : Oper) (a : Act) (W : World) (next : Act → Prop) : Prop := ∃ v, (∀ g : Growth W, calmAt P o a (grown W g) v) ∧ next (a.put o.dst v)
attribute [go_sem] calmUpon calmAt calm
def wpCalm (P : Program) (ops : Array Oper) (W : World) (Q : Act → Prop) : List Oper → Act → Prop
 | [], a => Q a
 | o :: rest, a => if Region.wanted o (yielded ops a.tmps) then calm P o a W (wpCalm P ops W Q rest) else wpCalm P ops W Q rest (a.put o.dst undef)
theorem wpCalm_nil {Q : Act → Prop} {a : Act} (h : Q a) : wpCalm P ops W Q [] a := h
theorem wpCalm_step {Q : Act → Prop} {a : Act} {o : Oper} {rest : List Oper}
  (h : ∀ K : Act → Prop, (∀ a, wpCalm P ops W Q rest a → K a) → if Region.wanted o (yielded ops a.tmps) then calm P o a W K else K (a.put o.dst undef)) : wpCalm P ops W Q (o :: rest) a :=
 h _ (fun _ h => h)
def CalmOp (P : Program) (ops : Array Oper) (W : World) (o : Oper) (v : Value) (a : Act) : Prop :=
 (Region.wanted o (yielded ops a.tmps) = true ∧ ∀ g : Growth W, calmAt P o a (grown W g) v) ∨ (Region.wanted o (yielded ops a.tmps) = false ∧ v = undef)
def AllocOp (P : Program) (ops : Array Oper) (o : Oper) (mk : Nat → Value) (zs : Array Value) (T : TypeId) (a : Act) : Prop :=
 Region.wanted o (yielded ops a.tmps) = true ∧ ∀ w, (execOp a.eval o).run P w = .ok (.value (mk w.heap.size)) (w.alloc (.cells zs T))
abbrev Blocks := List (Nat × Array Value × TypeId)
def aOp (P : Program) (ops : Array Oper) (W : World) (i : Nat) (K : Blocks → Act → Prop) (bs : Blocks) (a : Act) : Prop :=
 ∃ o, ops[i]? = some o ∧ ∃ mk zs T, AllocOp P ops o mk zs T a ∧ ∀ b, W.heap.size ≤ b → (∀ x ∈ bs, x.1 ≠ b) → K ((b, zs, T) :: bs) (a.put o.dst (mk b))
def mOp (P : Program) (ops : Array Oper) (W : World) (i : Nat) (K : Blocks → Act → Prop) (bs : Blocks) (a : Act) : Prop :=
 (∃ o, ops[i]? = some o ∧ ∃ v, CalmOp P ops W o v a ∧ K bs (a.put o.dst v)) ∨ aOp P ops W i K bs a
theorem aOp_mono {i : Nat} {K K' : Blocks → Act → Prop} {bs : Blocks} {a : Act} (h : ∀ bs a, K bs a → K' bs a) (hh : aOp P ops W i K bs a) : aOp P ops W i K' bs a :=
 let ⟨o, ho, mk, zs, T, hA, hk⟩ := hh; ⟨o, ho, mk, zs, T, hA, fun b h1 h2 => h _ _ (hk b h1 h2)⟩
theorem mOp_mono {i : Nat} {K K' : Blocks → Act → Prop} {bs : Blocks} {a : Act} (h : ∀ bs a, K bs a → K' bs a) (hh : mOp P ops W i K bs a) : mOp P ops W i K' bs a :=
 hh.imp (fun ⟨o, ho, v, hv, hk⟩ => ⟨o, ho, v, hv, h _ _ hk⟩) (aOp_mono h)
theorem CalmOp.put {o oj : Oper} {v u : Value} {a : Act} (hs : ∀ cs b, o.op ≠ .select cs b) (h3 : ∀ d, oj.dst = some d → d ∉ o.looksAt ops) (h : CalmOp P ops W o v a) : CalmOp P ops W o v (a.put oj.dst u) := by
 unfold CalmOp calmAt at *
 rw [execOp_put o hs a oj.dst u h3, wanted_put o a oj.dst u h3]
 exact h
theorem CalmOp.unput {o oj : Oper} {v u : Value} {a : Act} (hs : ∀ cs b, o.op ≠ .select cs b) (h3 : ∀ d, oj.dst = some d → d ∉ o.looksAt ops) (h : CalmOp P ops W o v (a.put oj.dst u)) : CalmOp P ops W o v a := by
 unfold CalmOp calmAt at *
 rw [execOp_put o hs a oj.dst u h3, wanted_put o a oj.dst u h3] at h
 exact h
theorem AllocOp.put {o oj : Oper} {mk : Nat → Value} {zs : Array Value} {T : TypeId} {u : Value} {a : Act} (hs : ∀ cs b, o.op ≠ .select cs b) (h3 : ∀ d, oj.dst = some d → d ∉ o.looksAt ops) (h : AllocOp P ops o mk zs T a) : AllocOp P ops o mk zs T (a.put oj.dst u) := by
 unfold AllocOp at *
 rw [execOp_put o hs a oj.dst u h3, wanted_put o a oj.dst u h3]
 exact h
theorem AllocOp.unput {o oj : Oper} {mk : Nat → Value} {zs : Array Value} {T : TypeId} {u : Value} {a : Act} (hs : ∀ cs b, o.op ≠ .select cs b) (h3 : ∀ d, oj.dst = some d → d ∉ o.looksAt ops) (h : AllocOp P ops o mk zs T (a.put oj.dst u)) : AllocOp P ops o mk zs T a := by
 unfold AllocOp at *
 rw [execOp_put o hs a oj.dst u h3, wanted_put o a oj.dst u h3] at h
 exact h
def MixWorld (W : World) (bs : Blocks) (w : World) : Prop := Gr W w ∧ ∀ x ∈ bs, w.heap[x.1]? = some (.cells x.2.1 x.2.2)
theorem MixWorld.grow {bs : Blocks} {w w' : World} (h : MixWorld W bs w) (hg : Gr w w') : MixWorld W bs w' :=
 ⟨h.1.trans hg, fun x hx => by
  have h1 := h.2 x hx
  have hlt : x.1 < w.heap.size := (Array.getElem?_eq_some_iff.1 h1).1
  rw [hg.below.block x.1 hlt]; exact h1⟩
theorem mOp_put {j : Nat} {oi oj : Oper} {v : Value} (hj : ops[j]? = some oj) (hap : oi.apart ops oj = true)
  (hsi : ∀ cs b, oi.op ≠ .select cs b) (hsj : ∀ cs b, oj.op ≠ .select cs b) {K : Blocks → Act → Prop} {bs : Blocks} {a : Act}
  (hy : CalmOp P ops W oi v a) (h : mOp P ops W j K bs (a.put oi.dst v)) :
  mOp P ops W j (fun bs' a' => CalmOp P ops W oi v a' ∧ K bs' (a'.put oi.dst v)) bs a := by
 obtain ⟨h1, h2, h3⟩ := Oper.apart_spec hap
 rcases h with ⟨o, ho, u, hu, hk⟩ | ⟨o, ho, mk, zs, T, hA, hk⟩
 ·obtain rfl : o = oj := Option.some.inj (ho.symm.trans hj)
  exact .inl ⟨o, hj, u, hu.unput hsj h1, hy.put hsi h3, by rw [← Act.put_comm a v u h2]; exact hk⟩
 ·obtain rfl : o = oj := Option.some.inj (ho.symm.trans hj)
  exact .inr ⟨o, hj, mk, zs, T, hA.unput hsj h1, fun b hb hn => ⟨hy.put hsi h3, by rw [← Act.put_comm a v _ h2]; exact hk b hb hn⟩⟩
def wpLay (P : Program) (ops : Array Oper) (W : World) (Q : Blocks → Act → Prop) : List Oper → Blocks → Act → Prop
 | [], bs, a => Q bs a
 | o :: r, bs, a => ∃ mk zs T, AllocOp P ops o mk zs T a ∧ ∀ b, W.heap.size ≤ b → (∀ x ∈ bs, x.1 ≠ b) → wpLay P ops W Q r ((b, zs, T) :: bs) (a.put o.dst (mk b))
def pick (l : List Oper) : List Nat → List Oper
 | [] => []
 | k :: r => (l.drop k).take 1 ++ pick l r
theorem pick_cons {l : List Oper} {k : Nat} {r : List Nat} {o : Oper} (h : l[k]? = some o) : pick l (k :: r) = o :: pick l r := by
 obtain ⟨hl, hv⟩ := List.getElem?_eq_some_iff.1 h
 simp [pick, List.drop_eq_getElem_cons hl, hv]
section
variable {l : List Oper} {n g : Nat} {Lq : Blocks → Act → Prop}
end
/-! A region all of whose operations read, compute, call functions that only make new memory, lay a new block, or store into one laid here, whole. -/
section
def sOp (P : Program) (ops : Array Oper) (W : World) (i : Nat) (K : Blocks → Act → Prop) (bs : Blocks) (a : Act) : Prop :=
 ∃ o, ops[i]? = some o ∧ ∃ ty x y b zs T cs, o.op = .store ty x y ∧ o.guard = none ∧ a.eval x = .pointer (some ⟨b, 0, none⟩) ∧ (b, zs, T) ∈ bs ∧ (∀ z ∈ bs, z.1 = b → z.2.2 = T) ∧ W.heap.size ≤ b ∧ (a.eval y).cells = cs ∧
  (P.info? ty).map (·.size) = some cs.size ∧ zs.size = cs.size ∧ cs.toList.all (·.oneCell') = true ∧ ∀ bs', (∀ z, z ∈ bs' ↔ z = (b, cs, T) ∨ (z ∈ bs ∧ z.1 ≠ b)) → K bs' (a.put o.dst undef)
theorem sOp_mono {i : Nat} {K K' : Blocks → Act → Prop} {bs : Blocks} {a : Act} (h : ∀ bs a, K bs a → K' bs a) (hh : sOp P ops W i K bs a) : sOp P ops W i K' bs a := by
 obtain ⟨o, ho, ty, x, y, b, zs, T, cs, h1, h2, h3, h4, hu, h5, h6, h7, h8, h9, hk⟩ := hh
 exact ⟨o, ho, ty, x, y, b, zs, T, cs, h1, h2, h3, h4, hu, h5, h6, h7, h8, h9, fun bs' hb => h _ _ (hk bs' hb)⟩
def tOp (P : Program) (ops : Array Oper) (W : World) (i : Nat) (K : Blocks → Act → Prop) (bs : Blocks) (a : Act) : Prop := mOp P ops W i K bs a ∨ sOp P ops W i K bs a
theorem tOp_mono {i : Nat} {K K' : Blocks → Act → Prop} {bs : Blocks} {a : Act} (h : ∀ bs a, K bs a → K' bs a) (hh : tOp P ops W i K bs a) : tOp P ops W i K' bs a := hh.imp (mOp_mono h) (sOp_mono h)
def allAny (P : Program) (md : Region.Mode) (ops : Array Oper) (W : World) (L : Blocks → Act → Prop) : Nat → Array Bool → Blocks → Act → Prop
 | 0, listed, bs, a => Region.ready md ops listed = [] ∧ L bs a
 | f + 1, listed, bs, a => (Region.ready md ops listed = [] → L bs a) ∧ ∀ i ∈ Region.ready md ops listed, tOp P ops W i (allAny P md ops W L f (listed.setIfInBounds i true)) bs a
theorem allAny_any {L : Blocks → Act → Prop} {Q' : Exit → Act → World → Prop} (hL : ∀ bs a w, MixWorld W bs w → L bs a → Q' .normal a w) :
  ∀ (f : Nat) (listed : Array Bool) (bs : Blocks) (a : Act) (w : World), MixWorld W bs w → allAny P md ops W L f listed bs a → wpAny P md ops Q' f listed a w
 | 0, listed, bs, a, w, hw, h => ⟨h.1, hL _ _ _ hw h.2⟩
 | f + 1, listed, bs, a, w, hw, h => by
  refine ⟨fun h0 => hL _ _ _ hw (h.1 h0), fun i hi => ?_⟩
  unfold wpOp
  rcases h.2 i hi with (⟨o, ho, v, hv, hk⟩ | ⟨o, ho, mk, zs, T, ⟨hw1, hrun⟩, hk⟩) | ⟨o, ho, ty, x, y, b, zs, T, cs, h1, h2, h3, h4, hu, h5, h6, h7, h8, h9, hk⟩
  ·simp only [ho]
   rcases hv with ⟨hw1, hc⟩ | ⟨hw1, rfl⟩
   ·simp only [hw1, if_true]
    refine .inl ?_
    obtain ⟨gw, rfl⟩ := hw.1
    have h3 := hc gw
    unfold calmAt at h3
    unfold Oper.wp
    generalize (execOp a.eval o).run P (grown W gw) = r at *
    cases r with
    | ok nx w' =>
     cases nx <;> simp only [calmUpon] at h3 <;> simp only [Oper.upon]
     case value u => obtain ⟨e1, e2⟩ := h3; rw [e1, e2]; exact allAny_any hL f _ _ _ _ hw hk
     case skip => obtain ⟨e1, e2⟩ := h3; rw [e1, ← e2]; exact allAny_any hL f _ _ _ _ hw hk
     case enter f' args =>
      obtain ⟨e1, hc'⟩ := h3
      rw [e1]
      exact hc'.mono fun e w'' ⟨he, hw''⟩ => by subst he; exact allAny_any hL f _ _ _ _ (hw.grow hw'') hk
    | halt x w' => simp only [calmUpon] at h3
   ·simp only [hw1, Bool.false_eq_true, if_false]; exact allAny_any hL f _ _ _ _ hw hk
  ·simp only [ho, hw1, if_true]
   refine .inl ?_
   unfold Oper.wp
   rw [hrun w]
   simp only [Oper.upon]
   refine allAny_any hL f _ _ _ _ ⟨hw.1.trans (Gr.of (below_alloc (Below.refl _ _) _)), fun x hx => ?_⟩ (hk w.heap.size hw.1.below.size fun x hx e => ?_)
   ·rcases List.mem_cons.1 hx with rfl | hx
    ·show (w.heap.push _)[w.heap.size]? = _
     simp
    ·have h1 := hw.2 x hx
     have hlt : x.1 < w.heap.size := (Array.getElem?_eq_some_iff.1 h1).1
     rw [Below.heap_alloc w _ x.1 hlt]; exact h1
   ·have hlt : x.1 < w.heap.size := (Array.getElem?_eq_some_iff.1 (hw.2 x hx)).1
    omega
  ·have hwant : Region.wanted o (yielded ops a.tmps) = true := by simp [Region.wanted, h2]
   simp only [ho, hwant, if_true]
   refine .inl ?_
   have hh := hw.2 _ h4
   have hrun : (storeVar ty ⟨b, 0, none⟩ (a.eval y)).run P w = .ok () (w.setRow b cs) := by
    have := run_storeCells_from (P := P) b T cs.toList 0 zs w hh (by simp; omega) (fun v hv => List.all_eq_true.1 h9 v hv)
    cases hq : P.info? ty with
    | none => simp [hq] at h7
    | some i =>
     have hs : cs.size = i.size := by simp [hq] at h7; omega
     simp [storeVar, sizeOf, typeInfo, hq, h6, hs, this]
   unfold Oper.wp execOp
   simp only [h1, h3, Instr.storeAt, Instr.sureAddr, Sem.run_bind, Sem.run_pure, Result.andThen_ok, hrun]
   refine allAny_any hL f _ ((b, cs, T) :: bs.filter (fun z => z.1 ≠ b)) _ _ ⟨Gr.of ?_, fun z hz => ?_⟩ (hk _ fun z => ?_)
   ·exact hw.1.below.trans ⟨rfl, rfl, rfl, by simp [World.setRow], fun k hk => by
     simp only [World.setRow, Array.getElem?_modify]
     rw [if_neg (by omega)]⟩
   ·rcases List.mem_cons.1 hz with rfl | hz
    ·exact setRow_heap w b zs _ T _ hh
    ·have hz' := List.mem_filter.1 hz
     have hne : z.1 ≠ b := by simpa using hz'.2
     rw [← hw.2 z hz'.1]
     simp only [World.setRow, Array.getElem?_modify]
     rw [if_neg (by omega)]
   ·simp [List.mem_filter]
theorem not_looks {o : Oper} {d : Tmp} {ty : TypeId} {x y : Operand} (ho : o.op = .store ty x y) (h : d ∉ o.looksAt ops) : x ≠ .tmp d ∧ y ≠ .tmp d := by
 constructor <;> (rintro rfl; exact h (by simp [Oper.looksAt, ho, Op.operands]))
theorem tOp_put {j : Nat} {oi oj : Oper} {v : Value} (hj : ops[j]? = some oj) (hap : oi.apart ops oj = true)
  (hsi : ∀ cs b, oi.op ≠ .select cs b) (hsj : ∀ cs b, oj.op ≠ .select cs b) {K : Blocks → Act → Prop} {bs : Blocks} {a : Act}
  (hy : CalmOp P ops W oi v a) (h : tOp P ops W j K bs (a.put oi.dst v)) :
  tOp P ops W j (fun bs' a' => CalmOp P ops W oi v a' ∧ K bs' (a'.put oi.dst v)) bs a := by
 obtain ⟨p1, p2, p3⟩ := Oper.apart_spec hap
 rcases h with h | ⟨o, ho, ty, x, y, b, zs, T, cs, h1, h2, h3, h4, hu, h5, h6, h7, h8, h9, hk⟩
 ·exact .inl (mOp_put hj hap hsi hsj hy h)
 ·obtain rfl : o = oj := Option.some.inj (ho.symm.trans hj)
  refine .inr ⟨o, hj, ty, x, y, b, zs, T, cs, h1, h2, ?_, h4, hu, h5, ?_, h7, h8, h9, fun bs' hb => ⟨hy.put hsi p3, by rw [← Act.put_comm a v _ p2]; exact hk bs' hb⟩⟩
  ·rw [← Act.eval_put (a := a) (dst := oi.dst) (v := v) (fun d hd => (not_looks h1 (p1 d hd)).1)]; exact h3
  ·rw [← Act.eval_put (a := a) (dst := oi.dst) (v := v) (fun d hd => (not_looks h1 (p1 d hd)).2)]; exact h6
theorem allAny_first {i : Nat} {oi : Oper} {v : Value} {L : Blocks → Act → Prop} (hi : ops[i]? = some oi) (hsel : ∀ (j : Nat) (o : Oper) cs b, ops[j]? = some o → o.op ≠ .select cs b) :
  ∀ (f : Nat) (listed : Array Bool) (bs : Blocks) (a : Act),
   (∀ j oj, ops[j]? = some oj → j ≠ i → listed.getD j true = false → (∀ e ∈ oj.after, Region.binds md e = true → e.on ≠ i) → oi.apart ops oj = true) →
   i ∈ Region.ready md ops listed → CalmOp P ops W oi v a →
   allAny P md ops W L f (listed.setIfInBounds i true) bs (a.put oi.dst v) → allAny P md ops W L (f + 1) listed bs a := by
 intro f
 induction f with
 | zero =>
  intro listed bs a _ hr hy H
  refine ⟨(fun h => by rw [h] at hr; cases hr), fun j hj => ?_⟩
  by_cases hji : j = i
  ·subst hji; exact .inl (.inl ⟨oi, hi, v, hy, H⟩)
  ·have := ready_mono hj hji
   rw [H.1] at this
   cases this
 | succ f ih =>
  intro listed bs a hfree hr hy H
  have hun := (mem_ready.1 hr).1
  refine ⟨(fun h => by rw [h] at hr; cases hr), fun j hj => ?_⟩
  by_cases hji : j = i
  ·subst hji; exact .inl (.inl ⟨oi, hi, v, hy, H⟩)
  have h1 := H.2 j (ready_mono hj hji)
  obtain ⟨hjun, oj, hoj, hall⟩ := mem_ready.1 hj
  have hnot : ∀ e ∈ oj.after, Region.binds md e = true → e.on ≠ i := fun e he hb heq => by
   have h1 := hall e he hb
   rw [heq, getD_both hun] at h1
   cases h1
  have h2 := tOp_put hoj (hfree j oj hoj hji hjun hnot) (fun cs b => hsel i oi cs b hi) (fun cs b => hsel j oj cs b hoj) hy h1
  have hfree' : ∀ k ok, ops[k]? = some ok → k ≠ i → (listed.setIfInBounds j true).getD k true = false →
    (∀ e ∈ ok.after, Region.binds md e = true → e.on ≠ i) → oi.apart ops ok = true := fun k ok hk hki hu hno => by
   refine hfree k ok hk hki ?_ hno
   by_cases hjk : j = k
   ·subst hjk; exact hjun
   ·rw [getD_set_ne true hjk] at hu; exact hu
  refine tOp_mono (fun bs' a' h3 => ih (listed.setIfInBounds j true) bs' a' hfree' (ready_mono hr (Ne.symm hji)) h3.1 ?_) h2
  rw [Array.setIfInBounds_comm _ _ hji]
  exact h3.2
def lOp (P : Program) (ops : Array Oper) (W : World) (i : Nat) (K : Blocks → Act → Prop) (bs : Blocks) (a : Act) : Prop := aOp P ops W i K bs a ∨ sOp P ops W i K bs a
def layAll (P : Program) (md : Region.Mode) (ops : Array Oper) (W : World) (L : Blocks → Act → Prop) : Nat → Array Bool → Blocks → Act → Prop
 | 0, listed, bs, a => Region.ready md ops listed = [] ∧ L bs a
 | f + 1, listed, bs, a => (Region.ready md ops listed = [] → L bs a) ∧ ∀ i ∈ Region.ready md ops listed, lOp P ops W i (layAll P md ops W L f (listed.setIfInBounds i true)) bs a
theorem all_of_layAll {L : Blocks → Act → Prop} : ∀ (f : Nat) (listed : Array Bool) (bs : Blocks) (a : Act), layAll P md ops W L f listed bs a → allAny P md ops W L f listed bs a
 | 0, _, _, _, h => h
 | f + 1, _, _, _, h => ⟨h.1, fun i hi => by
   rcases h.2 i hi with h1 | h1
   ·exact .inl (.inr (aOp_mono (fun bs a => all_of_layAll f _ bs a) h1))
   ·exact .inr (sOp_mono (fun bs a => all_of_layAll f _ bs a) h1)⟩
theorem layAll_same {L : Blocks → Act → Prop} (hP : ∀ bs bs' a, (∀ z, z ∈ bs ↔ z ∈ bs') → L bs a → L bs' a) : ∀ (f : Nat) (listed : Array Bool) (bs bs' : Blocks) (a : Act), (∀ z, z ∈ bs ↔ z ∈ bs') → layAll P md ops W L f listed bs a → layAll P md ops W L f listed bs' a
 | 0, _, _, _, _, hp, h => ⟨h.1, hP _ _ _ hp h.2⟩
 | f + 1, _, _, _, _, hp, h => ⟨fun h0 => hP _ _ _ hp (h.1 h0), fun i hi => by
   rcases h.2 i hi with ⟨o, ho, mk, zs, T, hA, hk⟩ | ⟨o, ho, ty, x, y, b, zs, T, cs, h1, h2, h3, h4, hu, h5, h6, h7, h8, h9, hk⟩
   ·exact .inl ⟨o, ho, mk, zs, T, hA, fun b hb hn => layAll_same hP f _ _ _ _ (fun z => by simp [hp z]) (hk b hb fun x hx => hn x ((hp x).1 hx))⟩
   ·exact .inr ⟨o, ho, ty, x, y, b, zs, T, cs, h1, h2, h3, (hp _).1 h4, (fun z hz => hu z ((hp z).2 hz)), h5, h6, h7, h8, h9, fun bs'' hb => hk bs'' fun z => by rw [hb z, hp z]⟩⟩
end
theorem store_no_value {P : Program} {o : Oper} {ρ : Operand → Value} {ty : TypeId} {x y : Operand} (ho : o.op = .store ty x y) {w w' : World} {v : Value} : (execOp ρ o).run P w ≠ .ok (.value v) w' := by
 simp only [execOp, ho, Sem.run_bind]
 generalize (Instr.storeAt ty (ρ x) (ρ y)).run P w = r
 cases r <;> simp [Result.andThen]
theorem fresh_block (W : World) (bs : Blocks) (c : Nat) : ∃ b, W.heap.size ≤ b ∧ (∀ x ∈ bs, x.1 ≠ b) ∧ c ≠ b := by
 have : ∃ m, W.heap.size ≤ m ∧ c < m ∧ ∀ x ∈ bs, x.1 < m := by
  induction bs with
  | nil => exact ⟨max W.heap.size (c + 1), by omega, by omega, fun x hx => by cases hx⟩
  | cons y r ih =>
   obtain ⟨m, h1, h2, h3⟩ := ih
   refine ⟨max m (y.1 + 1), by omega, by omega, fun x hx => ?_⟩
   rcases List.mem_cons.1 hx with rfl | hx
   ·omega
   ·have := h3 x hx; omega
 obtain ⟨m, h1, h2, h3⟩ := this
 exact ⟨m, h1, (fun x hx e => by have := h3 x hx; omega), by omega⟩
section
theorem layAll_first {i : Nat} {oi : Oper} {mk : Nat → Value} {zs : Array Value} {T : TypeId} {L : Blocks → Act → Prop} (hP : ∀ bs bs' a, (∀ z, z ∈ bs ↔ z ∈ bs') → L bs a → L bs' a) (hi : ops[i]? = some oi) (hsel : ∀ (j : Nat) (o : Oper) cs b, ops[j]? = some o → o.op ≠ .select cs b) :
  ∀ (f : Nat) (listed : Array Bool) (bs : Blocks) (a : Act),
   (∀ j oj, ops[j]? = some oj → j ≠ i → listed.getD j true = false → (∀ e ∈ oj.after, Region.binds md e = true → e.on ≠ i) → oi.apart ops oj = true) →
   i ∈ Region.ready md ops listed → AllocOp P ops oi mk zs T a →
   (∀ b, W.heap.size ≤ b → (∀ x ∈ bs, x.1 ≠ b) → layAll P md ops W L f (listed.setIfInBounds i true) ((b, zs, T) :: bs) (a.put oi.dst (mk b))) → layAll P md ops W L (f + 1) listed bs a := by
 intro f
 induction f with
 | zero =>
  intro listed bs a _ hr hy H
  refine ⟨(fun h => by rw [h] at hr; cases hr), fun j hj => ?_⟩
  by_cases hji : j = i
  ·subst hji; exact .inl ⟨oi, hi, mk, zs, T, hy, H⟩
  ·obtain ⟨b, hb, hnb, _⟩ := fresh_block W bs 0
   have := ready_mono hj hji
   rw [(H b hb hnb).1] at this
   cases this
 | succ f ih =>
  intro listed bs a hfree hr hy H
  have hun := (mem_ready.1 hr).1
  refine ⟨(fun h => by rw [h] at hr; cases hr), fun j hj => ?_⟩
  by_cases hji : j = i
  ·subst hji; exact .inl ⟨oi, hi, mk, zs, T, hy, H⟩
  obtain ⟨hjun, oj, hoj, hall⟩ := mem_ready.1 hj
  have hnot : ∀ e ∈ oj.after, Region.binds md e = true → e.on ≠ i := fun e he hb heq => by
   have h1 := hall e he hb
   rw [heq, getD_both hun] at h1
   cases h1
  obtain ⟨p1, p2, p3⟩ := Oper.apart_spec (hfree j oj hoj hji hjun hnot)
  have hfree' : ∀ k ok, ops[k]? = some ok → k ≠ i → (listed.setIfInBounds j true).getD k true = false →
    (∀ e ∈ ok.after, Region.binds md e = true → e.on ≠ i) → oi.apart ops ok = true := fun k ok hk hki hu hno => by
   refine hfree k ok hk hki ?_ hno
   by_cases hjk : j = k
   ·subst hjk; exact hjun
   ·rw [getD_set_ne true hjk] at hu; exact hu
  have nox : ∀ {ty : TypeId} {x y : Operand} (v : Value), oj.op = .store ty x y → (a.put oi.dst v).eval x = a.eval x ∧ (a.put oi.dst v).eval y = a.eval y := fun v h1 =>
   ⟨Act.eval_put (fun d hd => (not_looks h1 (p1 d hd)).1), Act.eval_put (fun d hd => (not_looks h1 (p1 d hd)).2)⟩
  obtain ⟨b0, hb0, hnb0, _⟩ := fresh_block W bs 0
  rcases (H b0 hb0 hnb0).2 j (ready_mono hj hji) with ⟨o', ho', mk', zs', T', hA', _⟩ | ⟨o', ho', ty, x, y, c, zc, Tc, cs, h1, h2, h3, h4, hu, h5, h6, h7, h8, h9, _⟩
  ·obtain rfl : o' = oj := Option.some.inj (ho'.symm.trans hoj)
   have hAj := hA'.unput (oj := oi) (fun cs b => hsel j o' cs b hoj) p1
   refine .inl ⟨o', hoj, mk', zs', T', hAj, fun b' hb' hnb' => ?_⟩
   refine ih (listed.setIfInBounds j true) _ _ hfree' (ready_mono hr (Ne.symm hji)) (hy.put (fun cs b => hsel i oi cs b hi) p3) fun b hb hnb => ?_
   have hbs : ∀ x ∈ bs, x.1 ≠ b := fun x hx => hnb x (List.mem_cons_of_mem _ hx)
   have hne : b ≠ b' := fun e => hnb _ (mcs) e.symm
   rcases (H b hb hbs).2 j (ready_mono hj hji) with ⟨o2, ho2, mk2, zs2, T2, hA2, hk2⟩ | ⟨o2, ho2, ty2, x2, y2, c2, zc2, Tc2, cs2, q1, _⟩
   ·obtain rfl : o2 = o' := Option.some.inj (ho2.symm.trans hoj)
    have hAj2 := hA2.unput (oj := oi) (fun cs b => hsel j o2 cs b hoj) p1
    have e := (hAj.2 W).symm.trans (hAj2.2 W)
    have ez : zs' = zs2 ∧ T' = T2 := by
     have e2 : W.alloc (.cells zs' T') = W.alloc (.cells zs2 T2) := by injection e
     have e3 : (W.alloc (.cells zs' T')).heap[W.heap.size]? = (W.alloc (.cells zs2 T2)).heap[W.heap.size]? := by rw [e2]
     have e4 : some (Obj.cells zs' T') = some (Obj.cells zs2 T2) := by
      have q : ∀ ob : Obj, (W.alloc ob).heap[W.heap.size]? = some ob := fun ob => by show (W.heap.push ob)[W.heap.size]? = _; simp
      rw [q, q] at e3; exact e3
     injection e4 with e5
     injection e5 with e6 e7
     exact ⟨e6, e7⟩
    obtain ⟨rfl, rfl⟩ := ez
    have em : mk' = mk2 := by
     funext m
     have e1 := (hAj.2 { W with heap := Array.replicate m default }).symm.trans (hAj2.2 { W with heap := Array.replicate m default })
     have e2 : Next.value (mk' (Array.replicate m (default : Obj)).size) = Next.value (mk2 (Array.replicate m (default : Obj)).size) := by injection e1
     rw [Array.size_replicate] at e2
     injection e2
    subst em
    have h4 := hk2 b' hb' (fun x hx => by
     rcases List.mem_cons.1 hx with rfl | hx
     ·exact hne
     ·exact hnb' x (hx))
    rw [Array.setIfInBounds_comm _ _ hji, ← Act.put_comm a _ _ p2]
    refine layAll_same hP f _ _ _ _ (fun z => ?_) h4
    simp only [List.mem_cons]
    constructor <;> (rintro (h | h | h) <;> simp [h])
   ·obtain rfl : o2 = o' := Option.some.inj (ho2.symm.trans hoj)
    exact absurd (hAj.2 W) (store_no_value q1)
  ·obtain rfl : o' = oj := Option.some.inj (ho'.symm.trans hoj)
   have hx : a.eval x = .pointer (some ⟨c, 0, none⟩) := by rw [← (nox (mk b0) h1).1]; exact h3
   have hyy : (a.eval y).cells = cs := by rw [← (nox (mk b0) h1).2]; exact h6
   obtain ⟨b1, hb1, hnb1, hcb⟩ := fresh_block W bs c
   obtain ⟨z1, T1, hin, hu1, hz1⟩ : ∃ z1 T1, (c, z1, T1) ∈ bs ∧ (∀ z ∈ bs, z.1 = c → z.2.2 = T1) ∧ z1.size = cs.size := by
    rcases (H b1 hb1 hnb1).2 j (ready_mono hj hji) with ⟨o2, ho2, mk2, zs2, T2, hA2, _⟩ | ⟨o2, ho2, ty2, x2, y2, c2, zc2, Tc2, cs2, q1, q2, q3, q4, qu, q5, q6, q7, q8, q9, _⟩
    ·obtain rfl : o2 = o' := Option.some.inj (ho2.symm.trans hoj)
     exact absurd (hA2.2 W) (store_no_value h1)
    ·obtain rfl : o2 = o' := Option.some.inj (ho2.symm.trans hoj)
     have e := h1.symm.trans q1
     injection e with e1 e2 e3
     subst e1; subst e2; subst e3
     rw [(nox (mk b1) h1).1, hx] at q3
     rw [(nox (mk b1) h1).2, hyy] at q6
     obtain rfl : c = c2 := by injection q3 with q3; injection q3 with q3; injection q3
     subst q6
     rcases List.mem_cons.1 q4 with e | e
     ·injection e with e1 e2; exact absurd e1 hcb
     ·exact ⟨zc2, Tc2, e, (fun z hz => qu z (List.mem_cons_of_mem _ hz)), q8⟩
   have hTc : ∀ b, W.heap.size ≤ b → (∀ x ∈ bs, x.1 ≠ b) → ∀ bs', (∀ z, z ∈ bs' ↔ z = (c, cs, T1) ∨ (z ∈ (b, zs, T) :: bs ∧ z.1 ≠ c)) → layAll P md ops W L f ((listed.setIfInBounds i true).setIfInBounds j true) bs' ((a.put oi.dst (mk b)).put o'.dst undef) := by
    intro b hb hnb
    rcases (H b hb hnb).2 j (ready_mono hj hji) with ⟨o2, ho2, mk2, zs2, T2, hA2, _⟩ | ⟨o2, ho2, ty2, x2, y2, c2, zc2, Tc2, cs2, q1, q2, q3, q4, qu, q5, q6, q7, q8, q9, hk2⟩
    ·obtain rfl : o2 = o' := Option.some.inj (ho2.symm.trans hoj)
     exact absurd (hA2.2 W) (store_no_value h1)
    ·obtain rfl : o2 = o' := Option.some.inj (ho2.symm.trans hoj)
     have e := h1.symm.trans q1
     injection e with e1 e2 e3
     subst e1; subst e2; subst e3
     rw [(nox (mk b) h1).1, hx] at q3
     rw [(nox (mk b) h1).2, hyy] at q6
     obtain rfl : c = c2 := by injection q3 with q3; injection q3 with q3; injection q3
     subst q6
     rcases List.mem_cons.1 q4 with e | e
     ·injection e with e1 e2; exact absurd e1 (hnb _ hin)
     ·have et : T1 = Tc2 := qu (c, z1, T1) (List.mem_cons_of_mem _ hin) rfl
      subst et
      exact hk2
   refine .inr ⟨o', hoj, ty, x, y, c, z1, T1, cs, h1, h2, hx, hin, hu1, h5, hyy, h7, hz1, h9, fun bs' hbs' => ?_⟩
   refine ih (listed.setIfInBounds j true) _ _ hfree' (ready_mono hr (Ne.symm hji)) (hy.put (fun cs b => hsel i oi cs b hi) p3) fun b hb hnb => ?_
   have hcne : c ≠ b := fun e => hnb (c, cs, T1) ((hbs' _).2 (.inl rfl)) e
   have hnb2 : ∀ x ∈ bs, x.1 ≠ b := fun x hx => by
    by_cases e : x.1 = c
    ·rw [e]; exact hcne
    ·exact hnb x ((hbs' x).2 (.inr ⟨hx, e⟩))
   have := hTc b hb hnb2 ((b, zs, T) :: bs') fun z => by
    simp only [List.mem_cons, hbs' z]
    constructor
    ·rintro (rfl | h | ⟨h, h'⟩)
     ·exact .inr ⟨.inl rfl, hcne.symm⟩
     ·exact .inl h
     ·exact .inr ⟨.inr h, h'⟩
    ·rintro (h | ⟨h | h, h'⟩)
     ·exact .inr (.inl h)
     ·exact .inl h
     ·exact .inr (.inr ⟨h, h'⟩)
   rw [Array.setIfInBounds_comm _ _ hji, ← Act.put_comm a _ _ p2]
   exact this
end
section
variable {l : List Oper} {Lq : Blocks → Act → Prop}
def wpSto (P : Program) (W : World) (Q : Blocks → Act → Prop) : List Oper → Blocks → Act → Prop
 | [], bs, a => Q bs a
 | o :: r, bs, a => ∃ ty x y b zs T cs, o.op = .store ty x y ∧ o.guard = none ∧ a.eval x = .pointer (some ⟨b, 0, none⟩) ∧ (b, zs, T) ∈ bs ∧ (∀ z ∈ bs, z.1 = b → z.2.2 = T) ∧ W.heap.size ≤ b ∧ (a.eval y).cells = cs ∧
  (P.info? ty).map (·.size) = some cs.size ∧ zs.size = cs.size ∧ cs.toList.all (·.oneCell') = true ∧ ∃ bs', (∀ z, z ∈ bs' ↔ z = (b, cs, T) ∨ (z ∈ bs ∧ z.1 ≠ b)) ∧ wpSto P W Q r bs' (a.put o.dst undef)
def seqOne (md : Region.Mode) (ops : Array Oper) : List Nat → Array Bool → Bool
 | [], listed => decide (Region.ready md ops listed = [])
 | k :: r, listed => decide (Region.ready md ops listed = [k]) && seqOne md ops r (listed.setIfInBounds k true)
def seqFree (md : Region.Mode) (ops : Array Oper) (ss : List Nat) : List Nat → Array Bool → Bool
 | [], listed => seqOne md ops ss listed
 | k :: r, listed => (Region.ready md ops listed).contains k && Region.free md ops listed k && seqFree md ops ss r (listed.setIfInBounds k true)
def allB (md : Region.Mode) (ops : Array Oper) (qs asx ss : List Nat) : Bool :=
 Region.noSelect ops && decide (qs.length + asx.length + ss.length = ops.size) && seqFree md ops ss (qs ++ asx) (Array.replicate ops.size false)
theorem layAll_seq (hP : ∀ bs bs' a, (∀ z, z ∈ bs ↔ z ∈ bs') → Lq bs a → Lq bs' a) : ∀ (ss : List Nat) (listed : Array Bool) (bs : Blocks) (a : Act), seqOne md l.toArray ss listed = true → wpSto P W Lq (pick l ss) bs a → layAll P md l.toArray W Lq ss.length listed bs a
 | [], listed, bs, a, hB, h => ⟨by simpa [seqOne] using hB, h⟩
 | k :: r, listed, bs, a, hB, h => by
  simp only [seqOne, Bool.and_eq_true, decide_eq_true_eq] at hB
  refine ⟨(fun h0 => by rw [hB.1] at h0; cases h0), fun i hi => ?_⟩
  have hk : k ∈ Region.ready md l.toArray listed := by rw [hB.1]; simp
  obtain ⟨_, o, ho, _⟩ := mem_ready.1 hk
  have ho' : l[k]? = some o := by simpa using ho
  rw [hB.1] at hi
  obtain rfl : i = k := by simpa using hi
  rw [pick_cons ho'] at h
  obtain ⟨ty, x, y, b, zs, T, cs, h1, h2, h3, h4, hu, h5, h6, h7, h8, h9, bs', hbs', hr⟩ := h
  refine .inr ⟨o, ho, ty, x, y, b, zs, T, cs, h1, h2, h3, h4, hu, h5, h6, h7, h8, h9, fun bs'' hb => ?_⟩
  exact layAll_same hP _ _ _ _ _ (fun z => by rw [hbs' z, hb z]) (layAll_seq hP r _ _ _ hB.2 hr)
theorem layAll_lex (hP : ∀ bs bs' a, (∀ z, z ∈ bs ↔ z ∈ bs') → Lq bs a → Lq bs' a) (hsel : Region.noSelect l.toArray = true) (ss : List Nat) :
  ∀ (asx : List Nat) (listed : Array Bool) (bs : Blocks) (a : Act), seqFree md l.toArray ss asx listed = true → wpLay P l.toArray W (fun bs' a' => wpSto P W Lq (pick l ss) bs' a') (pick l asx) bs a →
   layAll P md l.toArray W Lq (asx.length + ss.length) listed bs a
 | [], listed, bs, a, hB, h => by rw [List.length_nil, Nat.zero_add]; exact layAll_seq hP ss listed bs a hB h
 | k :: r, listed, bs, a, hB, h => by
  simp only [seqFree, Bool.and_eq_true] at hB
  obtain ⟨⟨hr, hf⟩, hB'⟩ := hB
  have hr' : k ∈ Region.ready md l.toArray listed := by simpa using hr
  obtain ⟨_, o, ho, _⟩ := mem_ready.1 hr'
  have ho' : l[k]? = some o := by simpa using ho
  rw [pick_cons ho'] at h
  obtain ⟨mk, zs, T, hA, hk⟩ := h
  rw [show (k :: r).length + ss.length = (r.length + ss.length) + 1 by simp; omega]
  exact layAll_first hP ho (Region.noSelect_spec hsel) _ listed bs a (Region.free_spec ho hf) hr' hA
   fun b hb hnb => layAll_lex hP hsel ss r _ _ _ hB' (hk b hb hnb)
theorem allAny_lex (hP : ∀ bs bs' a, (∀ z, z ∈ bs ↔ z ∈ bs') → Lq bs a → Lq bs' a) (hsel : Region.noSelect l.toArray = true) (asx ss : List Nat) :
  ∀ (qs : List Nat) (listed : Array Bool) (a : Act), seqFree md l.toArray ss (qs ++ asx) listed = true → wpCalm P l.toArray W (fun a' => wpLay P l.toArray W (fun bs' a2 => wpSto P W Lq (pick l ss) bs' a2) (pick l asx) [] a') (pick l qs) a →
   allAny P md l.toArray W Lq (qs.length + asx.length + ss.length) listed [] a
 | [], listed, a, hB, h => by
  rw [List.length_nil, Nat.zero_add]
  exact all_of_layAll _ _ _ _ (layAll_lex hP hsel ss asx listed [] a hB h)
 | k :: r, listed, a, hB, h => by
  simp only [List.cons_append, seqFree, Bool.and_eq_true] at hB
  obtain ⟨⟨hr, hf⟩, hB'⟩ := hB
  have hr' : k ∈ Region.ready md l.toArray listed := by simpa using hr
  obtain ⟨_, o, ho, _⟩ := mem_ready.1 hr'
  have ho' : l[k]? = some o := by simpa using ho
  rw [pick_cons ho'] at h
  rw [show (k :: r).length + asx.length + ss.length = (r.length + asx.length + ss.length) + 1 by simp; omega]
  unfold wpCalm at h
  by_cases hw : Region.wanted o (yielded l.toArray a.tmps) = true
  ·simp only [hw, if_true] at h
   obtain ⟨v, hv, hk⟩ := h
   exact allAny_first ho (Region.noSelect_spec hsel) _ listed [] a (Region.free_spec ho hf) hr' (.inl ⟨hw, hv⟩) (allAny_lex hP hsel asx ss r _ _ hB' hk)
  ·simp only [hw] at h
   exact allAny_first ho (Region.noSelect_spec hsel) _ listed [] a (Region.free_spec ho hf) hr' (.inr ⟨by simpa using hw, rfl⟩) (allAny_lex hP hsel asx ss r _ _ hB' h)
theorem wp_region_all {id : Nat} {Q : Exit → Act → World → Prop} {a : Act} (qs asx ss : List Nat) (hm : P.follows .mixedOrders = true) (hB : allB .any l.toArray qs asx ss = true)
  (h : wpCalm P l.toArray W (fun a' => wpLay P l.toArray W (fun bs' a2 => wpSto P W (fun bs a3 => ∀ w', MixWorld W bs w' → Q .normal a3 w') (pick l ss) bs' a2) (pick l asx) [] a') (pick l qs) a) : (Code.region id l.toArray true).wp P Q a W := by
 simp only [allB, Bool.and_eq_true, decide_eq_true_eq] at hB
 obtain ⟨⟨hsel, hlen⟩, hlex⟩ := hB
 have H := allAny_lex (md := .any) (P := P) (W := W) (fun bs bs' a hp (hL : ∀ w', MixWorld W bs w' → Q .normal a w') w' hw' => hL w' ⟨hw'.1, fun x hx => hw'.2 x ((hp x).1 hx)⟩) hsel asx ss qs _ a hlex h
 refine wp_region_any hm ?_
 have := allAny_any (Q' := Q) (fun bs a' w' hw' (hL : ∀ w', MixWorld W bs w' → Q .normal a' w') => hL w' hw') _ _ _ _ _ ⟨Gr.of ((Below.refl _ _).drew), fun x hx => by cases hx⟩ H
 rw [hlen] at this
 exact this
end
theorem allocOp_alloc {o : Oper} {T : TypeId} {z : Value} {a : Act} (ho : o.op = .alloc T) (hg : o.guard = none) (hz : ∀ w, (zeroValue T).run P w = .ok z w) : AllocOp P ops o (fun b => .pointer (some ⟨b, 0, none⟩)) z.cells T a :=
 ⟨by simp [Region.wanted, hg], fun w => by simp [execOp, ho, Instr.alloc, Sem.run_bind, hz, newVar, newRow, go_sem]⟩
theorem mix_cell {bs : Blocks} {w : World} (h : MixWorld W bs w) {b : Nat} {zs : Array Value} {T : TypeId} (hx : (b, zs, T) ∈ bs) (o : Nat) : w.cell? ⟨b, o, none⟩ = zs[o]? := by
 simp [World.cell?, h.2 _ hx]
theorem mix_frozen {bs : Blocks} {w : World} (h : MixWorld W bs w) {b : Nat} {zs : Array Value} {T : TypeId} (hx : (b, zs, T) ∈ bs) (o : Nat) : w.frozen? ⟨b, o, none⟩ = false := by
 simp [World.frozen?, h.2 _ hx]
theorem mix_old {bs : Blocks} {w : World} (h : MixWorld W bs w) {b : Nat} {zs : Array Value} {T : TypeId} (hx : (b, zs, T) ∈ bs) : Old b w := ⟨(Array.getElem?_eq_some_iff.1 (h.2 _ hx)).1⟩
end
theorem mixg {W : World} {b : Nat} {zs : Array Value} {T : TypeId} {bs : Blocks} {w : World} (hb : W.heap.size ≤ b) (h : MixWorld W ((b, zs, T) :: bs) w) : (∀ o, w.cell? ⟨b, o, none⟩ = zs[o]?) ∧ (∀ o, w.frozen? ⟨b, o, none⟩ = false) ∧ Old b w ∧ (∀ (c : Nat) [h : Old c W], (c = b) = False) ∧ (∀ (c : Nat) [h : Old c W], (b = c) = False) ∧ Gr W w := ⟨mix_cell h mcs, mix_frozen h mcs, mix_old h mcs, @fresh_ne _ _ hb, @fresh_en _ _ hb, h.1⟩
section
variable {P : Program} {ops : Array Oper} {md : Region.Mode} {W : World} {S : Type} {I : S → World → Prop}
structure Ghost (W : World) (I : S → World → Prop) : Prop where
 grow : ∀ s w w', I s w → Gr w w' → I s w'
 out : ∀ s w, I s w → Gr W w
def clOp (P : Program) (ops : Array Oper) (W : World) (i : Nat) (K : S → Act → Prop) (s : S) (a : Act) : Prop := ∃ o, ops[i]? = some o ∧ ∃ v, CalmOp P ops W o v a ∧ K s (a.put o.dst v)
end
section
variable {P : Program} {md : Region.Mode} {W : World} {S : Type} {I : S → World → Prop} {l : List Oper} {Lq : S → Act → Prop}
end
section
variable {P : Program} {W : World}
end
section
variable {P : Program} {ops : Array Oper} {md : Region.Mode} {W : World} {S : Type} {I : S → World → Prop}
def effUpon (P : Program) (R : Value → World → Prop) : Result Next → Prop
 | .ok (.value v) w' => R v w'
 | .ok .skip w' => R undef w'
 | .ok (.enter f args) w' => Calls P f args w' (fun e w'' => ∃ v, e = .returned v ∧ R v w'')
 | _ => False
theorem effUpon_mono {R R' : Value → World → Prop} (h : ∀ v w, R v w → R' v w) (r : Result Next) (hr : effUpon P R r) : effUpon P R' r := by
 cases r with
 | ok nx w' =>
  cases nx <;> simp only [effUpon] at hr ⊢
  case value v => exact h _ _ hr
  case skip => exact h _ _ hr
  case enter f args => exact hr.mono (fun e w'' ⟨v, he, hv⟩ => ⟨v, he, h _ _ hv⟩)
 | halt x w' => exact hr.elim
def EffAt (P : Program) (o : Oper) (a : Act) (w : World) (R : Value → World → Prop) : Prop := effUpon P R ((execOp a.eval o).run P w)
def efOp (P : Program) (ops : Array Oper) (I : S → World → Prop) (i : Nat) (K : S → Act → Prop) (s : S) (a : Act) : Prop :=
 ∃ o, ops[i]? = some o ∧ Region.wanted o (yielded ops a.tmps) = true ∧ ∀ w, I s w → EffAt P o a w (fun v w' => ∃ s', I s' w' ∧ K s' (a.put o.dst v))
def feOp (P : Program) (ops : Array Oper) (W : World) (I : S → World → Prop) (i : Nat) (K : S → Act → Prop) (s : S) (a : Act) : Prop := clOp P ops W i K s a ∨ efOp P ops I i K s a
theorem feOp_mono {i : Nat} {K K' : S → Act → Prop} {s : S} {a : Act} (h : ∀ s a, K s a → K' s a) (hh : feOp P ops W I i K s a) : feOp P ops W I i K' s a :=
 hh.imp (fun ⟨o, ho, v, hv, hk⟩ => ⟨o, ho, v, hv, h _ _ hk⟩) (fun ⟨o, ho, hg, hs⟩ => ⟨o, ho, hg, fun w hw => effUpon_mono (fun v w' ⟨s', h1, h2⟩ => ⟨s', h1, h _ _ h2⟩) _ (hs w hw)⟩)
def feAny (P : Program) (md : Region.Mode) (ops : Array Oper) (W : World) (I : S → World → Prop) (L : S → Act → Prop) : Nat → Array Bool → S → Act → Prop
 | 0, listed, s, a => Region.ready md ops listed = [] ∧ L s a
 | f + 1, listed, s, a => (Region.ready md ops listed = [] → L s a) ∧ ∀ i ∈ Region.ready md ops listed, feOp P ops W I i (feAny P md ops W I L f (listed.setIfInBounds i true)) s a
theorem feAny_any (G : Ghost W I) {L : S → Act → Prop} {Q' : Exit → Act → World → Prop} (hL : ∀ s a w, I s w → L s a → Q' .normal a w) :
  ∀ (f : Nat) (listed : Array Bool) (s : S) (a : Act) (w : World), I s w → feAny P md ops W I L f listed s a → wpAny P md ops Q' f listed a w
 | 0, listed, s, a, w, hw, h => ⟨h.1, hL _ _ _ hw h.2⟩
 | f + 1, listed, s, a, w, hw, h => by
  refine ⟨fun h0 => hL _ _ _ hw (h.1 h0), fun i hi => ?_⟩
  unfold wpOp
  rcases h.2 i hi with ⟨o, ho, v, hv, hk⟩ | ⟨o, ho, hg, hs⟩
  ·simp only [ho]
   rcases hv with ⟨hw1, hc⟩ | ⟨hw1, rfl⟩
   ·simp only [hw1, if_true]
    refine .inl ?_
    obtain ⟨gw, rfl⟩ := G.out _ _ hw
    have h3 := hc gw
    unfold calmAt at h3
    unfold Oper.wp
    generalize (execOp a.eval o).run P (grown W gw) = r at *
    cases r with
    | ok nx w' =>
     cases nx <;> simp only [calmUpon] at h3 <;> simp only [Oper.upon]
     case value u => obtain ⟨e1, e2⟩ := h3; rw [e1, e2]; exact feAny_any G hL f _ _ _ _ hw hk
     case skip => obtain ⟨e1, e2⟩ := h3; rw [e1, ← e2]; exact feAny_any G hL f _ _ _ _ hw hk
     case enter f' args =>
      obtain ⟨e1, hc'⟩ := h3
      rw [e1]
      exact hc'.mono fun e w'' ⟨he, hw''⟩ => by subst he; exact feAny_any G hL f _ _ _ _ (G.grow _ _ _ hw hw'') hk
    | halt x w' => simp only [calmUpon] at h3
   ·simp only [hw1, Bool.false_eq_true, if_false]; exact feAny_any G hL f _ _ _ _ hw hk
  ·simp only [ho, hg, if_true]
   refine .inl ?_
   have h3 := hs w hw
   unfold EffAt at h3
   unfold Oper.wp
   generalize (execOp a.eval o).run P w = r at *
   cases r with
   | ok nx w' =>
    cases nx <;> simp only [effUpon] at h3 <;> simp only [Oper.upon]
    case value u => obtain ⟨s', hi', hk⟩ := h3; exact feAny_any G hL f _ _ _ _ hi' hk
    case skip => obtain ⟨s', hi', hk⟩ := h3; exact feAny_any G hL f _ _ _ _ hi' hk
    case enter f' args => exact h3.mono fun e w'' ⟨v, he, s', hi', hk⟩ => by subst he; exact feAny_any G hL f _ _ _ _ hi' hk
   | halt x w' => simp only [effUpon] at h3
theorem feOp_put {j : Nat} {oi oj : Oper} {v : Value} (hj : ops[j]? = some oj) (hap : oi.apart ops oj = true)
  (hsi : ∀ cs b, oi.op ≠ .select cs b) (hsj : ∀ cs b, oj.op ≠ .select cs b) {K : S → Act → Prop} {s : S} {a : Act}
  (hy : CalmOp P ops W oi v a) (h : feOp P ops W I j K s (a.put oi.dst v)) :
  feOp P ops W I j (fun s' a' => CalmOp P ops W oi v a' ∧ K s' (a'.put oi.dst v)) s a := by
 obtain ⟨p1, p2, p3⟩ := Oper.apart_spec hap
 rcases h with ⟨o, ho, u, hu, hk⟩ | ⟨o, ho, hg, hs⟩
 ·obtain rfl : o = oj := Option.some.inj (ho.symm.trans hj)
  exact .inl ⟨o, hj, u, hu.unput hsj p1, hy.put hsi p3, by rw [← Act.put_comm a v u p2]; exact hk⟩
 ·obtain rfl : o = oj := Option.some.inj (ho.symm.trans hj)
  refine .inr ⟨o, hj, by rw [wanted_put o a oi.dst v p1] at hg; exact hg, fun w hw => ?_⟩
  have h3 := hs w hw
  unfold EffAt at *
  rw [execOp_put o hsj a oi.dst v p1] at h3
  exact effUpon_mono (fun u w' ⟨s', h1, h2⟩ => ⟨s', h1, hy.put hsi p3, by rw [← Act.put_comm a v u p2]; exact h2⟩) _ h3
theorem feAny_first {i : Nat} {oi : Oper} {v : Value} {L : S → Act → Prop} (hi : ops[i]? = some oi) (hsel : ∀ (j : Nat) (o : Oper) cs b, ops[j]? = some o → o.op ≠ .select cs b) :
  ∀ (f : Nat) (listed : Array Bool) (s : S) (a : Act),
   (∀ j oj, ops[j]? = some oj → j ≠ i → listed.getD j true = false → (∀ e ∈ oj.after, Region.binds md e = true → e.on ≠ i) → oi.apart ops oj = true) →
   i ∈ Region.ready md ops listed → CalmOp P ops W oi v a →
   feAny P md ops W I L f (listed.setIfInBounds i true) s (a.put oi.dst v) → feAny P md ops W I L (f + 1) listed s a := by
 intro f
 induction f with
 | zero =>
  intro listed s a _ hr hy H
  refine ⟨(fun h => by rw [h] at hr; cases hr), fun j hj => ?_⟩
  by_cases hji : j = i
  ·subst hji; exact .inl ⟨oi, hi, v, hy, H⟩
  ·have := ready_mono hj hji
   rw [H.1] at this
   cases this
 | succ f ih =>
  intro listed s a hfree hr hy H
  have hun := (mem_ready.1 hr).1
  refine ⟨(fun h => by rw [h] at hr; cases hr), fun j hj => ?_⟩
  by_cases hji : j = i
  ·subst hji; exact .inl ⟨oi, hi, v, hy, H⟩
  have h1 := H.2 j (ready_mono hj hji)
  obtain ⟨hjun, oj, hoj, hall⟩ := mem_ready.1 hj
  have hnot : ∀ e ∈ oj.after, Region.binds md e = true → e.on ≠ i := fun e he hb heq => by
   have h1 := hall e he hb
   rw [heq, getD_both hun] at h1
   cases h1
  have h2 := feOp_put hoj (hfree j oj hoj hji hjun hnot) (fun cs b => hsel i oi cs b hi) (fun cs b => hsel j oj cs b hoj) hy h1
  have hfree' : ∀ k ok, ops[k]? = some ok → k ≠ i → (listed.setIfInBounds j true).getD k true = false →
    (∀ e ∈ ok.after, Region.binds md e = true → e.on ≠ i) → oi.apart ops ok = true := fun k ok hk hki hu hno => by
   refine hfree k ok hk hki ?_ hno
   by_cases hjk : j = k
   ·subst hjk; exact hjun
   ·rw [getD_set_ne true hjk] at hu; exact hu
  refine feOp_mono (fun s' a' h3 => ih (listed.setIfInBounds j true) s' a' hfree' (ready_mono hr (Ne.symm hji)) h3.1 ?_) h2
  rw [Array.setIfInBounds_comm _ _ hji]
  exact h3.2
end
section
variable {P : Program} {md : Region.Mode} {W : World} {S : Type} {I : S → World → Prop} {l : List Oper} {Lq : S → Act → Prop}
end
structure Blk1 (W : World) (X : Nat) (T : TypeId) where
 cs : Array Value
 e : World → Prop
 grow : ∀ w w', e w → Gr w w' → e w'
 set : ∀ w o v cs, BlockAt w X cs T → e w → e (w.setCell ⟨X, o, none⟩ v)
def Blk1.other {W : World} {X : Nat} {T : TypeId} (s : Blk1 W X T) (R : Nat) (zs : Array Value) (U : TypeId) (hne : R ≠ X) : Blk1 W X T :=
 ⟨s.cs, fun w => BlockAt w R zs U ∧ s.e w, fun w w' h g => ⟨h.1.gr g, s.grow _ _ h.2 g⟩, fun w o v cs hb h => ⟨by haveI := h.1; haveI : BNe R X := ⟨hne⟩; infer_instance, s.set _ _ _ _ hb h.2⟩⟩
def Blk1.one (W : World) (X : Nat) (T : TypeId) (cs : Array Value) : Blk1 W X T := ⟨cs, fun _ => True, fun _ _ _ _ => trivial, fun _ _ _ _ _ _ => trivial⟩
def Blk1.put {W : World} {X : Nat} {T : TypeId} (s : Blk1 W X T) (o : Nat) (v : Value) : Blk1 W X T := ⟨s.cs.setIfInBounds o v, s.e, s.grow, s.set⟩
def Blk1.and {W : World} {X : Nat} {T : TypeId} (s : Blk1 W X T) (e : World → Prop) (hg : ∀ w w', e w → Gr w w' → e w') (hs : ∀ w o v cs, BlockAt w X cs T → e w → e (w.setCell ⟨X, o, none⟩ v)) : Blk1 W X T :=
 ⟨s.cs, fun w => e w ∧ s.e w, fun w w' h g => ⟨hg _ _ h.1 g, s.grow _ _ h.2 g⟩, fun w o v cs hb h => ⟨hs _ _ _ _ hb h.1, s.set _ _ _ _ hb h.2⟩⟩
section
variable {P : Program} {md : Region.Mode} {W : World} {S : Type} {I : S → World → Prop} {l : List Oper} {Lq : S → Act → Prop}
def freeAll (md : Region.Mode) (ops : Array Oper) : List Nat → Array Bool → Bool
 | [], _ => true
 | k :: r, listed => (Region.ready md ops listed).contains k && Region.free md ops listed k && freeAll md ops r (listed.setIfInBounds k true)
def listAll : List Nat → Array Bool → Array Bool
 | [], z => z
 | k :: r, z => listAll r (z.setIfInBounds k true)
theorem feAny_lexT (hsel : Region.noSelect l.toArray = true) (n : Nat) :
  ∀ (qs : List Nat) (listed : Array Bool) (s : S) (a : Act), freeAll md l.toArray qs listed = true → wpCalm P l.toArray W (fun a' => feAny P md l.toArray W I Lq n (listAll qs listed) s a') (pick l qs) a →
   feAny P md l.toArray W I Lq (qs.length + n) listed s a
 | [], listed, s, a, hB, h => by
  rw [List.length_nil, Nat.zero_add]
  exact h
 | k :: r, listed, s, a, hB, h => by
  simp only [freeAll, Bool.and_eq_true] at hB
  obtain ⟨⟨hr, hf⟩, hB'⟩ := hB
  have hr' : k ∈ Region.ready md l.toArray listed := by simpa using hr
  obtain ⟨_, o, ho, _⟩ := mem_ready.1 hr'
  have ho' : l[k]? = some o := by simpa using ho
  rw [pick_cons ho'] at h
  rw [show (k :: r).length + n = (r.length + n) + 1 by simp; omega]
  unfold wpCalm at h
  by_cases hw : Region.wanted o (yielded l.toArray a.tmps) = true
  ·simp only [hw, if_true] at h
   obtain ⟨v, hv, hk⟩ := h
   exact feAny_first ho (Region.noSelect_spec hsel) _ listed s a (Region.free_spec ho hf) hr' (.inl ⟨hw, hv⟩) (feAny_lexT hsel n r _ _ _ hB' hk)
  ·simp only [hw] at h
   exact feAny_first ho (Region.noSelect_spec hsel) _ listed s a (Region.free_spec ho hf) hr' (.inr ⟨by simpa using hw, rfl⟩) (feAny_lexT hsel n r _ _ _ hB' h)
def treeB (md : Region.Mode) (ops : Array Oper) (qs : List Nat) (n : Nat) : Bool :=
 Region.noSelect ops && decide (qs.length + n = ops.size) && freeAll md ops qs (Array.replicate ops.size false)
theorem wp_region_tree {id : Nat} {Q : Exit → Act → World → Prop} {a : Act} {w : World} (G : Ghost W I) (s : S) (hw : I s w.drew) (qs : List Nat) (n : Nat) (hm : P.follows .mixedOrders = true) (hB : treeB .any l.toArray qs n = true)
  (h : wpCalm P l.toArray W (fun a' => feAny P .any l.toArray W I (fun s a3 => ∀ w', I s w' → Q .normal a3 w') n (listAll qs (Array.replicate l.toArray.size false)) s a') (pick l qs) a) : (Code.region id l.toArray true).wp P Q a w := by
 simp only [treeB, Bool.and_eq_true, decide_eq_true_eq] at hB
 obtain ⟨⟨hsel, hlen⟩, hlex⟩ := hB
 have H := feAny_lexT (md := .any) (P := P) (W := W) (I := I) hsel n qs _ s a hlex h
 refine wp_region_any hm ?_
 have := feAny_any (Q' := Q) G (fun s a' w' hw' (hL : ∀ w', I s w' → Q .normal a' w') => hL w' hw') _ _ _ _ _ hw H
 rw [hlen] at this
 exact this
section
variable {ops : Array Oper} {L : S → Act → Prop} {f : Nat} {listed : Array Bool} {s : S} {a : Act}
theorem fe_one (i : Nat) (hr : Region.ready md ops listed = [i]) (h : feOp P ops W I i (feAny P md ops W I L f (listed.setIfInBounds i true)) s a) : feAny P md ops W I L (f + 1) listed s a :=
 ⟨fun h0 => by (rw [hr] at h0; cases h0), fun k hk => by (rw [hr] at hk; obtain rfl : k = i := by simpa using hk); exact h⟩
theorem fe_two (i j : Nat) (hr : Region.ready md ops listed = [i, j]) (hi : feOp P ops W I i (feAny P md ops W I L f (listed.setIfInBounds i true)) s a) (hj : feOp P ops W I j (feAny P md ops W I L f (listed.setIfInBounds j true)) s a) : feAny P md ops W I L (f + 1) listed s a :=
 ⟨fun h0 => by (rw [hr] at h0; cases h0), fun k hk => by
  rw [hr] at hk
  rcases List.mem_cons.1 hk with rfl | hk
  ·exact hi
  ·obtain rfl : k = j := by simpa using hk
   exact hj⟩
theorem fe_end (hr : Region.ready md ops listed = []) (h : L s a) : feAny P md ops W I L 0 listed s a := ⟨hr, h⟩
theorem fe_eff {K : S → Act → Prop} {i : Nat} (o : Oper) (ho : ops[i]? = some o) (hg : o.guard = none) (h : ∀ w, I s w → EffAt P o a w (fun v w' => ∃ s', I s' w' ∧ K s' (a.put o.dst v))) : feOp P ops W I i K s a :=
 .inr ⟨o, ho, by simp [Region.wanted, hg], h⟩
theorem fe_calm {K : S → Act → Prop} {i : Nat} (o : Oper) (v : Value) (ho : ops[i]? = some o) (hg : o.guard = none) (hc : ∀ g : Growth W, calmAt P o a (grown W g) v) (h : K s (a.put o.dst v)) : feOp P ops W I i K s a :=
 .inl ⟨o, ho, v, .inl ⟨by simp [Region.wanted, hg], hc⟩, h⟩
end
end
structure Cls (W : World) where
 e : World → Prop
 grow : ∀ w w', e w → Gr w w' → e w'
def InCls (W : World) (s : Cls W) (w : World) : Prop := Gr W w ∧ s.e w
theorem inCls_ghost (W : World) : Ghost W (InCls W) := ⟨fun s w w' h g => ⟨h.1.trans g, s.grow _ _ h.2 g⟩, fun s w h => h.1⟩
def Cls.none (W : World) : Cls W := ⟨fun _ => True, fun _ _ _ _ => trivial⟩
theorem effAt_alloc {P : Program} {o : Oper} {a : Act} {w : World} {T : TypeId} {z : Value} {R : Value → World → Prop} (ho : o.op = .alloc T) (hz : ∀ w, (zeroValue T).run P w = .ok z w) (h : R (.pointer (some ⟨w.heap.size, 0, none⟩)) (w.alloc (.cells z.cells T))) : EffAt P o a w R := by
 unfold EffAt execOp
 simp only [ho]
 simp [Sem.run_bind, hz, go_sem]
 exact h
section
variable {P : Program} {md : Region.Mode} {ops : Array Oper} {W : World} {L : Blocks → Act → Prop} {f : Nat} {listed : Array Bool} {bs : Blocks} {a : Act}
theorem mixw_ghost (W : World) : Ghost W (MixWorld W) := ⟨fun s w w' h g => h.grow g, fun s w h => h.1⟩
theorem mixw_nil (w : World) : MixWorld w [] w.drew := ⟨Gr.of ((Below.refl _ _).drew), fun x hx => by cases hx⟩
theorem fe_mixAlloc {o : Oper} {T : TypeId} {z : Value} (i : Nat) (hr : Region.ready md ops listed = [i]) (ho : ops[i]? = some o) (hg : o.guard = none) (hop : o.op = .alloc T) (hz : ∀ w, (zeroValue T).run P w = .ok z w)
  (h : ∀ b, W.heap.size ≤ b → (∀ x ∈ bs, x.1 ≠ b) → feAny P md ops W (MixWorld W) L f (listed.setIfInBounds i true) ((b, z.cells, T) :: bs) (a.put o.dst (.pointer (some ⟨b, 0, none⟩)))) : feAny P md ops W (MixWorld W) L (f + 1) listed bs a := by
 refine fe_one i hr (fe_eff o ho hg fun w hw => effAt_alloc hop hz ?_)
 have hs := hw.1.below.size
 refine ⟨(w.heap.size, z.cells, T) :: bs, ⟨hw.1.trans (Gr.of (below_alloc (Below.refl _ _) _)), fun x hx => ?_⟩, h _ hs fun x hx e => ?_⟩
 ·rcases List.mem_cons.1 hx with rfl | hx
  ·exact heap_alloc_new w _
  ·have h1 := hw.2 x hx
   exact (Below.heap_alloc w _ x.1 (Array.getElem?_eq_some_iff.1 h1).1).trans h1
 ·have h1 := (Array.getElem?_eq_some_iff.1 (hw.2 x hx)).1
  omega
theorem fe_mixStore {o : Oper} {T ty : TypeId} {x y : Operand} {b : Nat} {zs : Array Value} (i : Nat) (bs' : Blocks) (cs : Array Value) (hr : Region.ready md ops listed = [i]) (ho : ops[i]? = some o) (hg : o.guard = none) (hop : o.op = .store ty x y)
  (hx : a.eval x = .pointer (some ⟨b, 0, none⟩)) (hb : (b, zs, T) ∈ bs) (hW : W.heap.size ≤ b) (hy : (a.eval y).cells = cs) (hi : (P.info? ty).map (·.size) = some cs.size) (hold : zs.size = cs.size) (h1 : cs.toList.all (·.oneCell') = true)
  (hp : ∀ z ∈ bs', z = (b, cs, T) ∨ (z ∈ bs ∧ z.1 ≠ b))
  (h : feAny P md ops W (MixWorld W) L f (listed.setIfInBounds i true) bs' (a.put o.dst undef)) : feAny P md ops W (MixWorld W) L (f + 1) listed bs a := by
 refine fe_one i hr (fe_eff o ho hg fun w hw => ?_)
 have hh := hw.2 _ hb
 have hrun : (storeVar ty ⟨b, 0, none⟩ (a.eval y)).run P w = .ok () (w.setRow b cs) := by
  have := run_storeCells_from (P := P) b T cs.toList 0 zs w hh (by simp; omega) (fun v hv => List.all_eq_true.1 h1 v hv)
  cases hq : P.info? ty with
  | none => simp [hq] at hi
  | some i =>
   have hs : cs.size = i.size := by simp [hq] at hi; omega
   simp [storeVar, sizeOf, typeInfo, hq, hy, hs, this]
 unfold EffAt execOp
 simp only [hop, hx, Instr.storeAt, Instr.sureAddr, Sem.run_bind, Sem.run_pure, Result.andThen_ok, hrun, effUpon]
 refine ⟨bs', ⟨Gr.of ?_, fun z hz => ?_⟩, h⟩
 ·exact hw.1.below.trans ⟨rfl, rfl, rfl, by simp [World.setRow], fun k hk => by
   simp only [World.setRow, Array.getElem?_modify]
   rw [if_neg (by omega)]⟩
 ·rcases hp z hz with rfl | ⟨h1, h2⟩
  ·exact setRow_heap w b zs _ T _ hh
  ·rw [← hw.2 z h1]
   simp only [World.setRow, Array.getElem?_modify]
   rw [if_neg (by omega)]
theorem fe_mixCalm {o : Oper} (i : Nat) (v : Value) (hr : Region.ready md ops listed = [i]) (ho : ops[i]? = some o) (hg : o.guard = none) (hc : ∀ g : Growth W, calmAt P o a (grown W g) v)
  (h : feAny P md ops W (MixWorld W) L f (listed.setIfInBounds i true) bs (a.put o.dst v)) : feAny P md ops W (MixWorld W) L (f + 1) listed bs a :=
 fe_one i hr (fe_calm o v ho hg hc h)
theorem calm_assign {o : Oper} {x : Operand} (g : Growth W) (hop : o.op = .assign x) : calmAt P o a (grown W g) (a.eval x) := by
 unfold calmAt execOp
 simp only [hop]
 simp [calmUpon]
end
end Go.Proofs.YtddckdhnolmjoaaGreat
