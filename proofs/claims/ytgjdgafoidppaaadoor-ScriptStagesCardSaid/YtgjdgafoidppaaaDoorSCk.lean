/- What the rows of layer 26 give a walk: the tables, a package variable that holds a number, the arguments' cells. Conditions: none. -/
import Derived.Test.YtgjdgafoidppaaaDoorSMl
import Derived.Test.YtgjdgafoidppaaaDoorLaw
import Derived.Test.YtgjdgafoidppaaaDoorCards
import Derived.Test.YtgjdgafoidppaaaDoorTie
import Derived.SevenTiedAt
import Derived.LaidHandle
import Derived.Handed
import Derived.ChangeSame
import Derived.ChangeVars
import Derived.RowKit
import Derived.LaidLaws
import Derived.LaidSub
import Derived.Lib.LaidTab
import Derived.Lay
import Derived.WideShapes
namespace Go.Proofs.YtgjdgafoidppaaaDoor
open Go.RowKit Go.ChangeShapes Go.WideShapes
set_option linter.unusedVariables false
set_option linter.unusedSimpArgs false
set_option linter.unnecessarySimpa false
section
variable {H : Type} {enc : TypeId × Value → H}
/-- The wrap: a condition on the world, and the world's shape. -/
theorem returns_shaped {a : Assume} {C : Checked} {os : Os} {f : FuncId} {fn : Func} {s : ChangeSpec} {conds : List PathCond} {apart fresh handsOn again : Bool} {X : World → Array Value → Prop}
    (hX : ∀ (w w' : World) (args : Array Value), w.heap = w'.heap → X w args → X w' args)
    (own : ownKnob C.prog.godebug = none) (started : os.Started) (noInit : C.prog.inits.idxOf? f = none) (hfn : C.prog.funcs[f]? = some fn)
    (witness : ∃ (w : World) (tape : Tape) (i : Input), w.os = os ∧ (w.forCall tape i).Shaped C.prog ∧ i.vars = [] ∧ Input.okWide C.prog (w.forCall tape i) .any w.heap.size f i ∧
      ((s.pre enc C.prog fn conds apart (w.forCall tape i).memory i.args ∧ X (w.forCall tape i).memory i.args) ∧ sizedMet enc C.prog fn (OpenSpec.ofChange s) apart (w.forCall tape i).memory i.args) ∧ a.holds C.prog (lone (Frame.enter C.prog f i.args .normal) [] (w.forCall tape i)))
    (contract : ∀ (W : World) (base : Nat) (args : Array Value) (ds gs : List (DataW H)) (before : List MemPlace),
      (∀ (j : Nat) t v, fn.params[j]? = some t → args[j]? = some v → Value.okWide C.prog W .any base t v) →
      DataW.Whole enc C.prog fn.params.toList s.vars apart W args.toList ds gs before → X W args → W.ShapedOpen C.prog →
      Calls C.prog f args W fun e W' => ∃ v, e = .returned v ∧ s.post enc C.prog fn apart fresh handsOn again W args v W') :
    ReturnsInHanded a C os f .any (fun w args => (s.pre enc C.prog fn conds apart w args ∧ X w args) ∧ sizedMet enc C.prog fn (OpenSpec.ofChange s) apart w args) (s.post enc C.prog fn apart fresh handsOn again) := by
  refine returnsInHanded_of_calls own started noInit witness ?_
  rintro w tape i _ hsh _ ⟨_, _, _, fn', hfn', _, _, _, _, hval⟩ ⟨⟨⟨ds, gs, before, hw, hc⟩, hx⟩, hz⟩ _
  obtain rfl : fn' = fn := Option.some.inj (hfn'.symm.trans hfn)
  refine (contract (w.forCall tape i) w.heap.size i.args ds gs before hval (DataW.Whole.of_heap (w' := w.forCall tape i) (by rfl) hw) (hX _ _ _ (by rfl) hx) hsh).mono fun e W' ⟨v, he, hp⟩ => ?_
  subst he
  exact ChangeSpec.post_blind hp
end
theorem own : ownKnob Tryd.prog.godebug = none := by kernel_rfl
theorem laidOut : laidOutB Tryd.prog = true := by kernel_rfl
theorem pow_type : (Tryd.prog.globals[1]?).map (·.type) = some 141 := by kernel_rfl
theorem pow_under : Tryd.prog.underlying 141 = some (.array 20 44) := by kernel_rfl
set_option maxRecDepth 100000 in
theorem begin_row (g : Nat) (hg : g < Tryd.prog.globals.size) (x : Array Value × TypeId) (hx : (((begin Tryd.prog (fun _ _ => 0) default).world.heap[g]?).bind Obj.row?) = some x) {W : World} (h : W.ShapedOpen Tryd.prog) : g < W.heap.size := by
  obtain ⟨cs, hc, _⟩ := h.1 g x.1 x.2 hg hx
  exact (Array.getElem?_eq_some_iff.1 hc).1
set_option maxRecDepth 100000 in
/-- The tables, off a row's list, the world's shape. -/
theorem tb_laid {W : World} (hs : W.ShapedOpen Tryd.prog) (h1 : laidMet Tryd.prog [("internal/strconv.uint64pow10", Lib.tabData .u64 Lib.pow10Tab)] W) : Tb W :=
  ⟨Nat.succ_le_of_lt (begin_row 5 (by decide +kernel) _ rfl hs), Lib.tabIs_of_head global_pow pow_type pow_under (by kernel_rfl) (by kernel_rfl) (by kernel_rfl) h1⟩
set_option maxRecDepth 100000 in
theorem ml_shaped {W : World} (hs : W.ShapedOpen Tryd.prog) : Ml W := ⟨Tryd.laysM146.s1_3 W hs⟩
set_option maxRecDepth 100000 in
/-- An argument's cells, each of its type. -/
theorem open_cells {W : World} {base : Nat} {t : TypeId} {v : Value} {fs : Array Field} (ts : List TypeId) (ht : Tryd.prog.underlying t = some (.struct fs)) (hts : Tryd.prog.cellTypes Tryd.prog.depth t = some ts) (hn : Tryd.prog.cellsOf t = ts.length)
    (h : Value.okWide Tryd.prog W .any base t v) : ∃ cs : List Value, v = .agg cs.toArray ∧ cs.length = ts.length ∧ ∀ (i : Nat) c u, cs[i]? = some c → ts[i]? = some u → Cell.okWide Tryd.prog W .any base u c := by
  simp only [Value.okWide, ht] at h
  obtain ⟨cs, rfl, hsz, ts', hts', _, hc⟩ := h
  obtain rfl : ts' = ts := Option.some.inj (hts'.symm.trans hts)
  refine ⟨cs.toList, by simp, by simpa using hsz.trans hn, fun i c u hi hu => ?_⟩
  have hlt : i < ts'.length := (List.getElem?_eq_some_iff.1 hu).1
  obtain ⟨u', hu', hk⟩ := hc i c (by simpa using hi)
  rw [Nat.mod_eq_of_lt hlt] at hu'
  obtain rfl : u' = u := Option.some.inj (hu'.symm.trans hu)
  exact hk
set_option maxRecDepth 100000 in
theorem cell_int {W : World} {base : Nat} {t : TypeId} {k : IntKind} {c : Value} (ht : Tryd.prog.underlying t = some (.int k)) (h : Cell.okWide Tryd.prog W .any base t c) : ∃ n, c = .int k n ∧ k.has n := by
  simp only [Cell.okWide, ht] at h
  cases c <;> simp_all [Cell.ok]
set_option maxRecDepth 100000 in
theorem cell_bool {W : World} {base : Nat} {t : TypeId} {c : Value} (ht : Tryd.prog.underlying t = some .bool) (h : Cell.okWide Tryd.prog W .any base t c) : ∃ n, c = .bool n := by
  simp only [Cell.okWide, ht] at h
  cases c <;> simp_all [Cell.ok]
set_option maxRecDepth 100000 in
theorem open_stage {W : World} {base : Nat} {v : Value} (h : Value.okWide Tryd.prog W .any base 29 v) : ∃ m0 m1 d0 d1 g : Int, v = .agg #[.int .i64 m0, .int .i64 m1, .int .i64 d0, .int .i64 d1, .int .i64 g] := by
  obtain ⟨cs, rfl, hl, hc⟩ := open_cells [3, 3, 3, 3, 3] Tryd.underlying29 (by kernel_rfl) (by kernel_rfl) h
  obtain ⟨a, b, c, d, e, rfl⟩ := list_len5 hl
  obtain ⟨m0, rfl, _⟩ := cell_int Tryd.underlying3 (hc 0 a _ rfl rfl)
  obtain ⟨m1, rfl, _⟩ := cell_int Tryd.underlying3 (hc 1 b _ rfl rfl)
  obtain ⟨d0, rfl, _⟩ := cell_int Tryd.underlying3 (hc 2 c _ rfl rfl)
  obtain ⟨d1, rfl, _⟩ := cell_int Tryd.underlying3 (hc 3 d _ rfl rfl)
  obtain ⟨g, rfl, _⟩ := cell_int Tryd.underlying3 (hc 4 e _ rfl rfl)
  exact ⟨m0, m1, d0, d1, g, rfl⟩
end Go.Proofs.YtgjdgafoidppaaaDoor
