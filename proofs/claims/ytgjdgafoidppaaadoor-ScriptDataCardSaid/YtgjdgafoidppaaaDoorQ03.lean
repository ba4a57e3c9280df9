/- strings.Split at one letter, with what it asks of the world. Conditions: internal/bytealg.MaxLen holds a number; a text of less than 2^32 - 15 bytes. Opening a law's arguments, and reading them again behind the call. Conditions: the types can be read. What the rows of layer 26 give a walk: the tables, a package variable that holds a number, the arguments' cells. Conditions: none. What the writers of a strings.Builder do, at a builder that the call itself has made. Conditions: what is held and written is at most 2^47 bytes. What small functions of layers 13, 26 answer. Conditions: what is read stands in memory. wire.Hex, script.sectorText. Conditions: what is read stands in memory. script.sectorText, script.rowText. Conditions: what is read stands in memory. script.DataText: whole sectors, told one behind the other. Conditions: what is read stands in memory; at most 100000 bytes. Blocks whose cells are known, found by instances at any depth. Conditions: none. A slice of the call's own, of elements of one cell: what keeps it, and 'l = append(l, x..)'. Conditions: at most 10^8 elements. The letters of what the kinds have, one by one. Conditions: none. strings.IndexRune at hex's letters. Conditions: the rune is at most 0x10FFFF. -/
import Derived.Test.YtgjdgafoidppaaaDoorQ01
import Derived.Test.YtgjdgafoidppaaaDoorQ02
import Derived.Lib.Strings
import Derived.Carry
import Derived.Deep.Fields
import Derived.ShutString
import Derived.Test.YtgjdgafoidppaaaDoorCards
import Derived.Test.YtgjdgafoidppaaaDoorTie
import Derived.SevenTiedAt
import Derived.LaidHandle
import Derived.Handed
import Derived.ChangeSame
import Derived.ChangeVars
import Derived.RowKit
import Derived.LaidLaws
import Derived.LaidSub
import Derived.Lib.LaidTab
import Derived.Lay
import Derived.WideShapes
import Derived.Shelf.Strings.BuilderK
import Derived.Lib.FrozenHead2
import Derived.Lib.OthersKept
import Derived.BigCall
import Derived.LoopTactic
import Derived.Outline
import Derived.Deep.AppendLies
import Derived.OwnWalk
import Derived.WalkKit
import Derived.BigQuiet
import Derived.Deep.QuietTactic
import Derived.WalkSmall
namespace Go.Proofs.YtgjdgafoidppaaaDoor
open Go.RowKit
set_option linter.unusedVariables false
set_option linter.unusedSimpArgs false
/-- internal/bytealg.MaxLen holds a number. -/
class Ml (W : World) : Prop where
  ml : ∃ m, W.cell? ⟨0, 0, none⟩ = some (.int .i64 m)
theorem Ml.keep {W W' : World} (h : Ml W) (hk : W'.heap[0]? = W.heap[0]?) : Ml W' := by
  obtain ⟨m, hm⟩ := h.ml
  refine ⟨m, ?_⟩
  simp only [World.cell?] at hm ⊢
  rw [hk]; exact hm
theorem Ml.lt {W : World} (h : Ml W) : 0 < W.heap.size := by
  obtain ⟨m, hm⟩ := h.ml
  exact (old_of_cell hm).lt
instance (W : World) (o : Obj) [h : Ml W] : Ml (W.alloc o) := h.keep (Below.heap_alloc W o _ h.lt)
instance (W : World) (g : Growth W) [h : Ml W] : Ml (grown W g) := h.keep (g.below.block _ h.lt)
instance (W : World) [h : Ml W] : Ml W.drew := h.keep rfl
instance (W : World) (b o : Nat) (v : Value) [h : Ml W] [hf : Far b] : Ml (W.setCell ⟨b, o, none⟩ v) := h.keep (Below.heap_setCell W ⟨b, o, none⟩ v _ (by have := hf.le; show 0 ≠ b; omega))
instance (W : World) (k : Nat) (s : ByteArray) (pos : Nat) [h : Ml W] [hf : Far k] : Ml (W.iterAt k s pos) := h.keep (Lib.iterAt_other W k _ s pos (by have := hf.le; omega))
/-- A text's words. -/
def wordsB (c : UInt8) (s : ByteArray) : List ByteArray := (cutL c s.data.toList).map fun l => ⟨l.toArray⟩
theorem wordsB_data (c : UInt8) (s : ByteArray) : (wordsB c s).map (·.data.toList) = cutL c s.data.toList := by
  simp [wordsB, Function.comp_def]
theorem wordsB_ne (c : UInt8) (s : ByteArray) : wordsB c s ≠ [] := by
  intro h
  exact cutL_ne c s.data.toList (by simpa [wordsB] using h)
theorem splitB_words (c : UInt8) (s : ByteArray) : Lib.splitB ⟨#[c]⟩ 0 (Lib.countB s ⟨#[c]⟩) s = wordsB c s := by
  have h := splitB_one c s
  have h2 : (Lib.splitB ⟨#[c]⟩ 0 (Lib.countB s ⟨#[c]⟩) s).map (fun x => (⟨x.data.toList.toArray⟩ : ByteArray)) = wordsB c s := by
    rw [wordsB, ← h, List.map_map]; rfl
  rw [← h2]
  simp
theorem wordsB_len (c : UInt8) (s : ByteArray) : (wordsB c s).length = Lib.countB s ⟨#[c]⟩ + 1 := by
  rw [← splitB_words]
  exact Lib.splitB_all ⟨#[c]⟩ (Nat.le_refl 1) 0 _ s rfl
theorem wordsB_le (c : UInt8) (s : ByteArray) : (wordsB c s).length ≤ s.size + 1 := by
  have := cutL_len_le c s.data.toList
  rw [Lib.size_eq]
  simpa [wordsB] using this
theorem wordsB_each (c : UInt8) (s x : ByteArray) (h : x ∈ wordsB c s) : x.size ≤ s.size := by
  simp only [wordsB, List.mem_map] at h
  obtain ⟨l, hl, rfl⟩ := h
  have := cutL_each c s.data.toList l hl
  rw [Lib.size_eq s]
  exact this
theorem split_any (s : ByteArray) (c : UInt8) (W : World) [h : Ml W] (hs : s.size < 4294967281) :
    Calls Tryd.prog 27 #[.string s, .string ⟨#[c]⟩] W fun e w' => e = .returned (.slice (some ⟨W.heap.size, 0, none⟩) (wordsB c s).length (wordsB c s).length) ∧ w' = W.alloc (.cells ((wordsB c s).map Value.string).toArray 9) := by
  obtain ⟨m, hm⟩ := h.ml
  have h1 := Tryd.strings_Split s ⟨#[c]⟩ m W hs hm (Nat.le_refl 1)
  rw [splitB_words] at h1
  rw [wordsB_len]
  exact h1
end Go.Proofs.YtgjdgafoidppaaaDoor
namespace Go.Proofs.YtgjdgafoidppaaaDoor
open Go.ChangeShapes Go.WideShapes Go.ChangeAt Go.RowKit Go.Deep
section
variable {H : Type} {enc : TypeId × Value → H} {P : Program}
def typesRead (P : Program) (ts : List TypeId) : Bool := ts.all fun t => P.readableRec t && decide (t < P.types.size)
/-- All arguments read behind the call as they did, where nothing that stood has turned. -/
theorem trodAll_below (hl : laidOutB P = true) {W W' : World} (hb : Below W.heap.size W W') :
    ∀ {ts : List TypeId} {vs : List Value} {ds : List (DataW H)} {ps : List MemPlace}, typesRead P ts = true →
      DataW.TrodAll enc P W 0 (fun _ => true) true ts vs ds ps → (∀ x ∈ ps, x.block < W.heap.size) → DataW.TrodAll enc P W' 0 (fun b => decide (b < W.heap.size)) true ts vs ds ps
  | [], [], [], _, _, h, _ => h
  | [], [], _ :: _, _, _, h, _ => h.elim
  | [], _ :: _, _, _, _, h, _ => h.elim
  | _ :: _, [], _, _, _, h, _ => h.elim
  | _ :: _, _ :: _, [], _, _, h, _ => h.elim
  | t :: ts, v :: vs, d :: ds, ps, hr, h, hlt => by
    obtain ⟨p, q, h1, h2, rfl⟩ := h
    simp only [typesRead, List.all_cons, Bool.and_eq_true, decide_eq_true_eq] at hr
    exact ⟨p, q, Below.trod hl hr.1.1 hr.1.2 h1 hb (fun x hx => hlt x (by simp [hx])), trodAll_below hl hb (by simpa [typesRead] using hr.2) h2 (fun x hx => hlt x (by simp [hx])), rfl⟩
variable {w : World} {base : Nat} {spare : Nat → Bool} {held : Bool}
/-- A struct of one-cell fields, by value: its cells, each with its own reading. -/
theorem open_fields {r : Reach} {b0 : Nat} {t : TypeId} {fs : Array Field} {v : Value} {d : DataW H} {p : List MemPlace} (hs : P.underlying t = some (.struct fs)) (hone : oneCellFields P fs = true) (hC : P.cellsOf t = fs.size)
    (hv : Value.okWide P w r b0 t v) (h : DataW.Trod enc P w base spare held t v d p) :
    ∃ cs : List Value, v = .agg cs.toArray ∧ cs.length = fs.size ∧ ∃ n, ∀ (j : Nat) (f : Field) (c : Value), fs[j]? = some f → cs[j]? = some c → ∃ y, DataW.trod enc P w base spare held n f.type [c] = some y := by
  obtain ⟨cs, rfl, hsz⟩ := okWide_struct hs hv
  obtain ⟨fuel, hf⟩ := h
  obtain ⟨xs, n, _, _, _, hlen, hg⟩ := DataW.trod_struct hs hf
  refine ⟨cs.toList, rfl, by simpa using hsz.trans hC, n, fun j f c hj hc => ?_⟩
  obtain ⟨o, k⟩ := hone_of hone j f hj
  have h1 := hg j f hj
  have hjl : j < fs.size := (Array.getElem?_eq_some_iff.1 hj).1
  have e : ((Value.agg cs).cells.toList.drop f.offset).take (P.cellsOf f.type) = [c] := by
    rw [o, k]
    obtain ⟨hl, hv⟩ := List.getElem?_eq_some_iff.1 hc
    simp only [Value.cells]
    rw [List.drop_eq_getElem_cons hl]
    simp [hv]
  rw [e] at h1
  exact ⟨xs[j]'(by omega), h1.trans (List.getElem?_eq_getElem (by omega))⟩
theorem field_int {k : IntKind} {t : TypeId} {c : Value} {n : Nat} (ht : P.underlying t = some (.int k)) (h : ∃ y, DataW.trod enc P w base spare held n t [c] = some y) : ∃ a, c = .int k a ∧ (Lit.int k a).wf = true := by
  obtain ⟨y, hy⟩ := h
  obtain ⟨a, h1, _, h2⟩ := DataW.trod_int ht hy
  exact ⟨a, by simpa using h1, h2⟩
theorem field_bool {t : TypeId} {c : Value} {n : Nat} (ht : P.underlying t = some .bool) (h : ∃ y, DataW.trod enc P w base spare held n t [c] = some y) : ∃ a, c = .bool a := by
  obtain ⟨y, hy⟩ := h
  obtain ⟨a, h1, _⟩ := DataW.trod_bool ht hy
  exact ⟨a, by simpa using h1⟩
theorem list_len1 {α : Type} {cs : List α} (h : cs.length = 1) : ∃ z0, cs = [z0] := by
  match cs, h with
  | [z0], _ => exact ⟨z0, rfl⟩
theorem list_len2 {α : Type} {cs : List α} (h : cs.length = 2) : ∃ z0 z1, cs = [z0, z1] := by
  match cs, h with
  | [z0, z1], _ => exact ⟨z0, z1, rfl⟩
theorem list_len3 {α : Type} {cs : List α} (h : cs.length = 3) : ∃ z0 z1 z2, cs = [z0, z1, z2] := by
  match cs, h with
  | [z0, z1, z2], _ => exact ⟨z0, z1, z2, rfl⟩
theorem list_len4 {α : Type} {cs : List α} (h : cs.length = 4) : ∃ z0 z1 z2 z3, cs = [z0, z1, z2, z3] := by
  match cs, h with
  | [z0, z1, z2, z3], _ => exact ⟨z0, z1, z2, z3, rfl⟩
theorem list_len5 {α : Type} {cs : List α} (h : cs.length = 5) : ∃ z0 z1 z2 z3 z4, cs = [z0, z1, z2, z3, z4] := by
  match cs, h with
  | [z0, z1, z2, z3, z4], _ => exact ⟨z0, z1, z2, z3, z4, rfl⟩
theorem list_len6 {α : Type} {cs : List α} (h : cs.length = 6) : ∃ z0 z1 z2 z3 z4 z5, cs = [z0, z1, z2, z3, z4, z5] := by
  match cs, h with
  | [z0, z1, z2, z3, z4, z5], _ => exact ⟨z0, z1, z2, z3, z4, z5, rfl⟩
theorem list_len7 {α : Type} {cs : List α} (h : cs.length = 7) : ∃ z0 z1 z2 z3 z4 z5 z6, cs = [z0, z1, z2, z3, z4, z5, z6] := by
  match cs, h with
  | [z0, z1, z2, z3, z4, z5, z6], _ => exact ⟨z0, z1, z2, z3, z4, z5, z6, rfl⟩
theorem list_len8 {α : Type} {cs : List α} (h : cs.length = 8) : ∃ z0 z1 z2 z3 z4 z5 z6 z7, cs = [z0, z1, z2, z3, z4, z5, z6, z7] := by
  match cs, h with
  | [z0, z1, z2, z3, z4, z5, z6, z7], _ => exact ⟨z0, z1, z2, z3, z4, z5, z6, z7, rfl⟩
theorem list_len9 {α : Type} {cs : List α} (h : cs.length = 9) : ∃ z0 z1 z2 z3 z4 z5 z6 z7 z8, cs = [z0, z1, z2, z3, z4, z5, z6, z7, z8] := by
  match cs, h with
  | [z0, z1, z2, z3, z4, z5, z6, z7, z8], _ => exact ⟨z0, z1, z2, z3, z4, z5, z6, z7, z8, rfl⟩
theorem u64_bounds {a : Int} (h : (Lit.int .u64 a).wf = true) : 0 ≤ a ∧ a ≤ 18446744073709551615 := by
  simpa [Lit.wf, IntKind.min, IntKind.max, IntKind.signed, IntKind.bits] using h
theorem i64_bounds {a : Int} (h : (Lit.int .i64 a).wf = true) : -9223372036854775808 ≤ a ∧ a ≤ 9223372036854775807 := by
  simpa [Lit.wf, IntKind.min, IntKind.max, IntKind.signed, IntKind.bits] using h
theorem u8_bounds {a : Int} (h : (Lit.int .u8 a).wf = true) : 0 ≤ a ∧ a ≤ 255 := by
  simpa [Lit.wf, IntKind.min, IntKind.max, IntKind.signed, IntKind.bits] using h
end
end Go.Proofs.YtgjdgafoidppaaaDoor
namespace Go.Proofs.YtgjdgafoidppaaaDoor
open Go.RowKit Go.ChangeShapes Go.WideShapes
set_option linter.unusedVariables false
set_option linter.unusedSimpArgs false
set_option linter.unnecessarySimpa false
section
variable {H : Type} {enc : TypeId × Value → H}
/-- The wrap: a condition on the world, and the world's shape. -/
theorem returns_shaped {a : Assume} {C : Checked} {os : Os} {f : FuncId} {fn : Func} {s : ChangeSpec} {conds : List PathCond} {apart fresh handsOn again : Bool} {X : World → Array Value → Prop}
    (hX : ∀ (w w' : World) (args : Array Value), w.heap = w'.heap → X w args → X w' args)
    (own : ownKnob C.prog.godebug = none) (started : os.Started) (noInit : C.prog.inits.idxOf? f = none) (hfn : C.prog.funcs[f]? = some fn)
    (witness : ∃ (w : World) (tape : Tape) (i : Input), w.os = os ∧ (w.forCall tape i).Shaped C.prog ∧ i.vars = [] ∧ Input.okWide C.prog (w.forCall tape i) .any w.heap.size f i ∧
      ((s.pre enc C.prog fn conds apart (w.forCall tape i).memory i.args ∧ X (w.forCall tape i).memory i.args) ∧ sizedMet enc C.prog fn (OpenSpec.ofChange s) apart (w.forCall tape i).memory i.args) ∧ a.holds C.prog (lone (Frame.enter C.prog f i.args .normal) [] (w.forCall tape i)))
    (contract : ∀ (W : World) (base : Nat) (args : Array Value) (ds gs : List (DataW H)) (before : List MemPlace),
      (∀ (j : Nat) t v, fn.params[j]? = some t → args[j]? = some v → Value.okWide C.prog W .any base t v) →
      DataW.Whole enc C.prog fn.params.toList s.vars apart W args.toList ds gs before → X W args → W.ShapedOpen C.prog →
      Calls C.prog f args W fun e W' => ∃ v, e = .returned v ∧ s.post enc C.prog fn apart fresh handsOn again W args v W') :
    ReturnsInHanded a C os f .any (fun w args => (s.pre enc C.prog fn conds apart w args ∧ X w args) ∧ sizedMet enc C.prog fn (OpenSpec.ofChange s) apart w args) (s.post enc C.prog fn apart fresh handsOn again) := by
  refine returnsInHanded_of_calls own started noInit witness ?_
  rintro w tape i _ hsh _ ⟨_, _, _, fn', hfn', _, _, _, _, hval⟩ ⟨⟨⟨ds, gs, before, hw, hc⟩, hx⟩, hz⟩ _
  obtain rfl : fn' = fn := Option.some.inj (hfn'.symm.trans hfn)
  refine (contract (w.forCall tape i) w.heap.size i.args ds gs before hval (DataW.Whole.of_heap (w' := w.forCall tape i) (by rfl) hw) (hX _ _ _ (by rfl) hx) hsh).mono fun e W' ⟨v, he, hp⟩ => ?_
  subst he
  exact ChangeSpec.post_blind hp
end
theorem own : ownKnob Tryd.prog.godebug = none := by kernel_rfl
theorem laidOut : laidOutB Tryd.prog = true := by kernel_rfl
theorem pow_type : (Tryd.prog.globals[1]?).map (·.type) = some 141 := by kernel_rfl
theorem pow_under : Tryd.prog.underlying 141 = some (.array 20 44) := by kernel_rfl
set_option maxRecDepth 100000 in
theorem begin_row (g : Nat) (hg : g < Tryd.prog.globals.size) (x : Array Value × TypeId) (hx : (((begin Tryd.prog (fun _ _ => 0) default).world.heap[g]?).bind Obj.row?) = some x) {W : World} (h : W.ShapedOpen Tryd.prog) : g < W.heap.size := by
  obtain ⟨cs, hc, _⟩ := h.1 g x.1 x.2 hg hx
  exact (Array.getElem?_eq_some_iff.1 hc).1
set_option maxRecDepth 100000 in
/-- The tables, off a row's list, the world's shape. -/
theorem tb_laid {W : World} (hs : W.ShapedOpen Tryd.prog) (h1 : laidMet Tryd.prog [("internal/strconv.uint64pow10", Lib.tabData .u64 Lib.pow10Tab)] W) : Tb W :=
  ⟨Nat.succ_le_of_lt (begin_row 5 (by decide +kernel) _ rfl hs), Lib.tabIs_of_head global_pow pow_type pow_under (by kernel_rfl) (by kernel_rfl) (by kernel_rfl) h1⟩
set_option maxRecDepth 100000 in
theorem ml_shaped {W : World} (hs : W.ShapedOpen Tryd.prog) : Ml W := ⟨Tryd.laysM146.s1_3 W hs⟩
set_option maxRecDepth 100000 in
/-- An argument's cells, each of its type. -/
theorem open_cells {W : World} {base : Nat} {t : TypeId} {v : Value} {fs : Array Field} (ts : List TypeId) (ht : Tryd.prog.underlying t = some (.struct fs)) (hts : Tryd.prog.cellTypes Tryd.prog.depth t = some ts) (hn : Tryd.prog.cellsOf t = ts.length)
    (h : Value.okWide Tryd.prog W .any base t v) : ∃ cs : List Value, v = .agg cs.toArray ∧ cs.length = ts.length ∧ ∀ (i : Nat) c u, cs[i]? = some c → ts[i]? = some u → Cell.okWide Tryd.prog W .any base u c := by
  simp only [Value.okWide, ht] at h
  obtain ⟨cs, rfl, hsz, ts', hts', _, hc⟩ := h
  obtain rfl : ts' = ts := Option.some.inj (hts'.symm.trans hts)
  refine ⟨cs.toList, by simp, by simpa using hsz.trans hn, fun i c u hi hu => ?_⟩
  have hlt : i < ts'.length := (List.getElem?_eq_some_iff.1 hu).1
  obtain ⟨u', hu', hk⟩ := hc i c (by simpa using hi)
  rw [Nat.mod_eq_of_lt hlt] at hu'
  obtain rfl : u' = u := Option.some.inj (hu'.symm.trans hu)
  exact hk
set_option maxRecDepth 100000 in
theorem cell_int {W : World} {base : Nat} {t : TypeId} {k : IntKind} {c : Value} (ht : Tryd.prog.underlying t = some (.int k)) (h : Cell.okWide Tryd.prog W .any base t c) : ∃ n, c = .int k n ∧ k.has n := by
  simp only [Cell.okWide, ht] at h
  cases c <;> simp_all [Cell.ok]
set_option maxRecDepth 100000 in
theorem cell_bool {W : World} {base : Nat} {t : TypeId} {c : Value} (ht : Tryd.prog.underlying t = some .bool) (h : Cell.okWide Tryd.prog W .any base t c) : ∃ n, c = .bool n := by
  simp only [Cell.okWide, ht] at h
  cases c <;> simp_all [Cell.ok]
set_option maxRecDepth 100000 in
theorem open_stage {W : World} {base : Nat} {v : Value} (h : Value.okWide Tryd.prog W .any base 29 v) : ∃ m0 m1 d0 d1 g : Int, v = .agg #[.int .i64 m0, .int .i64 m1, .int .i64 d0, .int .i64 d1, .int .i64 g] := by
  obtain ⟨cs, rfl, hl, hc⟩ := open_cells [3, 3, 3, 3, 3] Tryd.underlying29 (by kernel_rfl) (by kernel_rfl) h
  obtain ⟨a, b, c, d, e, rfl⟩ := list_len5 hl
  obtain ⟨m0, rfl, _⟩ := cell_int Tryd.underlying3 (hc 0 a _ rfl rfl)
  obtain ⟨m1, rfl, _⟩ := cell_int Tryd.underlying3 (hc 1 b _ rfl rfl)
  obtain ⟨d0, rfl, _⟩ := cell_int Tryd.underlying3 (hc 2 c _ rfl rfl)
  obtain ⟨d1, rfl, _⟩ := cell_int Tryd.underlying3 (hc 3 d _ rfl rfl)
  obtain ⟨g, rfl, _⟩ := cell_int Tryd.underlying3 (hc 4 e _ rfl rfl)
  exact ⟨m0, m1, d0, d1, g, rfl⟩
end Go.Proofs.YtgjdgafoidppaaaDoor
namespace Go.Proofs.YtgjdgafoidppaaaDoor
open Go.RowKit
set_option linter.unusedVariables false
set_option linter.unusedSimpArgs false
set_option linter.unnecessarySimpa false
theorem bldSize : (Tryd.prog.info? 83).map (·.size) = some 2 := by kernel_rfl
theorem bldLies : liesAt Tryd.prog Tryd.prog.depth 83 (2 / Tryd.prog.cellsOf 83) 0 83 1 = true := by kernel_rfl
theorem infoByte : (Tryd.prog.info? 5).map (fun i => (i.zero, i.size, i.bytes)) = some (some (.int .u8 0), 1, 1) := by kernel_rfl
set_option maxHeartbeats 2000000 in
set_option maxRecDepth 100000 in
theorem copyCheck_fresh (b : Nat) (w : World) (h0 : w.cell? ⟨b, 0, none⟩ = some (.pointer none)) (hsh : w.shape? b = some (83, 2)) (hfz : w.frozen? ⟨b, 0, none⟩ = false) :
    Calls Tryd.prog 69 #[.pointer (some ⟨b, 0, none⟩)] w fun e w' => e = .returned (.tuple #[]) ∧ w' = w.setCell ⟨b, 0, none⟩ (.pointer (some ⟨b, 0, none⟩)) := by
  obtain ⟨j, hj, hjs⟩ := Option.map_eq_some_iff.1 bldSize
  go_enter Tryd.func69, Tryd.ntmps69
  go_wp2
  rw [Lib.run_to_unsafe w ⟨b, 0, none⟩ Tryd.underlying81 Tryd.underlying125 hj (by rw [hjs]; decide) hsh (Nat.zero_lt_succ 1)]
  simp only [Result.andThen]
  rw [Oper.upon_value]
  go_wp2
  rw [run_callFunc_extern Tryd.func87 (by kernel_rfl) (by kernel_rfl) (by kernel_rfl) (e := Extern.AbiNoEscape.same) (by kernel_rfl)]
  rw [Lib.run_noEscape]
  simp only [Result.andThen]
  rw [Oper.upon_value]
  go_wp2
  rw [Lib.run_from_unsafe w ⟨b, 0, none⟩ Tryd.underlying125 Tryd.underlying81 hj hsh bldLies]
  simp only [Result.andThen]
  rw [Oper.upon_value]
  go_wp2
  go_end0
  exact ⟨rfl, rfl⟩
set_option maxHeartbeats 2000000 in
set_option maxRecDepth 100000 in
theorem copyCheck_used (b : Nat) (w : World) (h0 : w.cell? ⟨b, 0, none⟩ = some (.pointer (some ⟨b, 0, none⟩))) :
    Calls Tryd.prog 69 #[.pointer (some ⟨b, 0, none⟩)] w fun e w' => e = .returned (.tuple #[]) ∧ w' = w := by
  obtain ⟨j, hj, _⟩ := Option.map_eq_some_iff.1 bldSize
  go_enter Tryd.func69, Tryd.ntmps69
  go_wp2
  rw [Lib.run_neq_ptr_same w _ Tryd.underlying81 hj]
  go_wp2
  go_end0
  exact ⟨rfl, rfl⟩
theorem copyCheck_k (B b : Nat) (bs : List Value) (w : World) (h : Lib.IsBuilderF 83 5 B b bs w) :
    Calls Tryd.prog 69 #[.pointer (some ⟨b, 0, none⟩)] w fun e w' => e = .returned (.tuple #[]) ∧ (Lib.BuilderAtF 83 5 B b (.pointer (some ⟨b, 0, none⟩)) bs w' ∧ Below B w w' ∧ Lib.OthersKept 5 (some b) w w') := by
  rcases h with h | h
  · refine (copyCheck_fresh b w h.cell0 h.shape h.frozen0).mono ?_
    rintro e w' ⟨rfl, rfl⟩
    exact ⟨rfl, h.used _, (Below.refl B w).setCell (p := ⟨b, 0, none⟩) h.1 _, (Lib.OthersKept.refl _ _ w).setCell ⟨b, 0, none⟩ rfl _⟩
  · refine (copyCheck_used b w h.cell0).mono ?_
    rintro e w' ⟨rfl, rfl⟩
    exact ⟨rfl, h, Below.refl B _, Lib.OthersKept.refl _ _ _⟩
set_option maxHeartbeats 2000000 in
set_option maxRecDepth 100000 in
theorem writeByte_k (B b : Nat) (bs : List Value) (c : Int) (w : World) (h : Lib.IsBuilderF 83 5 B b bs w) (hlen : bs.length + 1 ≤ 140737488355328) (hBw : B ≤ w.heap.size) :
    Calls Tryd.prog 83 #[.pointer (some ⟨b, 0, none⟩), .int .u8 c] w fun e w' => e = .returned .nilIface ∧ (Lib.BuilderAtF 83 5 B b (.pointer (some ⟨b, 0, none⟩)) (bs ++ [.int .u8 c]) w' ∧ Below B w w' ∧ Lib.OthersKept 5 (some b) w w') := by
  obtain ⟨i0, hi, hz0, hz1, hz2⟩ := info_parts infoByte
  go_enter Tryd.func83, Tryd.ntmps83
  go_wp2_with (go_at_call 69; refine (copyCheck_k B b bs _ h).mono ?_)
  rintro e w1 ⟨rfl, h1, hb1, hk1⟩
  obtain ⟨hB, v, hbk, hown, hne⟩ := h1
  have c0 : w1.cell? ⟨b, 0, none⟩ = some (.pointer (some ⟨b, 0, none⟩)) := by rw [Lib.cell_of_heap hbk]; rfl
  have c1 : w1.cell? ⟨b, 1, none⟩ = some v := by rw [Lib.cell_of_heap hbk]; rfl
  go_wp2_with (at_builtin; refine wpList_append_ownF _ rfl _ _ 41 rfl B 5 i0 (.int .u8 0) 1 1 Tryd.underlying41 hi hz0 hz1 hz2 rfl (by decide) _ _ _ rfl (hown.alloc _) ⟨w1.heap.size, 0, none⟩ 1 1 [.int .u8 c] rfl rfl ?c1 ?c2 ?c3 ?c4 ?c5 ?_)
  case c1 =>
    intro j u hj
    match j, hj with
    | 0, hj => simp at hj; subst hj; simp [Addr.add]
  case c2 => intro u hu; simp at hu; subst hu; rfl
  case c3 => unfold maxLen; omega
  case c4 => omega
  case c5 => have := hb1.size; simp; omega
  intro v' w2 hown' hgrow _
  have hlt : b < w1.heap.size := by
    rcases Nat.lt_or_ge b w1.heap.size with h' | h'
    · exact h'
    · simp [Array.getElem?_eq_none h'] at hbk
  have hb2 : w2.heap[b]? = some (.cells #[.pointer (some ⟨b, 0, none⟩), v] 83 (0, 0)) := by
    rw [hgrow.block b (by simp; omega) (fun e => hne e.symm), Lib.alloc_old w1 _ b hlt]
    exact hbk
  have d0 : w2.cell? ⟨b, 0, none⟩ = some (.pointer (some ⟨b, 0, none⟩)) := by rw [Lib.cell_of_heap hb2]; rfl
  have d1 : w2.cell? ⟨b, 1, none⟩ = some v := by rw [Lib.cell_of_heap hb2]; rfl
  have f1 : w2.frozen? ⟨b, 1, none⟩ = false := Lib.frozen_of_heap hb2 1
  obtain ⟨g, cap, rfl⟩ : ∃ g cap, v' = .slice (some ⟨g, 0, none⟩) (bs.length + 1) cap := by
    rcases hown'.2 with ⟨_, h0⟩ | ⟨g, cap, cur, fz, hv, _⟩
    · omega
    · exact ⟨g, cap, hv⟩
  go_wp2
  go_ret
  refine ⟨rfl, ?_, ?_, ((hk1.alloc _).grown hgrow (Lib.ownsRowF_kind (hown.alloc _))).setCell ⟨b, 1, none⟩ rfl _⟩
  · exact Lib.BuilderAtF.put (T := 83) (e := 5) hB hb2 (bs' := bs ++ [.int .u8 c]) (by simpa using hown') (by decide)
  · exact ((hb1.alloc (by have := hb1.size; omega) _).grown hgrow (by have := hb1.size; simp; omega) (fun k hk => (hown.lt k hk).1)).setCell (p := ⟨b, 1, none⟩) hB _
set_option maxHeartbeats 2000000 in
set_option maxRecDepth 100000 in
theorem writeString_k (B b : Nat) (bs : List Value) (s : ByteArray) (w : World) (h : Lib.IsBuilderF 83 5 B b bs w) (hlen : bs.length + s.size ≤ 140737488355328) (hBw : B ≤ w.heap.size) :
    Calls Tryd.prog 43 #[.pointer (some ⟨b, 0, none⟩), .string s] w fun e w' => e = .returned (.tuple #[.int .i64 s.size, .nilIface]) ∧ (Lib.BuilderAtF 83 5 B b (.pointer (some ⟨b, 0, none⟩)) (bs ++ Lib.strCells s) w' ∧ Below B w w' ∧ Lib.OthersKept 5 (some b) w w') := by
  obtain ⟨i0, hi, hz0, hz1, hz2⟩ := info_parts infoByte
  go_enter Tryd.func43, Tryd.ntmps43
  go_wp2_with (go_at_call 69; refine (copyCheck_k B b bs _ h).mono ?_)
  rintro e w1 ⟨rfl, h1, hb1, hk1⟩
  obtain ⟨hB, v, hbk, hown, hne⟩ := h1
  have c0 : w1.cell? ⟨b, 0, none⟩ = some (.pointer (some ⟨b, 0, none⟩)) := by rw [Lib.cell_of_heap hbk]; rfl
  have c1 : w1.cell? ⟨b, 1, none⟩ = some v := by rw [Lib.cell_of_heap hbk]; rfl
  go_wp2_with (at_builtin; refine Lib.wpList_append_own_stringF _ rfl _ _ 41 9 rfl B 5 i0 Tryd.underlying41 Tryd.underlying9 hi hz0 hz1 hz2 _ _ _ rfl hown s rfl ?c3 ?c4 ?c5 ?_)
  case c3 => unfold maxLen; omega
  case c4 => omega
  case c5 => have := hb1.size; omega
  intro v' w2 hown' hgrow _
  have hlt : b < w1.heap.size := by
    rcases Nat.lt_or_ge b w1.heap.size with h' | h'
    · exact h'
    · simp [Array.getElem?_eq_none h'] at hbk
  have hb2 : w2.heap[b]? = some (.cells #[.pointer (some ⟨b, 0, none⟩), v] 83 (0, 0)) := by
    rw [hgrow.block b hlt (fun e => hne e.symm)]
    exact hbk
  have d0 : w2.cell? ⟨b, 0, none⟩ = some (.pointer (some ⟨b, 0, none⟩)) := by rw [Lib.cell_of_heap hb2]; rfl
  have d1 : w2.cell? ⟨b, 1, none⟩ = some v := by rw [Lib.cell_of_heap hb2]; rfl
  have f1 : w2.frozen? ⟨b, 1, none⟩ = false := Lib.frozen_of_heap hb2 1
  obtain ⟨ao, n', cap, rfl⟩ : ∃ ao n' cap, v' = .slice ao n' cap := by
    rcases hown'.2 with ⟨hv, _⟩ | ⟨g, cap, cur, fz, hv, _⟩
    · exact ⟨_, _, _, hv⟩
    · exact ⟨_, _, _, hv⟩
  go_wp2
  go_ret2
  refine ⟨rfl, ?_, ?_, (hk1.grown hgrow (Lib.ownsRowF_kind hown)).setCell ⟨b, 1, none⟩ rfl _⟩
  · exact Lib.BuilderAtF.put (T := 83) (e := 5) hB hb2 (bs' := bs ++ Lib.strCells s) (by simpa [Lib.strCells_length] using hown') (by decide)
  · exact (hb1.grown hgrow (by have := hb1.size; omega) (fun k hk => (hown.lt k hk).1)).setCell (p := ⟨b, 1, none⟩) hB _
end Go.Proofs.YtgjdgafoidppaaaDoor
namespace Go.Proofs.YtgjdgafoidppaaaDoor
open Go.RowKit
set_option linter.unusedVariables false
set_option linter.unusedSimpArgs false
set_option linter.unnecessarySimpa false
def bv (b : UInt8) : Value := .int .u8 (b.toNat : Int)
def iv (n : Int) : Value := .int .i64 n
/-- A slice's elements. -/
structure Row {α : Type} (enc : α → Value) (W : World) (A : Option Addr) (l : List α) : Prop where
  at_ : l ≠ [] → ∃ b o, A = some ⟨b, o, none⟩ ∧ b < W.heap.size ∧ ∀ j x, l[j]? = some x → W.cell? ⟨b, o + j, none⟩ = some (enc x)
theorem Row.nil {α : Type} {enc : α → Value} {W : World} {A : Option Addr} : Row enc W A [] := ⟨fun h => absurd rfl h⟩
theorem Row.gr {α : Type} {enc : α → Value} {W W' : World} {A : Option Addr} {l : List α} (h : Row enc W A l) (hg : Gr W W') : Row enc W' A l :=
  ⟨fun h0 => by
    obtain ⟨b, o, rfl, hb, hc⟩ := h.at_ h0
    exact ⟨b, o, rfl, Nat.lt_of_lt_of_le hb hg.below.size, fun j x hx => (hg.below.cell (p := ⟨b, o + j, none⟩) hb).trans (hc j x hx)⟩⟩
theorem may26_any (n : Int) (w : World) : Calls Tryd.prog 50 #[.int .i64 n] w fun e w' => e = .returned (.bool (decide (0 ≤ n) && decide (n ≤ 1000000))) ∧ w = w' := by
  by_cases h : 0 ≤ n
  · by_cases h2 : n ≤ 1000000
    · go_enter Tryd.func50, Tryd.ntmps50
      go_wp2
      go_ret
      exact ⟨by simp [h, h2], rfl⟩
    · have h3 : decide (n ≤ 1000000) = false := by simpa using h2
      go_enter Tryd.func50, Tryd.ntmps50
      go_wp2
      go_ret
      exact ⟨by simp [h, h2], rfl⟩
  · have h3 : decide (0 ≤ n) = false := by simpa using h
    go_enter Tryd.func50, Tryd.ntmps50
    go_wp2
    go_ret
    exact ⟨by simp [h], rfl⟩
theorem beq_snoc {α : Type} [BEq α] [LawfulBEq α] {xs ys : List α} {k : Nat} (hx : k < xs.length) (hy : k < ys.length) (h : xs.take k = ys.take k) (he : xs[k] = ys[k]) : xs.take (k + 1) = ys.take (k + 1) := by
  rw [List.take_succ_eq_append_getElem hx, List.take_succ_eq_append_getElem hy, h, he]
theorem equalB_lens (A B : Option Addr) (n c m d : Nat) (w : World) (h : n ≠ m) :
    Calls Tryd.prog 85 #[.slice A n c, .slice B m d] w fun e w' => e = .returned (.bool false) ∧ Gr w w' := by
  have h2 : ((n : Int) != (m : Int)) = true := by simp; omega
  go_enter Tryd.func85, Tryd.ntmps85
  go_wp2
  go_ret
  exact ⟨rfl, gri⟩
theorem equalB_empty (A B : Option Addr) (c d : Nat) (w : World) :
    Calls Tryd.prog 85 #[.slice A 0 c, .slice B 0 d] w fun e w' => e = .returned (.bool true) ∧ Gr w w' := by
  go_enter Tryd.func85, Tryd.ntmps85
  go_wp2
  refine wp_loop_rounds 1 ?_
  rw [rounds_succ]
  go_wp2
  go_ret
  exact ⟨rfl, gri⟩
set_option maxHeartbeats 1000000 in
theorem equalB_some (b1 o1 b2 o2 n c d : Nat) (xs ys : List UInt8) (w : World) (hx : xs.length = n) (hy : ys.length = n) (hn : n ≤ 9223372036854775807)
    (h1 : ∀ (j : Nat) (x : UInt8), xs[j]? = some x → w.cell? ⟨b1, o1 + j, none⟩ = some (bv x)) (h2 : ∀ (j : Nat) (x : UInt8), ys[j]? = some x → w.cell? ⟨b2, o2 + j, none⟩ = some (bv x)) :
    Calls Tryd.prog 85 #[.slice (some ⟨b1, o1, none⟩) n c, .slice (some ⟨b2, o2, none⟩) n d] w fun e w' => e = .returned (.bool (xs == ys)) ∧ Gr w w' := by
  have H1 := Lib.hid h1; clear h1
  have H2 := Lib.hid h2; clear h2
  have HX := Lib.hid hx; clear hx
  have HY := Lib.hid hy; clear hy
  go_enter Tryd.func85, Tryd.ntmps85
  go_wp2
  go_loopw [13] (fun i wr => ∃ k : Nat, i = .int .i64 k ∧ k ≤ n ∧ xs.take k = ys.take k ∧ Gr w wr) (fun i _ => n - (intOf i).toNat)
  case atStart => exact ⟨0, rfl, by omega, rfl, Gr.refl _⟩
  case round =>
    obtain ⟨k, rfl, hk, he, hg⟩ := hrel
    obtain ⟨g, rfl⟩ := hg
    by_cases hlt : k < n
    · have hkx : k < xs.length := by have := HX.out; omega
      have hky : k < ys.length := by have := HY.out; omega
      have c1 := H1.out k xs[k] (List.getElem?_eq_getElem hkx)
      have c2 := H2.out k ys[k] (List.getElem?_eq_getElem hky)
      simp only [bv] at c1 c2
      haveI i1 : Old b1 w := old_of_cell c1
      haveI i2 : Old b2 w := old_of_cell c2
      have HE := Lib.hid he; clear he
      by_cases hq : xs[k] = ys[k]
      · have hb : ((xs[k].toNat : Int) != (ys[k].toNat : Int)) = false := by rw [hq]; simp
        have HQ := Lib.hid hq; clear hq
        go_wp2
        go_region
        all_goals go_wp2
        all_goals go_roundw
        case rel => exact ⟨k + 1, by go_num, by omega, beq_snoc hkx hky HE.out HQ.out, gri⟩
        case measure => simp [intOf]; omega
      · have hb : ((xs[k].toNat : Int) != (ys[k].toNat : Int)) = true := by
          simp only [bne_iff_ne, ne_eq]; intro h; exact hq (UInt8.toNat_inj.1 (by omega))
        have hne : (xs == ys) = false := by
          simp only [beq_eq_false_iff_ne, ne_eq]; intro h; subst h; exact hq rfl
        have HN := Lib.hid hne; clear hne hq
        go_wp2
        go_region
        all_goals go_wp2
        all_goals go_ret
        exact ⟨by rw [HN.out]; rfl, gri⟩
    · have hkn : k = n := by omega
      have hne : (xs == ys) = true := by
        have e1 : xs.take k = xs := List.take_of_length_le (by have := HX.out; omega)
        have e2 : ys.take k = ys := List.take_of_length_le (by have := HY.out; omega)
        rw [e1, e2] at he
        subst he; simp
      have HN := Lib.hid hne; clear hne he hkn
      go_wp2
      go_ret
      exact ⟨by rw [HN.out]; rfl, gri⟩
theorem equalB_any (A B : Option Addr) (n c m d : Nat) (xs ys : List UInt8) (w : World) (hx : xs.length = n) (hy : ys.length = m) (hn : n ≤ 9223372036854775807) (h1 : Row bv w A xs) (h2 : Row bv w B ys) :
    Calls Tryd.prog 85 #[.slice A n c, .slice B m d] w fun e w' => e = .returned (.bool (xs == ys)) ∧ Gr w w' := by
  by_cases h : n = m
  · subst h
    rcases Nat.eq_zero_or_pos n with h0 | h0
    · subst h0
      have e1 : xs = [] := List.eq_nil_of_length_eq_zero hx
      have e2 : ys = [] := List.eq_nil_of_length_eq_zero hy
      subst e1 e2
      exact equalB_empty A B c d w
    · obtain ⟨b1, o1, rfl, _, hc1⟩ := h1.at_ (by rintro rfl; simp at hx; omega)
      obtain ⟨b2, o2, rfl, _, hc2⟩ := h2.at_ (by rintro rfl; simp at hy; omega)
      exact equalB_some b1 o1 b2 o2 n c d xs ys w hx hy hn hc1 hc2
  · have : (xs == ys) = false := by simp only [beq_eq_false_iff_ne, ne_eq]; rintro rfl; omega
    rw [this]
    exact equalB_lens A B n c m d w h
end Go.Proofs.YtgjdgafoidppaaaDoor
namespace Go.Proofs.YtgjdgafoidppaaaDoor
open Go.RowKit
set_option linter.unusedVariables false
set_option linter.unusedSimpArgs false
set_option linter.unnecessarySimpa false
def hexd (n : Nat) : UInt8 := if n < 10 then (48 + n).toUInt8 else (87 + n).toUInt8
def hexL (l : List UInt8) : List UInt8 := l.flatMap fun c => [hexd (c.toNat / 16), hexd (c.toNat % 16)]
theorem hexL_snoc (l : List UInt8) (c : UInt8) : hexL (l ++ [c]) = hexL l ++ [hexd (c.toNat / 16), hexd (c.toNat % 16)] := by simp [hexL]
theorem hexL_len (l : List UInt8) : (hexL l).length = 2 * l.length := by
  induction l with
  | nil => rfl
  | cons c l ih => simp [hexL] at ih ⊢; omega
theorem letter_fin : ∀ i : Fin 16, (#[48, 49, 50, 51, 52, 53, 54, 55, 56, 57, 97, 98, 99, 100, 101, 102] : Array UInt8)[i.val]'(by have := i.isLt; simpa using this) = hexd i.val := by decide
theorem letter_at (i : Nat) (h : i < 16) {hp} : ((⟨#[48, 49, 50, 51, 52, 53, 54, 55, 56, 57, 97, 98, 99, 100, 101, 102]⟩ : ByteArray)[i]'hp) = hexd i := letter_fin ⟨i, h⟩
set_option maxRecDepth 100000 in
set_option maxHeartbeats 2000000 in
theorem hex_some (b o n c : Nat) (l : List UInt8) (w : World) (hl : l.length = n) (hn : n ≤ 35184372088832) (hb : b < w.heap.size) (hc : ∀ (j : Nat) (x : UInt8), l[j]? = some x → w.cell? ⟨b, o + j, none⟩ = some (bv x)) :
    Calls Tryd.prog 60 #[.slice (some ⟨b, o, none⟩) n c] w fun e w' => e = .returned (.string ⟨(hexL l).toArray⟩) ∧ Gr w w' := by
  have HC := Lib.hid hc; clear hc
  have HL := Lib.hid hl; clear hl
  go_enter Tryd.func60, Tryd.ntmps60
  go_wp2
  go_loopw [8] (fun i wr => ∃ k : Nat, i = .int .i64 k ∧ k ≤ n ∧ Lib.IsBuilderF 83 5 w.heap.size w.heap.size (Lib.byteCells (hexL (l.take k))) wr ∧ Below w.heap.size w wr) (fun i _ => n - (intOf i).toNat)
  case atStart => exact ⟨0, rfl, Nat.zero_le _, (Lib.IsBuilderF.of (Lib.fresh_isBuilder 83 5 w)), (Below.refl _ _).alloc (Nat.le_refl _) _⟩
  case round =>
    obtain ⟨k, rfl, hk, hI, hbw⟩ := hrel
    by_cases hlt : k < n
    · have hkx : k < l.length := by have := HL.out; omega
      obtain ⟨x, hx⟩ : ∃ x, l[k]? = some x := ⟨l[k], List.getElem?_eq_getElem hkx⟩
      have c1 := (hbw.cell (p := ⟨b, o + k, none⟩) hb).trans (HC.out k x hx)
      simp only [bv] at c1
      have hu := x.toNat_lt
      have HX := Lib.hid hx; clear hx hkx
      generalize hxu : x.toNat = u at c1 hu
      have HU := Lib.hid hxu; clear hxu
      have hu2 : u < 256 := by omega
      clear hu
      have hln : (Lib.byteCells (hexL (l.take k))).length ≤ 2 * k := by
        rw [Lib.byteCells_length, hexL_len, List.length_take]; omega
      have hsz := hbw.size
      go_wp2_with (go_at_call 83; refine (writeByte_k w.heap.size w.heap.size _ _ _ hI (by omega) (by simpa using hsz)).mono ?_)
      rintro e W1 ⟨rfl, h1, b1, k1⟩
      have hI1 : Lib.IsBuilderF 83 5 w.heap.size w.heap.size _ W1 := Or.inr h1
      have hsz1 := b1.size
      go_wp2_with (go_at_call 83; refine (writeByte_k w.heap.size w.heap.size _ _ _ hI1 (by simp only [List.length_append, List.length_cons, List.length_nil]; omega) (by omega)).mono ?_)
      rintro e W2 ⟨rfl, h2, b2, k2⟩
      go_wp2
      go_roundw
      case rel =>
        refine ⟨k + 1, by go_num, by omega, ?_, (hbw.trans b1).trans b2⟩
        have hx := HX.out
        have hkx : k < l.length := (List.getElem?_eq_some_iff.1 hx).1
        have e1 : l.take (k + 1) = l.take k ++ [x] := by
          rw [List.take_add_one, hx]; rfl
        have e2 : x.toNat = u := HU.out
        rw [e1, hexL_snoc, e2, Lib.byteCells_append]
        have h3 : Lib.IsBuilderF 83 5 w.heap.size w.heap.size _ W2 := Or.inr h2
        rw [letter_at (u / 16) (by omega), letter_at (u % 16) (by omega)] at h3
        rw [List.append_assoc] at h3
        exact h3
      case measure => simp [intOf]; omega
    · have hkn : k = n := by omega
      have e1 : l.take k = l := List.take_of_length_le (by have := HL.out; omega)
      rw [e1] at hI
      have HK := Lib.hid hkn; clear hkn e1
      have hsz := hbw.size
      go_wp2_with (go_at_call 46; refine (Tryd.Builder_String_any_k w.heap.size w.heap.size (hexL l) _ hI (by simpa using hsz)).mono ?_)
      rintro e W1 ⟨rfl, _, b1, _⟩
      go_wp2
      go_ret
      exact ⟨rfl, Gr.of (hbw.trans b1)⟩
theorem hex_none (A : Option Addr) (c : Nat) (w : World) :
    Calls Tryd.prog 60 #[.slice A 0 c] w fun e w' => e = .returned (.string ⟨#[]⟩) ∧ Gr w w' := by
  have hI : Lib.IsBuilderF 83 5 w.heap.size w.heap.size (Lib.byteCells []) (w.alloc (.cells #[.pointer none, .slice none 0 0] 83)) := Lib.IsBuilderF.of (Lib.fresh_isBuilder 83 5 w)
  go_enter Tryd.func60, Tryd.ntmps60
  go_wp2
  refine wp_loop_rounds 1 ?_
  rw [rounds_succ]
  go_wp2_with (go_at_call 46; refine (Tryd.Builder_String_any_k w.heap.size w.heap.size [] _ hI (by simp)).mono ?_)
  rintro e W1 ⟨rfl, _, b1, _⟩
  go_wp2
  go_ret
  exact ⟨rfl, Gr.of (((Below.refl _ _).alloc (Nat.le_refl _) _).trans b1)⟩
theorem hex_any (A : Option Addr) (n c : Nat) (l : List UInt8) (w : World) (hl : l.length = n) (hn : n ≤ 35184372088832) (h : Row bv w A l) :
    Calls Tryd.prog 60 #[.slice A n c] w fun e w' => e = .returned (.string ⟨(hexL l).toArray⟩) ∧ Gr w w' := by
  rcases Nat.eq_zero_or_pos n with h0 | h0
  · subst h0
    obtain rfl : l = [] := List.eq_nil_of_length_eq_zero hl
    exact hex_none A c w
  · obtain ⟨b, o, rfl, hb, hc⟩ := h.at_ (by rintro rfl; simp at hl; omega)
    exact hex_some b o n c l w hl hn hb hc
end Go.Proofs.YtgjdgafoidppaaaDoor
namespace Go.Proofs.YtgjdgafoidppaaaDoor
open Go.RowKit
set_option linter.unusedVariables false
set_option linter.unusedSimpArgs false
set_option linter.unnecessarySimpa false
def trimZ (l : List UInt8) : List UInt8 := (l.reverse.dropWhile (· == 0)).reverse
def secL (l : List UInt8) : List UInt8 := if trimZ l = [] then [45] else hexL (trimZ l)
theorem trimZ_zero (l : List UInt8) : trimZ (l ++ [0]) = trimZ l := by simp [trimZ]
theorem trimZ_ne (l : List UInt8) (c : UInt8) (h : c ≠ 0) : trimZ (l ++ [c]) = l ++ [c] := by simp [trimZ, h]
theorem ret_str {a b : ByteArray} (h : a = b) : Ending.returned (.string a) = .returned (.string b) := by rw [h]
theorem take_snoc1 {α : Type} {l : List α} {k : Nat} {x : α} (h : l[k]? = some x) : l.take (k + 1) = l.take k ++ [x] := by
  rw [List.take_add_one, h]; rfl
theorem sectorText_none (A : Option Addr) (c : Nat) (w : World) :
    Calls Tryd.prog 34 #[.slice A 0 c] w fun e w' => e = .returned (.string ⟨#[45]⟩) ∧ Gr w w' := by
  go_enter Tryd.func34, Tryd.ntmps34
  go_wp2
  refine wp_loop_rounds 1 ?_
  rw [rounds_succ]
  go_wp2
  go_ret
  exact ⟨rfl, gri⟩
set_option maxRecDepth 100000 in
set_option maxHeartbeats 2000000 in
theorem sectorText_some (b o n c : Nat) (l : List UInt8) (w : World) (hl : l.length = n) (hnc : n ≤ c) (hn : n ≤ 35184372088832) (hb : b < w.heap.size) (hc : ∀ (j : Nat) (x : UInt8), l[j]? = some x → w.cell? ⟨b, o + j, none⟩ = some (bv x)) :
    Calls Tryd.prog 34 #[.slice (some ⟨b, o, none⟩) n c] w fun e w' => e = .returned (.string ⟨(secL l).toArray⟩) ∧ Gr w w' := by
  have HC := Lib.hid hc; clear hc
  have HL := Lib.hid hl; clear hl
  go_enter Tryd.func34, Tryd.ntmps34
  go_wp2
  go_loopw [3] (fun i wr => ∃ m : Nat, i = .int .i64 m ∧ m ≤ n ∧ Hid (trimZ (l.take m) = trimZ l) ∧ wr = w) (fun i _ => (intOf i).toNat)
  case atStart => exact ⟨n, rfl, Nat.le_refl _, by rw [List.take_of_length_le (by have := HL.out; omega)]; exact Lib.hid rfl, rfl⟩
  case round =>
    obtain ⟨m, rfl, hm, hT, rfl⟩ := hrel
    rcases Nat.eq_zero_or_pos m with h0 | h0
    · subst h0
      have e0 : (⟨(secL l).toArray⟩ : ByteArray) = ⟨#[45]⟩ := by
        have := hT.out
        have e1 : trimZ l = [] := by rw [← this]; rfl
        simp [secL, e1]
      have E := Lib.hid e0; clear e0
      go_wp2
      go_ret
      exact ⟨by rw [E.out]; rfl, Gr.refl _⟩
    · obtain ⟨q, rfl⟩ : ∃ q, m = q + 1 := ⟨m - 1, by omega⟩
      have hqx : q < l.length := by have := HL.out; omega
      obtain ⟨x, hx⟩ : ∃ x, l[q]? = some x := ⟨l[q], List.getElem?_eq_getElem hqx⟩
      have c1 := HC.out q x hx
      simp only [bv] at c1
      have HX := Lib.hid hx; clear hx hqx h0
      by_cases hz : x = 0
      · have hxu : x.toNat = 0 := by rw [hz]; rfl
        have hb0 : ((x.toNat : Int) == 0) = true := by simp [hxu]
        have HZ := Lib.hid hz; clear hz hxu
        go_wp2
        go_roundw
        case rel => exact ⟨q, by go_num, by omega, by
          have := hT.out
          rw [take_snoc1 HX.out, HZ.out, trimZ_zero] at this
          exact Lib.hid this, trivial⟩
        case measure => simp [intOf]
      · have hxu : x.toNat ≠ 0 := fun h => hz (UInt8.toNat_inj.1 (by simpa using h))
        have hb0 : ((x.toNat : Int) == 0) = false := by simp; omega
        have e1 : trimZ l = l.take (q + 1) := by
          have := hT.out
          rw [take_snoc1 HX.out, trimZ_ne _ _ hz] at this
          rw [take_snoc1 HX.out]; exact this.symm
        have e2 : secL l = hexL (l.take (q + 1)) := by
          have hne : l.take (q + 1) ≠ [] := by rw [take_snoc1 HX.out]; simp
          rw [secL, e1, if_neg hne]
        have E := Lib.hid e2; clear e2 e1 hz hxu hT
        have hlt : (l.take (q + 1)).length = q + 1 := by
          have := HL.out; rw [List.length_take]; omega
        have HT := Lib.hid hlt; clear hlt
        have HR : Hid (Row bv wr (some ⟨b, o, none⟩) (l.take (q + 1))) := ⟨fun _ => ⟨b, o, rfl, hb, fun j y hy => HC.out j y (by
          rw [List.getElem?_take] at hy
          split at hy
          · exact hy
          · cases hy)⟩⟩
        go_wp2_with (go_at_call 60; ((with_reducible refine (hex_any _ _ _ (l.take (q + 1)) _ HT.out (by omega) HR.out).mono ?_); rintro _ _ ⟨rfl, g, rfl⟩))
        go_ret
        exact ⟨by rw [E.out]; rfl, gri⟩
theorem sectorText_any (A : Option Addr) (n c : Nat) (l : List UInt8) (w : World) (hl : l.length = n) (hnc : n ≤ c) (hn : n ≤ 35184372088832) (h : Row bv w A l) :
    Calls Tryd.prog 34 #[.slice A n c] w fun e w' => e = .returned (.string ⟨(secL l).toArray⟩) ∧ Gr w w' := by
  rcases Nat.eq_zero_or_pos n with h0 | h0
  · subst h0
    obtain rfl : l = [] := List.eq_nil_of_length_eq_zero hl
    exact sectorText_none A c w
  · obtain ⟨b, o, rfl, hb, hc⟩ := h.at_ (by rintro rfl; simp at hl; omega)
    exact sectorText_some b o n c l w hl hnc hn hb hc
/-- Words with a letter between. -/
def rowL (xs : List ByteArray) : List UInt8 := if xs = [] then [45] else Lib.join (xs.map (·.data.toList)) [44]
theorem rowText_any (A : Option Addr) (n c : Nat) (xs : List ByteArray) (w : World) (hl : xs.length = n) (hnc : n ≤ c) (hn : n ≤ 140737488355328) (hj : (Lib.join (xs.map (·.data.toList)) [44]).length ≤ 140737488355328) (h : Row Value.string w A xs) :
    Calls Tryd.prog 35 #[.slice A n c] w fun e w' => e = .returned (.string ⟨(rowL xs).toArray⟩) ∧ Gr w w' := by
  rcases Nat.eq_zero_or_pos n with h0 | h0
  · subst h0
    obtain rfl : xs = [] := List.eq_nil_of_length_eq_zero hl
    go_enter Tryd.func35, Tryd.ntmps35
    go_wp2
    go_ret
    exact ⟨rfl, gri⟩
  · obtain ⟨b, o, rfl, hb, hc⟩ := h.at_ (by rintro rfl; simp at hl; omega)
    have hne : xs ≠ [] := by rintro rfl; simp at hl; omega
    have e0 : rowL xs = Lib.join (xs.map (·.data.toList)) [44] := by rw [rowL, if_neg hne]
    have E := Lib.hid e0; clear e0 hne
    have hJ := Lib.hid (fun W (hb' : b < W.heap.size) (hc' : ∀ (j : Nat) x, xs[j]? = some x → W.cell? ⟨b, o + j, none⟩ = some (.string x)) => Tryd.strings_Join b o c xs ⟨#[44]⟩ W hc' hb' (by omega) (by omega) hj)
    subst hl
    have hc' : ∀ (j : Nat) x, xs[j]? = some x → w.cell? ⟨b, o + j, none⟩ = some (.string x) := hc
    have HC := Lib.hid hc'; clear hc hc' hj
    have h0' : ((xs.length : Int) == 0) = false := by simp; rintro rfl; simp at h0
    go_enter Tryd.func35, Tryd.ntmps35
    go_wp2_with (go_at_call 57; ((with_reducible refine (hJ.out _ hb HC.out).mono ?_); rintro _ w1 ⟨rfl, hb1⟩))
    go_ret
    exact ⟨by rw [E.out]; rfl, Gr.of hb1⟩
end Go.Proofs.YtgjdgafoidppaaaDoor
namespace Go.Proofs.YtgjdgafoidppaaaDoor
open Go.RowKit
set_option linter.unusedVariables false
set_option linter.unusedSimpArgs false
set_option linter.unnecessarySimpa false
theorem infoString : (Tryd.prog.info? 9).map (fun i => (i.zero, i.size, i.bytes)) = some (some (.string ⟨#[]⟩), 1, 16) := by kernel_rfl
/-- A slice of the call's own that holds these words. -/
def OwnS (base : Nat) (W : World) (v : Value) (xs : List ByteArray) : Prop := W.ownsRow base 9 1 v xs.length (xs.map Value.string)
theorem only_of_gr {W W' : World} (h : Gr W W') (row : Option Nat) : W.grownBy W' row := ⟨h.below.os, h.below.tape, h.below.output, h.below.size, fun i hi _ => h.below.block i hi⟩
theorem OwnS.gr {base : Nat} {W W' : World} {v : Value} {xs : List ByteArray} (h : OwnS base W v xs) (hg : Gr W W') : OwnS base W' v xs := by
  refine World.ownsRow.kept h (only_of_gr hg none) ?_
  cases hv : v.ownBlock with
  | none => exact .inl rfl
  | some g => exact .inr (by simp)
theorem OwnS.form {base : Nat} {W : World} {v : Value} {xs : List ByteArray} (h : OwnS base W v xs) : ∃ A c, v = .slice A xs.length c ∧ xs.length ≤ c ∧ Row Value.string W A xs := by
  have h0 := h
  rcases h.2 with ⟨rfl, hn⟩ | ⟨g, cap, cur, rfl, hb, hh, hnc, _⟩
  · have : xs = [] := List.eq_nil_of_length_eq_zero hn
    subst this
    exact ⟨none, 0, rfl, Nat.le_refl _, Row.nil⟩
  · refine ⟨_, _, rfl, hnc, ⟨fun _ => ⟨g, 0, rfl, (Array.getElem?_eq_some_iff.1 hh).1, fun j x hx => ?_⟩⟩⟩
    have := World.ownsRow.cells h0 (g := g) rfl j (.string x) (by simp [hx])
    rw [Go.WideShapes.add_plain] at this
    exact this
theorem OwnS.nil (base : Nat) (W : World) : OwnS base W (.slice none 0 0) [] := World.ownsRow_nil _ _ _ _
theorem Row.cut {α : Type} {enc : α → Value} {W : World} {A : Option Addr} {l : List α} (h : Row enc W A l) (k m : Nat) : Row enc W (A.map (·.add k)) ((l.drop k).take m) :=
  ⟨fun h0 => by
    have hl : l ≠ [] := by rintro rfl; simp at h0
    obtain ⟨b, o, rfl, hb, hc⟩ := h.at_ hl
    refine ⟨b, o + k, by simp [Go.WideShapes.add_plain], hb, fun j x hx => ?_⟩
    rw [List.getElem?_take] at hx
    split at hx
    · rw [List.getElem?_drop] at hx
      rw [Nat.add_assoc]
      exact hc (k + j) x hx
    · cases hx⟩
def secAt (l : List UInt8) (j : Nat) : ByteArray := ⟨(secL ((l.drop (64 * j)).take 64)).toArray⟩
def secs (l : List UInt8) (k : Nat) : List ByteArray := (List.range k).map (secAt l)
theorem secs_succ (l : List UInt8) (k : Nat) : secs l (k + 1) = secs l k ++ [secAt l k] := by simp [secs, List.range_succ]
theorem secs_len (l : List UInt8) (k : Nat) : (secs l k).length = k := by simp [secs]
def dataL (l : List UInt8) : List UInt8 := rowL (secs l (l.length / 64))
theorem trimZ_len (l : List UInt8) : (trimZ l).length ≤ l.length := by
  unfold trimZ
  rw [List.length_reverse]
  have := (List.dropWhile_suffix (fun x : UInt8 => x == 0) (l := l.reverse)).length_le
  simpa using this
theorem secL_len (l : List UInt8) : (secL l).length ≤ 2 * l.length + 1 := by
  unfold secL
  split
  · simp
  · rw [hexL_len]; have := trimZ_len l; omega
theorem join_len (sep : List UInt8) (hs : sep.length = 1) (m : Nat) : ∀ (xs : List (List UInt8)), (∀ x ∈ xs, x.length ≤ m) → (Lib.join xs sep).length ≤ xs.length * (m + 1)
  | [], _ => by simp [Lib.join]
  | [x], h => by
    have := h x (by simp)
    simp [Lib.join]; omega
  | x :: y :: r, h => by
    have h1 := h x (by simp)
    have h2 := join_len sep hs m (y :: r) (fun z hz => h z (by simp at hz ⊢; exact .inr hz))
    have e : Lib.join (x :: y :: r) sep = x ++ sep ++ Lib.join (y :: r) sep := by simp [Lib.join]
    rw [e]
    simp only [List.length_append, List.length_cons, hs] at h2 ⊢
    rw [Nat.add_mul] 
    omega
theorem secs_join (l : List UInt8) (k : Nat) : (Lib.join ((secs l k).map (·.data.toList)) [44]).length ≤ k * 130 := by
  have := join_len [44] rfl 129 ((secs l k).map (·.data.toList)) (fun x hx => by
    simp only [secs, List.map_map, List.mem_map, List.mem_range] at hx
    obtain ⟨j, _, rfl⟩ := hx
    have := secL_len ((l.drop (64 * j)).take 64)
    have h2 : ((l.drop (64 * j)).take 64).length ≤ 64 := by rw [List.length_take]; omega
    simp only [Function.comp, secAt]
    simp
    omega)
  simpa [secs_len] using this
set_option maxRecDepth 100000 in
set_option maxHeartbeats 4000000 in
theorem dataText_any (A : Option Addr) (n c : Nat) (l : List UInt8) (w : World) (hl : l.length = n) (hnc : n ≤ c) (hn : n ≤ 100000) (hr : Row bv w A l) :
    Calls Tryd.prog 17 #[.slice A n c] w fun e w' => e = .returned (.string ⟨(dataL l).toArray⟩) ∧ Gr w w' := by
  obtain ⟨i0, hi, hz0, hz1, hz2⟩ := info_parts infoString
  have HR := Lib.hid hr; clear hr
  have HL := Lib.hid hl; clear hl
  have HI := Lib.hid hi; clear hi
  have HZ := Lib.hid (And.intro hz0 (And.intro hz1 hz2)); clear hz0 hz1 hz2
  go_enter Tryd.func17, Tryd.ntmps17
  go_wp2
  go_loopw [3, 4] (fun v i wr => ∃ k : Nat, i = .int .i64 (64 * k : Nat) ∧ 64 * k ≤ n ∧ OwnS w.heap.size wr v (secs l k) ∧ Below w.heap.size w wr) (fun _ i _ => n - (intOf i).toNat)
  case atStart => exact ⟨0, rfl, Nat.zero_le _, OwnS.nil _ _, Below.refl _ _⟩
  case round =>
    obtain ⟨k, rfl, hk, hown, hbw⟩ := hrel
    obtain ⟨VA, vc, rfl, hvc, hrow⟩ := hown.form
    have hsz := hbw.size
    rw [secs_len] at hvc
    simp only [secs_len] at hown ⊢
    by_cases hlt : 64 * k + 64 ≤ n
    · have hcut : Row bv wr (A.map (·.add (64 * k))) ((l.drop (64 * k)).take 64) := (HR.out.gr (Gr.of hbw)).cut _ _
      have HCUT := Lib.hid hcut; clear hcut
      have hlen : ((l.drop (64 * k)).take 64).length = 64 := by
        have := HL.out; rw [List.length_take, List.length_drop]; omega
      have HLEN := Lib.hid hlen; clear hlen
      go_wp2_with (go_at_call 34; ((with_reducible refine (sectorText_any _ _ _ ((l.drop (64 * k)).take 64) _ HLEN.out (by omega) (by omega) HCUT.out).mono ?_)))
      rintro _ _ ⟨rfl, hg⟩
      obtain ⟨g, rfl⟩ := hg
      have hown1 : (grown wr g).ownsRow w.heap.size 9 1 (.slice VA k vc) k ((secs l k).map Value.string) := by
        have h1 : OwnS w.heap.size wr (.slice VA k vc) (secs l k) := by simpa only [OwnS, secs_len] using hown
        simpa only [OwnS, secs_len] using h1.gr (Gr.of (grown_below wr g))
      have hi := HI.out
      have hz0 := HZ.out.1
      have hz1 := HZ.out.2.1
      have hz2 := HZ.out.2.2
      have hsz1 := (grown_below wr g).size
      go_wp2_with (at_builtin; refine wpList_append_own _ rfl _ _ 62 rfl w.heap.size 9 i0 (.string ⟨#[]⟩) 1 16 Tryd.underlying62 hi hz0 hz1 hz2 rfl (by decide) _ _ _ rfl (hown1.alloc _) ⟨(grown wr g).heap.size, 0, none⟩ 1 1 [.string ⟨(secL ((l.drop (64 * k)).take 64)).toArray⟩] rfl rfl ?c1 ?c2 ?c3 ?c4 ?c5 ?_)
      case c1 =>
        intro j u hj
        match j, hj with
        | 0, hj => simp at hj; subst hj; simp [Addr.add]
      case c2 => intro u hu; simp at hu; subst hu; rfl
      case c3 => unfold maxLen; omega
      case c4 => omega
      case c5 => simp; omega
      intro v' w2 hown' hgrow _
      have hb2 : Below w.heap.size w w2 := ((below_trans hbw (grown_below wr g)).alloc (Nat.le_trans hsz hsz1) _).grown hgrow (by simp; omega) (fun q hq => (hown1.lt q hq).1)
      clear hi hz0 hz1 hz2 hown1 hgrow
      go_wp2
      go_roundw
      case rel =>
        refine ⟨k + 1, by go_num, by omega, ?_, hb2⟩
        rw [secs_succ]
        simpa [OwnS, secs_len, secAt] using hown'
      case measure => simp [intOf]; omega
    · have hkn : n / 64 = k := by omega
      have e0 : dataL l = rowL (secs l k) := by rw [dataL, HL.out, hkn]
      have E := Lib.hid e0; clear e0 hkn
      have hJ := Lib.hid (secs_join l k)
      have hSL := Lib.hid (secs_len l k)
      have HROW := Lib.hid hrow; clear hrow hown
      have hlt2 : decide (64 * (k : Int) + 64 ≤ (n : Int)) = false := by simp; omega
      go_wp2_with (go_at_call 35; ((with_reducible refine (rowText_any _ _ _ (secs l k) _ hSL.out hvc (by omega) (by have := hJ.out; omega) HROW.out).mono ?_); rintro _ _ ⟨rfl, g, rfl⟩))
      go_ret
      exact ⟨by rw [E.out]; rfl, Gr.of (below_trans hbw (grown_below _ _))⟩
end Go.Proofs.YtgjdgafoidppaaaDoor
namespace Go.Proofs.YtgjdgafoidppaaaDoor
open Go.RowKit
set_option linter.unusedVariables false
set_option linter.unusedSimpArgs false
/-- Two blocks are not one. -/
class BNe (a b : Nat) : Prop where
  ne : a ≠ b
/-- A block's cells. -/
class BlockAt (W : World) (B : Nat) (cs : outParam (Array Value)) (t : outParam TypeId) : Prop where
  eq : W.heap[B]? = some (.cells cs t (0, 0))
theorem BlockAt.lt {W : World} {B : Nat} {cs : Array Value} {t : TypeId} (h : BlockAt W B cs t) : B < W.heap.size := (Array.getElem?_eq_some_iff.1 h.eq).1
theorem BlockAt.old {W : World} {B : Nat} {cs : Array Value} {t : TypeId} (h : BlockAt W B cs t) : Old B W := ⟨h.lt⟩
instance blockAt_new (W : World) (cs : Array Value) (t : TypeId) (n : Nat) [h : SizeN W n] : BlockAt (W.alloc (.cells cs t)) n cs t := ⟨by have := h.eq; subst this; exact heap_alloc_new W _⟩
instance (priority := low) (W : World) (o : Obj) (B : Nat) (cs : Array Value) (t : TypeId) [h : BlockAt W B cs t] : BlockAt (W.alloc o) B cs t := ⟨(Below.heap_alloc W o B h.lt).trans h.eq⟩
instance (W : World) (g : Growth W) (B : Nat) (cs : Array Value) (t : TypeId) [h : BlockAt W B cs t] : BlockAt (grown W g) B cs t := ⟨(g.below.block B h.lt).trans h.eq⟩
instance (W : World) (B : Nat) (cs : Array Value) (t : TypeId) [h : BlockAt W B cs t] : BlockAt W.drew B cs t := ⟨h.eq⟩
instance (W : World) (B o : Nat) (v : Value) (cs : Array Value) (t : TypeId) [h : BlockAt W B cs t] : BlockAt (W.setCell ⟨B, o, none⟩ v) B (cs.setIfInBounds o v) t := ⟨by
  have := h.eq
  simp only [World.setCell, Array.getElem?_modify, this]
  simp [Array.set!_eq_setIfInBounds]⟩
instance (priority := low) (W : World) (B C o : Nat) (v : Value) (cs : Array Value) (t : TypeId) [h : BlockAt W B cs t] [k : BNe B C] : BlockAt (W.setCell ⟨C, o, none⟩ v) B cs t := ⟨(Below.heap_setCell W ⟨C, o, none⟩ v B k.ne).trans h.eq⟩
instance (W : World) (k : Nat) (s : ByteArray) (pos : Nat) (B : Nat) (cs : Array Value) (t : TypeId) [h : BlockAt W B cs t] [hi : IterAt W k s pos] (s' : ByteArray) (pos' : Nat) : BlockAt (W.iterAt k s' pos') B cs t := ⟨by
  have hne : B ≠ k := by
    rintro rfl
    have := hi.eq
    rw [h.eq] at this
    cases this
  exact (Lib.iterAt_other W k B s' pos' hne).trans h.eq⟩
theorem block_cells (W : World) (B o : Nat) (cs : Array Value) (t : TypeId) [h : BlockAt W B cs t] : W.cell? ⟨B, o, none⟩ = cs[o]? := by
  simp [World.cell?, h.eq]
theorem block_frozen (W : World) (B o : Nat) (cs : Array Value) (t : TypeId) [h : BlockAt W B cs t] : W.frozen? ⟨B, o, none⟩ = false := by
  simp [World.frozen?, h.eq]
theorem BlockAt.gr {W W' : World} {B : Nat} {cs : Array Value} {t : TypeId} (h : BlockAt W B cs t) (g : Gr W W') : BlockAt W' B cs t := ⟨(g.below.block B h.lt).trans h.eq⟩
theorem BlockAt.grown {W W' : World} {B : Nat} {cs : Array Value} {t : TypeId} {row : Option Nat} (h : BlockAt W B cs t) (g : W.grownBy W' row) (hne : some B ≠ row) : BlockAt W' B cs t := ⟨(g.block B h.lt hne).trans h.eq⟩
instance bne_old (W : World) (B : Nat) [h : Old B W] : BNe B W.heap.size := ⟨Nat.ne_of_lt h.lt⟩
instance bne_old' (W : World) (B : Nat) [h : Old B W] : BNe W.heap.size B := ⟨(Nat.ne_of_lt h.lt).symm⟩
instance bne_succ (B : Nat) : BNe B (B + 1) := ⟨by omega⟩
instance bne_succ' (B : Nat) : BNe (B + 1) B := ⟨by omega⟩
end Go.Proofs.YtgjdgafoidppaaaDoor
namespace Go.Proofs.YtgjdgafoidppaaaDoor
open Go.RowKit
set_option linter.unusedVariables false
set_option linter.unusedSimpArgs false
set_option linter.unnecessarySimpa false
/-- A slice of the call's own that holds these. -/
def OwnR {α : Type} (enc : α → Value) (E : TypeId) (base : Nat) (W : World) (v : Value) (xs : List α) : Prop := W.ownsRow base E 1 v xs.length (xs.map enc)
section
variable {α : Type} {enc : α → Value} {E : TypeId} {base : Nat} {W W' : World} {v : Value} {xs : List α}
theorem OwnR.nil (base : Nat) (W : World) : OwnR enc E base W (.slice none 0 0) [] := World.ownsRow_nil _ _ _ _
theorem OwnR.gr (h : OwnR enc E base W v xs) (hg : Gr W W') : OwnR enc E base W' v xs := by
  refine World.ownsRow.kept h (only_of_gr hg none) ?_
  cases hv : v.ownBlock with
  | none => exact .inl rfl
  | some g => exact .inr (by simp)
theorem OwnR.alloc_ (h : OwnR enc E base W v xs) (o : Obj) : OwnR enc E base (W.alloc o) v xs := World.ownsRow.alloc h o
theorem OwnR.drew_ (h : OwnR enc E base W v xs) : OwnR enc E base W.drew v xs := h
theorem OwnR.grown_ (h : OwnR enc E base W v xs) (g : Growth W) : OwnR enc E base (grown W g) v xs := h.gr (Gr.of (grown_below W g))
theorem OwnR.iter_ (h : OwnR enc E base W v xs) (k : Nat) {s : ByteArray} {pos : Nat} (hi : W.heap[k]? = some (.stringIter s pos)) (s' : ByteArray) (pos' : Nat) : OwnR enc E base (W.iterAt k s' pos') v xs := by
  refine ⟨h.1, ?_⟩
  rcases h.2 with h2 | ⟨g, cap, cur, hv, hb, hh, h4⟩
  · exact .inl h2
  · refine .inr ⟨g, cap, cur, hv, hb, ?_, h4⟩
    have hne : g ≠ k := by
      rintro rfl
      rw [hh] at hi
      cases hi
    rw [Lib.iterAt_other W k g s' pos' hne]
    exact hh
theorem OwnR.set_ (h : OwnR enc E base W v xs) (B o : Nat) (u : Value) {cs : Array Value} {T : TypeId} [hB : BlockAt W B cs T] (hT : T ≠ E) : OwnR enc E base (W.setCell ⟨B, o, none⟩ u) v xs := by
  refine ⟨h.1, ?_⟩
  rcases h.2 with h2 | ⟨g, cap, cur, hv, hb, hh, h4⟩
  · exact .inl h2
  · refine .inr ⟨g, cap, cur, hv, hb, ?_, h4⟩
    have hne : g ≠ B := by
      rintro rfl
      have := hB.eq
      rw [hh] at this
      cases this
      exact hT rfl
    exact (Below.heap_setCell W ⟨B, o, none⟩ u g hne).trans hh
theorem OwnR.lt (h : OwnR enc E base W v xs) : ∀ k, v.ownBlock = some k → base ≤ k ∧ k < W.heap.size := World.ownsRow.lt h
theorem OwnR.more {base2 : Nat} (h : OwnR enc E base2 W v xs) (hb : base ≤ base2) : OwnR enc E base W v xs := by
  refine ⟨h.1, ?_⟩
  rcases h.2 with h2 | ⟨g, cap, cur, hv, hb2, h4⟩
  · exact .inl h2
  · exact .inr ⟨g, cap, cur, hv, Nat.le_trans hb hb2, h4⟩
theorem OwnR.form (h : OwnR enc E base W v xs) : ∃ A c, v = .slice A xs.length c ∧ xs.length ≤ c ∧ Row enc W A xs := by
  have h0 := h
  rcases h.2 with ⟨rfl, hn⟩ | ⟨g, cap, cur, rfl, hb, hh, hnc, _⟩
  · have : xs = [] := List.eq_nil_of_length_eq_zero hn
    subst this
    exact ⟨none, 0, rfl, Nat.le_refl _, Row.nil⟩
  · refine ⟨_, _, rfl, hnc, ⟨fun _ => ⟨g, 0, rfl, (Array.getElem?_eq_some_iff.1 hh).1, fun j x hx => ?_⟩⟩⟩
    have := World.ownsRow.cells h0 (g := g) rfl j (enc x) (by simp [hx])
    rw [Go.WideShapes.add_plain] at this
    exact this
end
/-- What an append leaves. -/
structure AppR {α : Type} (enc : α → Value) (E : TypeId) (base : Nat) (W : World) (xs ys : List α) (v' : Value) (W' : World) : Prop where
  own : OwnR enc E base W' v' (xs ++ ys)
  below : Below base W W'
  size : W.heap.size ≤ W'.heap.size
  keep : ∀ B cs t, BlockAt W B cs t → t ≠ E → BlockAt W' B cs t
  iter : ∀ (k : Nat) (s : ByteArray) (pos : Nat), W.heap[k]? = some (Obj.stringIter s pos) → W'.heap[k]? = some (Obj.stringIter s pos)
section
variable {α : Type} {enc : α → Value} {E : TypeId} {base : Nat} {W W' : World} {v' : Value} {xs ys : List α}
theorem AppR.tb (h : AppR enc E base W xs ys v' W') (hf : 6 ≤ base) [ht : Tb W] : Tb W' := ht.keep h.size (fun b hb => h.below.block b (by omega))
theorem AppR.ml (h : AppR enc E base W xs ys v' W') (hf : 6 ≤ base) [ht : Ml W] : Ml W' := ht.keep (h.below.block _ (by omega))
theorem AppR.from_ (h : AppR enc E base W xs ys v' W') (a : World) [ht : From a W] : From a W' := ⟨Nat.le_trans ht.le h.size⟩
theorem AppR.old (h : AppR enc E base W xs ys v' W') (b : Nat) [ht : Old b W] : Old b W' := ⟨Nat.lt_of_lt_of_le ht.lt h.size⟩
theorem AppR.grc (h : AppR enc E base W xs ys v' W') (a : World) [ht : GrC a W] (hl : a.heap.size ≤ base) : GrC a W' := ⟨ht.b.trans (h.below.mono hl)⟩
theorem AppR.chain (h : AppR enc E base W xs ys v' W') {a : World} (hb : Below a.heap.size a W) (hl : a.heap.size ≤ base) : Below a.heap.size a W' := hb.trans (h.below.mono hl)
end
/-- The law: the element's type has one cell. -/
theorem wp_append_row {α : Type} (enc : α → Value) (E T : TypeId) (z : Value) (bytes : Nat) (hT : Tryd.prog.underlying T = some (.slice E)) (hE : (Tryd.prog.info? E).map (fun i => (i.zero, i.size, i.bytes)) = some (some z, 1, bytes)) (hby : bytes ≤ 16)
    (h1 : ∀ x, (enc x).oneCell' = true) (hz1 : z.cells = #[z])
    {ops : Array Oper} {rest : List Oper} {o : Oper} {a : Act} {Q : Exit → Act → World → Prop} (hgd : o.guard = none) (s x : Operand)
    (ho : o.op = .call { callee := .builtin .append, args := #[s, x], argTypes := #[T, T] })
    (base : Nat) {W : World} (v : Value) (xs : List α) (hs : a.eval s = v) (hown : OwnR enc E base W v xs) (ad of c : Nat) (ys : List α) (m : Nat) (hm : ys.length = m) (hx : a.eval x = .slice (some ⟨ad, of, none⟩) m c)
    (hc : ∀ j y, ys[j]? = some y → W.cell? ⟨ad, of + j, none⟩ = some (enc y)) (hlen : xs.length + ys.length ≤ 100000000) (hbase : base ≤ W.heap.size)
    (h : ∀ v' W', AppR enc E base W xs ys v' W' → wpList Tryd.prog ops Q rest (a.put o.dst v') W') : wpList Tryd.prog ops Q (o :: rest) a W := by
  subst hm
  obtain ⟨i0, hi, hz0, hz2, hz3⟩ := info_parts hE
  refine wpList_append_own W hgd s x T ho base E i0 z 1 bytes hT hi hz0 hz2 hz3 (by rw [hz1]; rfl) (by decide) v xs.length (xs.map enc) hs hown ⟨ad, of, none⟩ ys.length c (ys.map enc) hx (by simp) ?_ ?_ ?_ ?_ hbase ?_
  · intro j u hj
    rw [List.getElem?_map] at hj
    cases hy : ys[j]? with
    | none => rw [hy] at hj; cases hj
    | some y =>
      rw [hy] at hj
      cases hj
      rw [Go.WideShapes.add_plain]
      exact hc j y hy
  · intro u hu
    simp only [List.mem_map] at hu
    obtain ⟨y, _, rfl⟩ := hu
    exact h1 y
  · unfold maxLen; omega
  · have := Nat.mul_le_mul hlen hby
    omega
  · intro v' W' hown' hgrow _
    refine h v' W' ⟨by simpa [OwnR] using hown', (Below.refl base W).grown hgrow hbase (fun q hq => (hown.lt q hq).1), hgrow.size, fun B cs t hB ht => hB.grown hgrow (fun e => ?_), fun k st pos hk => (hgrow.block k (Array.getElem?_eq_some_iff.1 hk).1 (fun e => ?_)).trans hk⟩
    · rcases hown.2 with ⟨rfl, _⟩ | ⟨g, cap, cur, rfl, _, hh, _⟩
      · simp [Value.ownBlock] at e
      · have : B = g := by simpa [Value.ownBlock] using e
        subst this
        have := hB.eq
        rw [hh] at this
        cases this
        exact ht rfl
    · rcases hown.2 with ⟨rfl, _⟩ | ⟨g, cap, cur, rfl, _, hh, _⟩
      · simp [Value.ownBlock] at e
      · have : k = g := by simpa [Value.ownBlock] using e
        subst this
        rw [hh] at hk
        cases hk
theorem infoU8 : (Tryd.prog.info? 5).map (fun i => (i.zero, i.size, i.bytes)) = some (some (.int .u8 0), 1, 1) := by kernel_rfl
/-- Bytes. -/
theorem wp_append_byte {ops : Array Oper} {rest : List Oper} {o : Oper} {a : Act} {Q : Exit → Act → World → Prop} (hgd : o.guard = none) (s x : Operand)
    (ho : o.op = .call { callee := .builtin .append, args := #[s, x], argTypes := #[41, 41] })
    (base : Nat) {W : World} (v : Value) (xs : List UInt8) (hs : a.eval s = v) (hown : OwnR bv 5 base W v xs) (ad of c : Nat) (ys : List UInt8) (m : Nat) (hm : ys.length = m) (hx : a.eval x = .slice (some ⟨ad, of, none⟩) m c)
    (hc : ∀ j y, ys[j]? = some y → W.cell? ⟨ad, of + j, none⟩ = some (bv y)) (hlen : xs.length + ys.length ≤ 100000000) (hbase : base ≤ W.heap.size)
    (h : ∀ v' W', AppR bv 5 base W xs ys v' W' → wpList Tryd.prog ops Q rest (a.put o.dst v') W') : wpList Tryd.prog ops Q (o :: rest) a W :=
  wp_append_row bv 5 41 (.int .u8 0) 1 Tryd.underlying41 infoU8 (by omega) (fun _ => rfl) rfl hgd s x ho base v xs hs hown ad of c ys m hm hx hc hlen hbase h
end Go.Proofs.YtgjdgafoidppaaaDoor
namespace Go.Proofs.YtgjdgafoidppaaaDoor
@[go_sem] theorem dec_d_0 : Utf8.decode ⟨#[100]⟩ 0 = (100, 1) := by decide +kernel
@[go_sem] theorem dec_dn_0 : Utf8.decode ⟨#[100, 110]⟩ 0 = (100, 1) := by decide +kernel
@[go_sem] theorem dec_dn_1 : Utf8.decode ⟨#[100, 110]⟩ 1 = (110, 1) := by decide +kernel
@[go_sem] theorem dec_do_0 : Utf8.decode ⟨#[100, 111]⟩ 0 = (100, 1) := by decide +kernel
@[go_sem] theorem dec_do_1 : Utf8.decode ⟨#[100, 111]⟩ 1 = (111, 1) := by decide +kernel
@[go_sem] theorem dec_dp_0 : Utf8.decode ⟨#[100, 112]⟩ 0 = (100, 1) := by decide +kernel
@[go_sem] theorem dec_dp_1 : Utf8.decode ⟨#[100, 112]⟩ 1 = (112, 1) := by decide +kernel
@[go_sem] theorem dec_n_0 : Utf8.decode ⟨#[110]⟩ 0 = (110, 1) := by decide +kernel
@[go_sem] theorem dec_v_0 : Utf8.decode ⟨#[118]⟩ 0 = (118, 1) := by decide +kernel
@[go_sem] theorem dec_vac_0 : Utf8.decode ⟨#[118, 97, 99]⟩ 0 = (118, 1) := by decide +kernel
@[go_sem] theorem dec_vac_1 : Utf8.decode ⟨#[118, 97, 99]⟩ 1 = (97, 1) := by decide +kernel
@[go_sem] theorem dec_vac_2 : Utf8.decode ⟨#[118, 97, 99]⟩ 2 = (99, 1) := by decide +kernel
@[go_sem] theorem dec_vad_0 : Utf8.decode ⟨#[118, 97, 100]⟩ 0 = (118, 1) := by decide +kernel
@[go_sem] theorem dec_vad_1 : Utf8.decode ⟨#[118, 97, 100]⟩ 1 = (97, 1) := by decide +kernel
@[go_sem] theorem dec_vad_2 : Utf8.decode ⟨#[118, 97, 100]⟩ 2 = (100, 1) := by decide +kernel
@[go_sem] theorem dec_vs_0 : Utf8.decode ⟨#[118, 115]⟩ 0 = (118, 1) := by decide +kernel
@[go_sem] theorem dec_vs_1 : Utf8.decode ⟨#[118, 115]⟩ 1 = (115, 1) := by decide +kernel
@[go_sem] theorem dec_vt_0 : Utf8.decode ⟨#[118, 116]⟩ 0 = (118, 1) := by decide +kernel
@[go_sem] theorem dec_vt_1 : Utf8.decode ⟨#[118, 116]⟩ 1 = (116, 1) := by decide +kernel
end Go.Proofs.YtgjdgafoidppaaaDoor
namespace Go.Proofs.YtgjdgafoidppaaaDoor
open Go.RowKit
set_option linter.unusedVariables false
set_option linter.unusedSimpArgs false
set_option linter.unnecessarySimpa false
instance (a W : World) (n : Nat) [h : GrC a W] : GrC a (W.drewN n) := ⟨h.b.trans ⟨rfl, rfl, rfl, Nat.le_refl _, fun _ _ => rfl⟩⟩
/-- A hex letter's number; -1 of what is none. -/
def hexv (r : Nat) : Int := if 48 ≤ r ∧ r ≤ 57 then (r : Int) - 48 else if 97 ≤ r ∧ r ≤ 102 then (r : Int) - 87 else -1
theorem hexv_high {r : Nat} (h : 128 ≤ r) : hexv r = -1 := by unfold hexv; rw [if_neg (by omega), if_neg (by omega)]
theorem hexv_fin : ∀ i : Fin 128, Lib.indexByte [48, 49, 50, 51, 52, 53, 54, 55, 56, 57, 97, 98, 99, 100, 101, 102] i.val.toUInt8 = hexv i.val := by decide +kernel
theorem hex_high_fin : ∀ c : Fin 256, 128 ≤ c.val → Lib.indexByte [49, 50, 51, 52, 53, 54, 55, 56, 57, 97, 98, 99, 100, 101, 102] c.val.toUInt8 = -1 ∧ Lib.indexByte [50, 51, 52, 53, 54, 55, 56, 57, 97, 98, 99, 100, 101, 102] c.val.toUInt8 = -1 ∧ Lib.indexByte [51, 52, 53, 54, 55, 56, 57, 97, 98, 99, 100, 101, 102] c.val.toUInt8 = -1 ∧ Lib.indexByte [52, 53, 54, 55, 56, 57, 97, 98, 99, 100, 101, 102] c.val.toUInt8 = -1 := by decide +kernel
theorem enc_high (r : Nat) (h : 128 ≤ r) : (∃ a c : UInt8, Utf8.encode r = ⟨#[a, c]⟩ ∧ 128 ≤ c.toNat) ∨ (∃ a b c : UInt8, Utf8.encode r = ⟨#[a, b, c]⟩ ∧ 128 ≤ c.toNat) ∨ (∃ a b b2 c : UInt8, Utf8.encode r = ⟨#[a, b, b2, c]⟩ ∧ 128 ≤ c.toNat) := by
  have hl : ∀ k : Nat, 128 ≤ (UInt8.ofNat (0x80 + k % 64)).toNat := fun k => by
    rw [UInt8.toNat_ofNat', Nat.mod_eq_of_lt (by omega)]; omega
  have hc : 128 ≤ (if Utf8.valid (r : Int) then ((r : Int)).toNat else Utf8.runeError) := by
    split
    · simpa using h
    · decide
  unfold Utf8.encode
  simp only
  generalize (if Utf8.valid (r : Int) then ((r : Int)).toNat else Utf8.runeError) = c at hc
  rw [if_neg (by omega)]
  split
  · exact .inl ⟨_, _, rfl, hl c⟩
  split
  · exact .inr (.inl ⟨_, _, _, rfl, hl c⟩)
  · exact .inr (.inr ⟨_, _, _, _, rfl, hl c⟩)
theorem validRune_w (r : Int) (w : World) : Calls Tryd.prog 106 #[.int .i32 r] w fun e w' => e = .returned (.bool (Lib.validRune r)) ∧ w = w' := (Tryd.utf8_ValidRune r w).mono fun _ _ ⟨a, b⟩ => ⟨a, b.symm⟩
theorem idxByte_w (k : Nat) (hk : k = 2 ∨ k = 3 ∨ k = 4) (c : UInt8) (hc : 128 ≤ c.toNat) (w : World) : Calls Tryd.prog 105 #[.string ((⟨#[48, 49, 50, 51, 52, 53, 54, 55, 56, 57, 97, 98, 99, 100, 101, 102]⟩ : ByteArray).extract k 16), .int .u8 c.toNat] w fun e w' => e = .returned (.int .i64 (-1)) ∧ w = w' := by
  refine (Tryd.strings_IndexByte ((⟨#[48, 49, 50, 51, 52, 53, 54, 55, 56, 57, 97, 98, 99, 100, 101, 102]⟩ : ByteArray).extract k 16) c.toNat w).mono fun e w' ⟨he, hw⟩ => ⟨?_, hw.symm⟩
  rw [he]
  obtain ⟨h1, h2, h3, h4⟩ := hex_high_fin ⟨c.toNat, c.toNat_lt⟩ hc
  have e : ((c.toNat : Int)).toNat.toUInt8 = c := by simp
  have e2 : (⟨c.toNat, c.toNat_lt⟩ : Fin 256).val.toUInt8 = c := by simp
  rw [e2] at h2 h3 h4
  rw [e]
  rcases hk with rfl | rfl | rfl
  · rw [show ((⟨#[48, 49, 50, 51, 52, 53, 54, 55, 56, 57, 97, 98, 99, 100, 101, 102]⟩ : ByteArray).extract 2 16).data.toList = [50, 51, 52, 53, 54, 55, 56, 57, 97, 98, 99, 100, 101, 102] from by decide +kernel, h2]
  · rw [show ((⟨#[48, 49, 50, 51, 52, 53, 54, 55, 56, 57, 97, 98, 99, 100, 101, 102]⟩ : ByteArray).extract 3 16).data.toList = [51, 52, 53, 54, 55, 56, 57, 97, 98, 99, 100, 101, 102] from by decide +kernel, h3]
  · rw [show ((⟨#[48, 49, 50, 51, 52, 53, 54, 55, 56, 57, 97, 98, 99, 100, 101, 102]⟩ : ByteArray).extract 4 16).data.toList = [52, 53, 54, 55, 56, 57, 97, 98, 99, 100, 101, 102] from by decide +kernel, h4]
theorem hexs_low : ∀ i : Fin 16, ((⟨#[48, 49, 50, 51, 52, 53, 54, 55, 56, 57, 97, 98, 99, 100, 101, 102]⟩ : ByteArray)[i.val]'i.isLt).toNat < 128 := by decide
set_option maxRecDepth 100000 in
set_option maxHeartbeats 4000000 in
theorem idx_any (r : Nat) (hr : r ≤ 1114111) (w : World) :
    Calls Tryd.prog 94 #[.string ⟨#[48, 49, 50, 51, 52, 53, 54, 55, 56, 57, 97, 98, 99, 100, 101, 102]⟩, .int .i32 r] w fun e w' => e = .returned (.int .i64 (hexv r)) ∧ Gr w w' := by
  by_cases h0 : r < 128
  · refine (Tryd.strings_IndexRune_ascii ⟨#[48, 49, 50, 51, 52, 53, 54, 55, 56, 57, 97, 98, 99, 100, 101, 102]⟩ r w (by omega) (by omega)).mono fun e w' ⟨he, hw⟩ => ⟨?_, hw ▸ Gr.refl _⟩
    rw [he]
    have := hexv_fin ⟨r, h0⟩
    simp only at this
    rw [← this]
    simp
  have E := Lib.hid (hexv_high (r := r) (by omega))
  by_cases h1 : r = 65533
  · subst h1
    go_enter Tryd.func94, Tryd.ntmps94
    go_wp2
    go_loopw [] (fun wr => ∃ pos : Nat, pos ≤ 16 ∧ wr.heap[w.heap.size]? = some (.stringIter ⟨#[48, 49, 50, 51, 52, 53, 54, 55, 56, 57, 97, 98, 99, 100, 101, 102]⟩ pos) ∧ Below w.heap.size w wr) (fun wr => 16 - wr.iterPos w.heap.size)
    case atStart => exact ⟨0, by omega, World.iter_heap w _ 0, (Below.refl _ _).alloc (Nat.le_refl _) _⟩
    case round =>
      obtain ⟨pos, hp, hit, hbw⟩ := hrel
      by_cases hp2 : pos < 16
      · obtain ⟨u, hu, hdec⟩ : ∃ u : Nat, u < 128 ∧ Utf8.decode (⟨#[48, 49, 50, 51, 52, 53, 54, 55, 56, 57, 97, 98, 99, 100, 101, 102]⟩ : ByteArray) pos = (u, 1) := ⟨_, hexs_low ⟨pos, hp2⟩, decode_ascii (⟨#[48, 49, 50, 51, 52, 53, 54, 55, 56, 57, 97, 98, 99, 100, 101, 102]⟩ : ByteArray) pos hp2 (hexs_low ⟨pos, hp2⟩)⟩
        have hnx : ∀ ty, (Instr.next (.pointer (some ⟨w.heap.size, 0, none⟩)) true ty).run Tryd.prog wr = .ok (.tuple #[.bool true, .int .i64 pos, .int .i32 u]) (wr.iterAt w.heap.size (⟨#[48, 49, 50, 51, 52, 53, 54, 55, 56, 57, 97, 98, 99, 100, 101, 102]⟩ : ByteArray) (pos + 1)) := fun ty => by
          have := Lib.run_next_any_at (P := Tryd.prog) wr w.heap.size (⟨#[48, 49, 50, 51, 52, 53, 54, 55, 56, 57, 97, 98, 99, 100, 101, 102]⟩ : ByteArray) pos ty hit hp2
          rw [hdec] at this
          exact this
        have hit2 := Lib.iterAt_heap wr w.heap.size (⟨#[48, 49, 50, 51, 52, 53, 54, 55, 56, 57, 97, 98, 99, 100, 101, 102]⟩ : ByteArray) pos (pos + 1) hit
        have hbw2 := Lib.below_iterAt hbw (k := w.heap.size) (Nat.le_refl _) (⟨#[48, 49, 50, 51, 52, 53, 54, 55, 56, 57, 97, 98, 99, 100, 101, 102]⟩ : ByteArray) (pos + 1)
        have hne : ((u : Int) == 65533) = false := by simp; omega
        clear hdec
        go_wp2
        go_roundw
        case rel => exact ⟨pos + 1, by omega, hit2, hbw2⟩
        case measure => rw [iterPos_of hit2, iterPos_of hit]; omega
      · have hnx : ∀ ty, (Instr.next (.pointer (some ⟨w.heap.size, 0, none⟩)) true ty).run Tryd.prog wr = _ := fun ty => Lib.run_next_end_at wr w.heap.size (⟨#[48, 49, 50, 51, 52, 53, 54, 55, 56, 57, 97, 98, 99, 100, 101, 102]⟩ : ByteArray) pos ty hit hp2
        go_wp2
        go_ret
        exact ⟨by rw [E.out]; rfl, Gr.of hbw⟩
  · rcases Bool.eq_false_or_eq_true (Lib.validRune r) with hv | hv
    · rcases enc_high r (by omega) with ⟨a, c, he, hc⟩ | ⟨a, b, c, he, hc⟩ | ⟨a, b, b2, c, he, hc⟩
      · have HV := Lib.hid (fun W => validRune_w r W)
        rw [hv] at HV
        clear hv
        have hcv : ∀ W, (convert 21 9 (.int .i32 r)).run Tryd.prog W = .ok (.string (⟨#[a, c]⟩ : ByteArray)) W := fun W => by rw [← he]; go_simp
        clear he
        have h65 : ((r : Int) == 65533) = false := by simp; omega
        have h128 : decide ((r : Int) < 128) = false := by simp; omega
        have hK : 1 < (⟨#[a, c]⟩ : ByteArray).size := (by omega : 1 < 2)
        have hn : (((⟨#[48, 49, 50, 51, 52, 53, 54, 55, 56, 57, 97, 98, 99, 100, 101, 102]⟩ : ByteArray)[1].toNat : Int) != (((⟨#[a, c]⟩ : ByteArray)[1]'hK).toNat : Int)) = true := by
          have e1 : (⟨#[a, c]⟩ : ByteArray)[1]'hK = c := rfl
          have e2 : (⟨#[48, 49, 50, 51, 52, 53, 54, 55, 56, 57, 97, 98, 99, 100, 101, 102]⟩ : ByteArray)[1].toNat = 49 := rfl
          rw [e1, e2]; simp; omega
        have HI := Lib.hid (fun W => idxByte_w (2) (by omega) ((⟨#[a, c]⟩ : ByteArray)[1]'hK) hc W)
        have mixed : Tryd.prog.follows .mixedOrders = true := by kernel_rfl
        go_enter Tryd.func94, Tryd.ntmps94
        go_wp2_with ((go_at_call 106; ((with_reducible refine (HV.out _).mono ?_); rintro _ _ ⟨rfl, rfl⟩)))
        go_step3
        go_wp2
        refine wp_loop_rounds 1 ?_
        rw [rounds_succ]
        go_wp2
        go_step3
        go_wp2
        go_quiet (fail)
        go_wp2
        refine wp_region_grow (by kernel_rfl) (by kernel_rfl) ?_
        repeat (go_big_quiet_step ((go_at_call 105; exact grow_call_same (HI.out _))))
        refine wpQuiet_nil ?_
        intro g3
        go_wp2
        rw [Exit.noGoto_ret]
        go_simp
        go_ret
        exact ⟨by rw [E.out]; rfl, gri⟩
      · have HV := Lib.hid (fun W => validRune_w r W)
        rw [hv] at HV
        clear hv
        have hcv : ∀ W, (convert 21 9 (.int .i32 r)).run Tryd.prog W = .ok (.string (⟨#[a, b, c]⟩ : ByteArray)) W := fun W => by rw [← he]; go_simp
        clear he
        have h65 : ((r : Int) == 65533) = false := by simp; omega
        have h128 : decide ((r : Int) < 128) = false := by simp; omega
        have hK : 2 < (⟨#[a, b, c]⟩ : ByteArray).size := (by omega : 2 < 3)
        have hn : (((⟨#[48, 49, 50, 51, 52, 53, 54, 55, 56, 57, 97, 98, 99, 100, 101, 102]⟩ : ByteArray)[2].toNat : Int) != (((⟨#[a, b, c]⟩ : ByteArray)[2]'hK).toNat : Int)) = true := by
          have e1 : (⟨#[a, b, c]⟩ : ByteArray)[2]'hK = c := rfl
          have e2 : (⟨#[48, 49, 50, 51, 52, 53, 54, 55, 56, 57, 97, 98, 99, 100, 101, 102]⟩ : ByteArray)[2].toNat = 50 := rfl
          rw [e1, e2]; simp; omega
        have HI := Lib.hid (fun W => idxByte_w (3) (by omega) ((⟨#[a, b, c]⟩ : ByteArray)[2]'hK) hc W)
        have mixed : Tryd.prog.follows .mixedOrders = true := by kernel_rfl
        go_enter Tryd.func94, Tryd.ntmps94
        go_wp2_with ((go_at_call 106; ((with_reducible refine (HV.out _).mono ?_); rintro _ _ ⟨rfl, rfl⟩)))
        go_step3
        go_wp2
        refine wp_loop_rounds 1 ?_
        rw [rounds_succ]
        go_wp2
        go_step3
        go_wp2
        go_quiet (fail)
        go_wp2
        refine wp_region_grow (by kernel_rfl) (by kernel_rfl) ?_
        repeat (go_big_quiet_step ((go_at_call 105; exact grow_call_same (HI.out _))))
        refine wpQuiet_nil ?_
        intro g3
        go_wp2
        rw [Exit.noGoto_ret]
        go_simp
        go_ret
        exact ⟨by rw [E.out]; rfl, gri⟩
      · have HV := Lib.hid (fun W => validRune_w r W)
        rw [hv] at HV
        clear hv
        have hcv : ∀ W, (convert 21 9 (.int .i32 r)).run Tryd.prog W = .ok (.string (⟨#[a, b, b2, c]⟩ : ByteArray)) W := fun W => by rw [← he]; go_simp
        clear he
        have h65 : ((r : Int) == 65533) = false := by simp; omega
        have h128 : decide ((r : Int) < 128) = false := by simp; omega
        have hK : 3 < (⟨#[a, b, b2, c]⟩ : ByteArray).size := (by omega : 3 < 4)
        have hn : (((⟨#[48, 49, 50, 51, 52, 53, 54, 55, 56, 57, 97, 98, 99, 100, 101, 102]⟩ : ByteArray)[3].toNat : Int) != (((⟨#[a, b, b2, c]⟩ : ByteArray)[3]'hK).toNat : Int)) = true := by
          have e1 : (⟨#[a, b, b2, c]⟩ : ByteArray)[3]'hK = c := rfl
          have e2 : (⟨#[48, 49, 50, 51, 52, 53, 54, 55, 56, 57, 97, 98, 99, 100, 101, 102]⟩ : ByteArray)[3].toNat = 51 := rfl
          rw [e1, e2]; simp; omega
        have HI := Lib.hid (fun W => idxByte_w (4) (by omega) ((⟨#[a, b, b2, c]⟩ : ByteArray)[3]'hK) hc W)
        have mixed : Tryd.prog.follows .mixedOrders = true := by kernel_rfl
        go_enter Tryd.func94, Tryd.ntmps94
        go_wp2_with ((go_at_call 106; ((with_reducible refine (HV.out _).mono ?_); rintro _ _ ⟨rfl, rfl⟩)))
        go_step3
        go_wp2
        refine wp_loop_rounds 1 ?_
        rw [rounds_succ]
        go_wp2
        go_step3
        go_wp2
        go_quiet (fail)
        go_wp2
        refine wp_region_grow (by kernel_rfl) (by kernel_rfl) ?_
        repeat (go_big_quiet_step ((go_at_call 105; exact grow_call_same (HI.out _))))
        refine wpQuiet_nil ?_
        intro g3
        go_wp2
        rw [Exit.noGoto_ret]
        go_simp
        go_ret
        exact ⟨by rw [E.out]; rfl, gri⟩
    · have HV := Lib.hid (fun W => validRune_w r W)
      rw [hv] at HV
      clear hv
      have h65 : ((r : Int) == 65533) = false := by simp; omega
      have h128 : decide ((r : Int) < 128) = false := by simp; omega
      go_enter Tryd.func94, Tryd.ntmps94
      go_wp2_with ((go_at_call 106; ((with_reducible refine (HV.out _).mono ?_); rintro _ _ ⟨rfl, rfl⟩)))
      go_ret
      exact ⟨by rw [E.out]; rfl, gri⟩
end Go.Proofs.YtgjdgafoidppaaaDoor
