/- 'voilelaw24.LinearWays': the answers that an operation may have, of a device made by at most 8 operations, are what the chapter says. Conditions: none. -/
import Derived.Test.YtddckdhnolmjoaaGreatW19
set_option linter.unusedVariables false
set_option linter.unusedSimpArgs false
set_option linter.unnecessarySimpa false
set_option maxRecDepth 100000
set_option maxHeartbeats 8000000
namespace Go.Proofs.YtddckdhnolmjoaaGreat
open Go.RowKit
theorem open_cellsZ {W : World} {base : Nat} {t : TypeId} {v : Value} {fs : Array Field} (ts : List TypeId) (ht : Tryz.prog.underlying t = some (.struct fs)) (hts : Tryz.prog.cellTypes Tryz.prog.depth t = some ts) (hn : Tryz.prog.cellsOf t = ts.length)
  (h : Value.okWide Tryz.prog W .any base t v) : ∃ cs : List Value, v = .agg cs.toArray ∧ cs.length = ts.length := by
 simp only [Value.okWide, ht] at h
 obtain ⟨cs, rfl, hsz, ts', hts', _, hc⟩ := h
 obtain rfl : ts' = ts := Option.some.inj (hts'.symm.trans hts)
 exact ⟨cs.toList, by simp, by simpa using hsz.trans hn⟩
section
variable {H : Type} {enc : TypeId × Value → H}
theorem open_opZ {W : World} {base : Nat} {v : Value} {d : DataW H} {p : List MemPlace} (hv : Value.okWide Tryz.prog W .any base 27 v) (h : DataW.Trod enc Tryz.prog W 0 (fun _ => true) true 27 v d p) :
  ∃ z : OpC, v = .agg #[.int .i64 z.o.k, .int .u64 z.o.v, .int .u64 z.o.t, .int .i64 z.o.s, .int .i64 z.o.a, .int .i64 z.o.c, .slice z.D z.n z.q] ∧ OpCa W z := by
 obtain ⟨cs, rfl, hl⟩ := open_cellsZ [23, 24, 24, 3, 3, 3, 25] Tryz.underlying27 (by kernel_rfl) (by kernel_rfl) hv
 obtain ⟨fuel, hd⟩ := h
 obtain ⟨z, rfl, hC⟩ := op_trod9 (cs := cs) hl (by simpa [Value.cells] using hd)
 exact ⟨z, rfl, hC⟩
end
end Go.Proofs.YtddckdhnolmjoaaGreat
namespace Go.Proofs.YtddckdhnolmjoaaGreat
open Go.ChangeShapes Go.WideShapes Go.ChangeAt Go.RowKit Go.Deep
open Go.ChangeMaps (open_string shut_string)
namespace linearWays
theorem own : ownKnob Tryz.prog.godebug = none := by kernel_rfl
theorem laidOut : laidOutB Tryz.prog = true := by kernel_rfl
theorem lifted (os : Os) (started : os.Started) (H : Type) (enc : TypeId × Value → H) :
  ReturnsInHanded {} Tryz.checked os 3 .any (Rows.linearWaysSpec.pre6 enc Tryz.prog Tryz.f3 Rows.linearWaysRow.domain false) (Rows.linearWaysSpec.post enc Tryz.prog Tryz.f3 false true false false) := by
 refine returnsInHanded_of_change (C := Tryz.checked) own started (by kernel_rfl) Tryz.func3
  (ChangeSpec.witness6 (enc := enc) (C := Tryz.checked) false ⟨#[], #[.slice none 0 0, .agg #[.int .i64 0, .int .u64 0, .int .u64 0, .int .i64 0, .int .i64 0, .int .i64 0, .slice none 0 0]], []⟩ 8 (by kernel_rfl) (by kernel_rfl) (by kernel_rfl) (by kernel_rfl)) ?_
 intro W base args ds gs before hval0 hW hcnd hroom
 have hval : ∀ (j : Nat) t v, Tryz.f3.params[j]? = some t → args[j]? = some v → Value.okWide Tryz.prog W .any base t v := hval0
 have hW' := hW
 have hlt0 := hW'.lt
 obtain ⟨p, q, hA0, hV, rfl, hfz, hnd⟩ := hW
 have hA : DataW.TrodAll enc Tryz.prog W 0 (fun _ => true) true Tryz.f3.params.toList args.toList ds p := hA0
 rw [Tryz.params3] at hA hval
 have hA1 := hA
 obtain ⟨v0, vs0, d0, ds0, p0, q0, hargs, rfl, rfl, h0, r0⟩ := trodAll_cons hA
 obtain ⟨v1, vs1, d1, ds1, p1, q1, rfl, rfl, rfl, h1, r1⟩ := trodAll_cons r0
 obtain ⟨rfl, rfl, rfl⟩ := trodAll_nil r1
 obtain rfl : args = #[v0, v1] := by cases args; simp_all
 obtain ⟨rfl, rfl⟩ := trodVars_none hV
 obtain ⟨A, n, q, l, rfl, hCame⟩ := open_ops (hval 0 _ _ rfl rfl) h0
 obtain ⟨z, rfl, hz⟩ := open_opZ (hval 1 _ _ rfl rfl) h1
 simp only [List.append_nil] at hW'
 refine (ways_walk l n A q z W hCame hz known24_any).mono fun e W' ⟨he, hg⟩ => ?_
 subst he
 have hb := hg.below
 exact ⟨_, rfl, _, _, _, [], _, [], hW', trodAll_mk1 (shut_bool Tryz.underlying4 _), trodAll_below laidOut hb (by kernel_rfl) hA1 (fun x hx => by simpa using hlt0 x (by simpa using hx)), rfl, hb.frame _, fun h => by cases h⟩
theorem over : Rows.linearWaysRow.holds Tryz.pinned (OpenSpec.ofChange Rows.linearWaysSpec) :=
 OpenClaim.holds_of_wide 3 Tryz.f3 rfl rfl rfl rfl rfl rfl rfl ⟨rfl, rfl, rfl, rfl, rfl⟩ rfl rfl rfl rfl rfl (by kernel_rfl) Tryz.func3 (by kernel_rfl)
  (of_decide_eq_true (by kernel_rfl)) (by unfold Func.isWrapper; first | (rw [if_pos (by decide +kernel)]; kernel_rfl) | (rw [if_neg (by decide +kernel)]; exact ⟨rfl, rfl⟩))
  (fun os started H enc _ => lifted os started H enc)
theorem proved : Rows.LinearWaysSaid := over
end linearWays
end Go.Proofs.YtddckdhnolmjoaaGreat
