/- 'voilelaw29.DeltaNil': what is answered of nothing is what the chapter says. A closed sentence; conditions: none. -/
import Derived.Test.YtipeblmgochdfaaGreatQ12
namespace Go.Proofs.YtipeblmgochdfaaGreat
open Go.RowKit
set_option linter.unusedVariables false
set_option linter.unusedSimpArgs false
set_option linter.unnecessarySimpa false
set_option maxRecDepth 100000
set_option maxHeartbeats 4000000
theorem rows_new (l r k : Int) (hk : chkK [] [l, r] = k) (W : World) (base D : Nat) (h : DevAt base W D []) : Calls Tryz.prog 6 #[.pointer (some ⟨D, 0, none⟩), .int .u64 l, .int .u64 r] W fun e w' => ∃ v, e = .returned (.tuple #[v, .int .i64 k]) ∧ Gr W w' := by
 subst hk
 refine (rows_any base D [] l r W h).mono ?_
 rintro _ _ ⟨v, rfl, ho, hg⟩
 exact ⟨v, rfl, hg⟩
theorem apply_none (W : World) (base D : Nat) (h : DevAt base W D []) : Calls Tryz.prog 10 #[.pointer (some ⟨D, 0, none⟩), .slice none 0 0] W fun e w' => ∃ D3, e = .returned (.tuple #[.pointer (some ⟨D3, 0, none⟩), .int .i64 0]) ∧ Gr W w' := by
 refine (apply_any base D [] [] 0 rfl (by omega) none 0 W h RowN.nil (by simp)).mono ?_
 rintro _ _ ⟨⟨_, D3, rfl, _⟩ | ⟨h1, _⟩, hg⟩
 ·exact ⟨D3, rfl, hg⟩
 ·exact absurd rfl h1
theorem apply_del (W : World) (base D B : Nat) (h : DevAt base W D []) (hB : BlockAt W B #[.int .i64 2, .int .u64 1, .int .u64 0, .int .i64 0, .int .i64 0, .int .i64 0, .slice none 0 0] 43) : Calls Tryz.prog 10 #[.pointer (some ⟨D, 0, none⟩), .slice (some ⟨B, 0, none⟩) 1 1] W fun e w' => e = .returned (.tuple #[.pointer none, .int .i64 6]) ∧ Gr W w' := by
 have e0 : appK [] ([⟨⟨2, 1, 0, 0, 0, 0, []⟩, none, 0, 0⟩].map OpC.o) = (6, []) := by kernel_rfl
 refine (apply_any base D [] [⟨⟨2, 1, 0, 0, 0, 0, []⟩, none, 0, 0⟩] 1 rfl (by omega) (some ⟨B, 0, none⟩) 1 W h ⟨fun _ _ => trivial, fun _ => ⟨B, 0, rfl, hB.lt, CellsN.rows opIs _ (fun _ _ => trivial) hB rfl⟩⟩ ?_).mono ?_
 ·intro x hx
  simp only [List.mem_cons, List.mem_nil_iff, or_false] at hx
  subst hx
  exact ⟨rfl, Nat.le_refl _, Nat.zero_le _, ⟨fun h => absurd rfl h⟩, by show (0 : Int) ≤ 1; omega, by show (0 : Int) ≤ 0; omega, by show (2 : Int) ≠ 9; decide⟩
 ·rw [e0]
  rintro _ _ ⟨⟨h1, _⟩ | ⟨_, rfl⟩, hg⟩
  ·cases h1
  ·exact ⟨rfl, hg⟩
theorem deltaNil_walk (w : World) : Calls Tryz.prog 3 #[] w fun e w' => e = .returned (.bool true) ∧ Gr w w' := by
 have R1 := Lib.hid (fun W base D h => rows_new 1 1 2 (by decide) W base D h)
 have R2 := Lib.hid (fun W base D h => rows_new 1 2 6 (by decide) W base D h)
 go_enter Tryz.func3, Tryz.ntmps3
 go_wp2_with (first
  | (go_at_call 6; ((with_reducible refine (rows_nil _ _ _).mono ?_); rintro _ _ ⟨rfl, ⟨ga, rfl⟩⟩))
  | (go_at_call 7; ((with_reducible refine (of_nil _ _ _).mono ?_); rintro _ _ ⟨rfl, ⟨gb, rfl⟩⟩))
  | (go_at_call 8; ((with_reducible refine (patch_nil _ _ _).mono ?_); rintro _ _ ⟨rfl, ⟨gc, rfl⟩⟩))
  | (go_at_call 9; ((with_reducible refine (lay_nil _ _ _ _).mono ?_); rintro _ _ ⟨rfl, ⟨gd, rfl⟩⟩))
  | (go_at_call 10; ((with_reducible refine (apply_nil _).mono ?_); rintro _ _ ⟨rfl, ⟨ge, rfl⟩⟩))
  | (go_at_call 11; ((with_reducible refine (new_any _).mono ?_); rintro _ _ ⟨D, rfl, hd, ⟨gn, rfl⟩⟩))
  | (go_at_call 6; ((with_reducible refine (R1.out _ _ D hd).mono ?_); rintro _ _ ⟨v1, rfl, ⟨gr1, rfl⟩⟩))
  | (go_at_call 6; ((with_reducible refine (R2.out _ _ D hd).mono ?_); rintro _ _ ⟨v2, rfl, ⟨gr2, rfl⟩⟩))
  | (go_at_call 9; ((with_reducible refine (lay_121 _ D _ hd).mono ?_); rintro _ _ ⟨rfl, ⟨gl, rfl⟩⟩))
  | (go_at_call 10; ((with_reducible refine (apply_none _ _ D hd).mono ?_); rintro _ _ ⟨D3, rfl, ⟨gp, rfl⟩⟩))
  | (go_at_call 10; ((refine (apply_del _ _ D _ (hd.gr gri) (blk_cast inferInstance rfl)).mono ?_); rintro _ _ ⟨rfl, ⟨gq, rfl⟩⟩))
  | (go_at_call 12; ((with_reducible refine (dkind_nil _).mono ?_); rintro _ _ ⟨rfl, ⟨gk, rfl⟩⟩))
  | (go_at_call 13; ((with_reducible refine (known_any _).mono ?_); rintro _ _ ⟨rfl, ⟨gw, rfl⟩⟩)))
 go_ret
 exact ⟨rfl, gri⟩
end Go.Proofs.YtipeblmgochdfaaGreat
namespace Go.Proofs.YtipeblmgochdfaaGreat
open Go.ChangeShapes Go.WideShapes Go.ChangeAt Go.RowKit Go.Deep
open Go.ChangeMaps (open_string shut_string)
set_option linter.unusedVariables false
set_option linter.unusedSimpArgs false
set_option linter.unnecessarySimpa false
namespace deltaNil
theorem own : ownKnob Tryz.prog.godebug = none := by kernel_rfl
theorem laidOut : laidOutB Tryz.prog = true := by kernel_rfl
set_option maxRecDepth 100000 in
theorem lifted (os : Os) (started : os.Started) (H : Type) (enc : TypeId × Value → H) :
  ReturnsInHanded {} Tryz.checked os 3 .any (Rows.deltaNilSpec.pre6 enc Tryz.prog Tryz.f3 Rows.deltaNilRow.domain false) (Rows.deltaNilSpec.post enc Tryz.prog Tryz.f3 false true false false) := by
 refine returnsInHanded_of_change (C := Tryz.checked) own started (by kernel_rfl) Tryz.func3
  (ChangeSpec.witness6 (enc := enc) (C := Tryz.checked) false ⟨#[], #[], []⟩ 8 (by kernel_rfl) (by kernel_rfl) (by kernel_rfl) (by kernel_rfl)) ?_
 intro W base args ds gs before hval0 hW hcnd hroom
 have hval : ∀ (j : Nat) t v, Tryz.f3.params[j]? = some t → args[j]? = some v → Value.okWide Tryz.prog W .any base t v := hval0
 have hW' := hW
 have hlt0 := hW'.lt
 obtain ⟨p, q, hA0, hV, rfl, hfz, hnd⟩ := hW
 have hA : DataW.TrodAll enc Tryz.prog W 0 (fun _ => true) true Tryz.f3.params.toList args.toList ds p := hA0
 rw [Tryz.params3] at hA hval
 have hA1 := hA
 obtain ⟨rfl, rfl, rfl⟩ := trodAll_none hA
 obtain ⟨rfl, rfl⟩ := trodVars_none hV
 simp only [List.append_nil] at hW'
 refine (deltaNil_walk W).mono fun e W' ⟨he, hg⟩ => ?_
 subst he
 have hb := hg.below
 exact ⟨_, rfl, _, _, _, [], _, [], hW', trodAll_mk1 (shut_bool Tryz.underlying4 _), trodAll_below laidOut hb (by kernel_rfl) hA1 (fun x hx => by simpa using hlt0 x (by simpa using hx)), rfl, hb.frame _, fun h => by cases h⟩
theorem over : Rows.deltaNilRow.holds Tryz.pinned (OpenSpec.ofChange Rows.deltaNilSpec) :=
 OpenClaim.holds_of_wide 3 Tryz.f3 rfl rfl rfl rfl rfl rfl rfl ⟨rfl, rfl, rfl, rfl, rfl⟩ rfl rfl rfl rfl rfl (by kernel_rfl) Tryz.func3 (by kernel_rfl)
  (of_decide_eq_true (by kernel_rfl)) (by unfold Func.isWrapper; first | (rw [if_pos (by decide +kernel)]; kernel_rfl) | (rw [if_neg (by decide +kernel)]; exact ⟨rfl, rfl⟩))
  (fun os started H enc _ => lifted os started H enc)
theorem proved : Rows.DeltaNilSaid := over
end deltaNil
end Go.Proofs.YtipeblmgochdfaaGreat
