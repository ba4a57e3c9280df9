/- The tables of layers 13, 26: what the kinds have. Conditions: none. -/
import Derived.Test.YtgjdgafoidppaaaDoorSKit
namespace Go.Proofs.YtgjdgafoidppaaaDoor
open Go.RowKit
set_option linter.unusedVariables false
set_option linter.unusedSimpArgs false
set_option linter.unnecessarySimpa false
def namesB (k : Int) : ByteArray := if k = 1 then ⟨#[118, 115]⟩ else if k = 2 then ⟨#[118]⟩ else if k = 3 then ⟨#[118, 115]⟩ else if k = 4 then ⟨#[118, 116]⟩ else if k = 5 then ⟨#[118, 97, 100]⟩ else if k = 6 then ⟨#[118, 97, 99]⟩ else if k = 7 then ⟨#[118, 97, 99]⟩ else if k = 9 then ⟨#[118, 97, 99]⟩ else ⟨#[]⟩
theorem namesB_off (k : Int) (h : k < 1 ∨ 9 < k) : namesB k = ⟨#[]⟩ := by
  unfold namesB
  repeat (rw [if_neg (by omega)])
set_option maxHeartbeats 1000000 in
theorem namesB_any (k : Int) (w : World) : Calls Tryd.prog 64 #[.int .i64 k] w fun e w' => e = .returned (.string (namesB k)) ∧ Gr w w' := by
  by_cases h1 : k < 1
  · have e0 := namesB_off k (by omega)
    have e := Lib.hid e0; clear e0
    go_enter Tryd.func64, Tryd.ntmps64
    go_wp2
    go_ret
    exact ⟨by rw [e.out]; rfl, by (refine Gr.of ?_; repeat (first | with_reducible exact Below.refl _ _ | with_reducible apply below_alloc | ((with_reducible refine below_set ?_ ?hq _); case hq => (first | omega | exact Nat.le_of_lt (grown_lt _ _ _) | assumption)) | with_reducible refine below_trans ?_ (grown_below _ _) | ((with_reducible refine below_iter ?_ ?hq _ _); case hq => (first | omega | exact Nat.le_of_lt (grown_lt _ _ _) | (simp; omega))) | with_reducible apply Below.drew | with_reducible refine below_trans ?_ (by assumption)))⟩
  by_cases h2 : 9 < k
  · have e0 := namesB_off k (by omega)
    have e := Lib.hid e0; clear e0
    go_enter Tryd.func64, Tryd.ntmps64
    go_wp2
    go_ret
    exact ⟨by rw [e.out]; rfl, by (refine Gr.of ?_; repeat (first | with_reducible exact Below.refl _ _ | with_reducible apply below_alloc | ((with_reducible refine below_set ?_ ?hq _); case hq => (first | omega | exact Nat.le_of_lt (grown_lt _ _ _) | assumption)) | with_reducible refine below_trans ?_ (grown_below _ _) | ((with_reducible refine below_iter ?_ ?hq _ _); case hq => (first | omega | exact Nat.le_of_lt (grown_lt _ _ _) | (simp; omega))) | with_reducible apply Below.drew | with_reducible refine below_trans ?_ (by assumption)))⟩
  have h3 : k = 1 ∨ k = 2 ∨ k = 3 ∨ k = 4 ∨ k = 5 ∨ k = 6 ∨ k = 7 ∨ k = 8 ∨ k = 9 := by omega
  clear h1 h2
  rcases h3 with rfl | rfl | rfl | rfl | rfl | rfl | rfl | rfl | rfl
  all_goals
    go_enter Tryd.func64, Tryd.ntmps64
    go_wp2
    go_ret
    exact ⟨rfl, by (refine Gr.of ?_; repeat (first | with_reducible exact Below.refl _ _ | with_reducible apply below_alloc | ((with_reducible refine below_set ?_ ?hq _); case hq => (first | omega | exact Nat.le_of_lt (grown_lt _ _ _) | assumption)) | with_reducible refine below_trans ?_ (grown_below _ _) | ((with_reducible refine below_iter ?_ ?hq _ _); case hq => (first | omega | exact Nat.le_of_lt (grown_lt _ _ _) | (simp; omega))) | with_reducible apply Below.drew | with_reducible refine below_trans ?_ (by assumption)))⟩
def opPartsB (k : Int) : ByteArray := if k = 1 then ⟨#[118, 115]⟩ else if k = 2 then ⟨#[118]⟩ else if k = 3 then ⟨#[118, 115]⟩ else if k = 4 then ⟨#[118, 116]⟩ else if k = 5 then ⟨#[118, 97, 100]⟩ else if k = 6 then ⟨#[118, 97, 99]⟩ else if k = 7 then ⟨#[118, 97, 99]⟩ else if k = 9 then ⟨#[118, 97, 99]⟩ else ⟨#[]⟩
theorem opPartsB_off (k : Int) (h : k < 0 ∨ 9 < k) : opPartsB k = ⟨#[]⟩ := by
  unfold opPartsB
  repeat (rw [if_neg (by omega)])
set_option maxHeartbeats 1000000 in
theorem opPartsB_any (k : Int) (w : World) : Calls Tryd.prog 62 #[.int .i64 k] w fun e w' => e = .returned (.string (opPartsB k)) ∧ Gr w w' := by
  by_cases h1 : k < 0
  · have e0 := opPartsB_off k (by omega)
    have e := Lib.hid e0; clear e0
    go_enter Tryd.func62, Tryd.ntmps62
    go_wp2
    go_ret
    exact ⟨by rw [e.out]; rfl, by (refine Gr.of ?_; repeat (first | with_reducible exact Below.refl _ _ | with_reducible apply below_alloc | ((with_reducible refine below_set ?_ ?hq _); case hq => (first | omega | exact Nat.le_of_lt (grown_lt _ _ _) | assumption)) | with_reducible refine below_trans ?_ (grown_below _ _) | ((with_reducible refine below_iter ?_ ?hq _ _); case hq => (first | omega | exact Nat.le_of_lt (grown_lt _ _ _) | (simp; omega))) | with_reducible apply Below.drew | with_reducible refine below_trans ?_ (by assumption)))⟩
  by_cases h2 : 9 < k
  · have e0 := opPartsB_off k (by omega)
    have e := Lib.hid e0; clear e0
    go_enter Tryd.func62, Tryd.ntmps62
    go_wp2
    go_ret
    exact ⟨by rw [e.out]; rfl, by (refine Gr.of ?_; repeat (first | with_reducible exact Below.refl _ _ | with_reducible apply below_alloc | ((with_reducible refine below_set ?_ ?hq _); case hq => (first | omega | exact Nat.le_of_lt (grown_lt _ _ _) | assumption)) | with_reducible refine below_trans ?_ (grown_below _ _) | ((with_reducible refine below_iter ?_ ?hq _ _); case hq => (first | omega | exact Nat.le_of_lt (grown_lt _ _ _) | (simp; omega))) | with_reducible apply Below.drew | with_reducible refine below_trans ?_ (by assumption)))⟩
  have h3 : k = 0 ∨ k = 1 ∨ k = 2 ∨ k = 3 ∨ k = 4 ∨ k = 5 ∨ k = 6 ∨ k = 7 ∨ k = 8 ∨ k = 9 := by omega
  clear h1 h2
  rcases h3 with rfl | rfl | rfl | rfl | rfl | rfl | rfl | rfl | rfl | rfl
  all_goals
    go_enter Tryd.func62, Tryd.ntmps62
    go_wp2
    go_ret
    exact ⟨rfl, by (refine Gr.of ?_; repeat (first | with_reducible exact Below.refl _ _ | with_reducible apply below_alloc | ((with_reducible refine below_set ?_ ?hq _); case hq => (first | omega | exact Nat.le_of_lt (grown_lt _ _ _) | assumption)) | with_reducible refine below_trans ?_ (grown_below _ _) | ((with_reducible refine below_iter ?_ ?hq _ _); case hq => (first | omega | exact Nat.le_of_lt (grown_lt _ _ _) | (simp; omega))) | with_reducible apply Below.drew | with_reducible refine below_trans ?_ (by assumption)))⟩
def actPartsB (k : Int) : ByteArray := if k = 1 then ⟨#[100, 111]⟩ else if k = 2 then ⟨#[110]⟩ else if k = 3 then ⟨#[100]⟩ else if k = 4 then ⟨#[100, 112]⟩ else if k = 5 then ⟨#[100, 112]⟩ else if k = 6 then ⟨#[100, 110]⟩ else if k = 7 then ⟨#[100]⟩ else if k = 8 then ⟨#[100]⟩ else if k = 9 then ⟨#[100, 110]⟩ else ⟨#[]⟩
theorem actPartsB_off (k : Int) (h : k < 0 ∨ 10 < k) : actPartsB k = ⟨#[]⟩ := by
  unfold actPartsB
  repeat (rw [if_neg (by omega)])
set_option maxHeartbeats 1000000 in
theorem actPartsB_any (k : Int) (w : World) : Calls Tryd.prog 49 #[.int .i64 k] w fun e w' => e = .returned (.string (actPartsB k)) ∧ Gr w w' := by
  by_cases h1 : k < 0
  · have e0 := actPartsB_off k (by omega)
    have e := Lib.hid e0; clear e0
    go_enter Tryd.func49, Tryd.ntmps49
    go_wp2
    go_ret
    exact ⟨by rw [e.out]; rfl, by (refine Gr.of ?_; repeat (first | with_reducible exact Below.refl _ _ | with_reducible apply below_alloc | ((with_reducible refine below_set ?_ ?hq _); case hq => (first | omega | exact Nat.le_of_lt (grown_lt _ _ _) | assumption)) | with_reducible refine below_trans ?_ (grown_below _ _) | ((with_reducible refine below_iter ?_ ?hq _ _); case hq => (first | omega | exact Nat.le_of_lt (grown_lt _ _ _) | (simp; omega))) | with_reducible apply Below.drew | with_reducible refine below_trans ?_ (by assumption)))⟩
  by_cases h2 : 10 < k
  · have e0 := actPartsB_off k (by omega)
    have e := Lib.hid e0; clear e0
    go_enter Tryd.func49, Tryd.ntmps49
    go_wp2
    go_ret
    exact ⟨by rw [e.out]; rfl, by (refine Gr.of ?_; repeat (first | with_reducible exact Below.refl _ _ | with_reducible apply below_alloc | ((with_reducible refine below_set ?_ ?hq _); case hq => (first | omega | exact Nat.le_of_lt (grown_lt _ _ _) | assumption)) | with_reducible refine below_trans ?_ (grown_below _ _) | ((with_reducible refine below_iter ?_ ?hq _ _); case hq => (first | omega | exact Nat.le_of_lt (grown_lt _ _ _) | (simp; omega))) | with_reducible apply Below.drew | with_reducible refine below_trans ?_ (by assumption)))⟩
  have h3 : k = 0 ∨ k = 1 ∨ k = 2 ∨ k = 3 ∨ k = 4 ∨ k = 5 ∨ k = 6 ∨ k = 7 ∨ k = 8 ∨ k = 9 ∨ k = 10 := by omega
  clear h1 h2
  rcases h3 with rfl | rfl | rfl | rfl | rfl | rfl | rfl | rfl | rfl | rfl | rfl
  all_goals
    go_enter Tryd.func49, Tryd.ntmps49
    go_wp2
    go_ret
    exact ⟨rfl, by (refine Gr.of ?_; repeat (first | with_reducible exact Below.refl _ _ | with_reducible apply below_alloc | ((with_reducible refine below_set ?_ ?hq _); case hq => (first | omega | exact Nat.le_of_lt (grown_lt _ _ _) | assumption)) | with_reducible refine below_trans ?_ (grown_below _ _) | ((with_reducible refine below_iter ?_ ?hq _ _); case hq => (first | omega | exact Nat.le_of_lt (grown_lt _ _ _) | (simp; omega))) | with_reducible apply Below.drew | with_reducible refine below_trans ?_ (by assumption)))⟩
@[go_sem] theorem dec_d_0 : Utf8.decode ⟨#[100]⟩ 0 = (100, 1) := by decide +kernel
@[go_sem] theorem dec_dn_0 : Utf8.decode ⟨#[100, 110]⟩ 0 = (100, 1) := by decide +kernel
@[go_sem] theorem dec_dn_1 : Utf8.decode ⟨#[100, 110]⟩ 1 = (110, 1) := by decide +kernel
@[go_sem] theorem dec_do_0 : Utf8.decode ⟨#[100, 111]⟩ 0 = (100, 1) := by decide +kernel
@[go_sem] theorem dec_do_1 : Utf8.decode ⟨#[100, 111]⟩ 1 = (111, 1) := by decide +kernel
@[go_sem] theorem dec_dp_0 : Utf8.decode ⟨#[100, 112]⟩ 0 = (100, 1) := by decide +kernel
@[go_sem] theorem dec_dp_1 : Utf8.decode ⟨#[100, 112]⟩ 1 = (112, 1) := by decide +kernel
@[go_sem] theorem dec_n_0 : Utf8.decode ⟨#[110]⟩ 0 = (110, 1) := by decide +kernel
@[go_sem] theorem dec_v_0 : Utf8.decode ⟨#[118]⟩ 0 = (118, 1) := by decide +kernel
@[go_sem] theorem dec_vac_0 : Utf8.decode ⟨#[118, 97, 99]⟩ 0 = (118, 1) := by decide +kernel
@[go_sem] theorem dec_vac_1 : Utf8.decode ⟨#[118, 97, 99]⟩ 1 = (97, 1) := by decide +kernel
@[go_sem] theorem dec_vac_2 : Utf8.decode ⟨#[118, 97, 99]⟩ 2 = (99, 1) := by decide +kernel
@[go_sem] theorem dec_vad_0 : Utf8.decode ⟨#[118, 97, 100]⟩ 0 = (118, 1) := by decide +kernel
@[go_sem] theorem dec_vad_1 : Utf8.decode ⟨#[118, 97, 100]⟩ 1 = (97, 1) := by decide +kernel
@[go_sem] theorem dec_vad_2 : Utf8.decode ⟨#[118, 97, 100]⟩ 2 = (100, 1) := by decide +kernel
@[go_sem] theorem dec_vs_0 : Utf8.decode ⟨#[118, 115]⟩ 0 = (118, 1) := by decide +kernel
@[go_sem] theorem dec_vs_1 : Utf8.decode ⟨#[118, 115]⟩ 1 = (115, 1) := by decide +kernel
@[go_sem] theorem dec_vt_0 : Utf8.decode ⟨#[118, 116]⟩ 0 = (118, 1) := by decide +kernel
@[go_sem] theorem dec_vt_1 : Utf8.decode ⟨#[118, 116]⟩ 1 = (116, 1) := by decide +kernel
end Go.Proofs.YtgjdgafoidppaaaDoor
