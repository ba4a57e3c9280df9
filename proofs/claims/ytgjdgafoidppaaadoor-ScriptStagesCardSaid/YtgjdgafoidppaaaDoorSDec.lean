/- The letters of what the kinds have, one by one. Conditions: none. -/
import Derived.Test.YtgjdgafoidppaaaDoorIter
namespace Go.Proofs.YtgjdgafoidppaaaDoor
@[go_sem] theorem dec_d_0 : Utf8.decode ⟨#[100]⟩ 0 = (100, 1) := by decide +kernel
@[go_sem] theorem dec_dn_0 : Utf8.decode ⟨#[100, 110]⟩ 0 = (100, 1) := by decide +kernel
@[go_sem] theorem dec_dn_1 : Utf8.decode ⟨#[100, 110]⟩ 1 = (110, 1) := by decide +kernel
@[go_sem] theorem dec_do_0 : Utf8.decode ⟨#[100, 111]⟩ 0 = (100, 1) := by decide +kernel
@[go_sem] theorem dec_do_1 : Utf8.decode ⟨#[100, 111]⟩ 1 = (111, 1) := by decide +kernel
@[go_sem] theorem dec_dp_0 : Utf8.decode ⟨#[100, 112]⟩ 0 = (100, 1) := by decide +kernel
@[go_sem] theorem dec_dp_1 : Utf8.decode ⟨#[100, 112]⟩ 1 = (112, 1) := by decide +kernel
@[go_sem] theorem dec_n_0 : Utf8.decode ⟨#[110]⟩ 0 = (110, 1) := by decide +kernel
@[go_sem] theorem dec_v_0 : Utf8.decode ⟨#[118]⟩ 0 = (118, 1) := by decide +kernel
@[go_sem] theorem dec_vac_0 : Utf8.decode ⟨#[118, 97, 99]⟩ 0 = (118, 1) := by decide +kernel
@[go_sem] theorem dec_vac_1 : Utf8.decode ⟨#[118, 97, 99]⟩ 1 = (97, 1) := by decide +kernel
@[go_sem] theorem dec_vac_2 : Utf8.decode ⟨#[118, 97, 99]⟩ 2 = (99, 1) := by decide +kernel
@[go_sem] theorem dec_vad_0 : Utf8.decode ⟨#[118, 97, 100]⟩ 0 = (118, 1) := by decide +kernel
@[go_sem] theorem dec_vad_1 : Utf8.decode ⟨#[118, 97, 100]⟩ 1 = (97, 1) := by decide +kernel
@[go_sem] theorem dec_vad_2 : Utf8.decode ⟨#[118, 97, 100]⟩ 2 = (100, 1) := by decide +kernel
@[go_sem] theorem dec_vs_0 : Utf8.decode ⟨#[118, 115]⟩ 0 = (118, 1) := by decide +kernel
@[go_sem] theorem dec_vs_1 : Utf8.decode ⟨#[118, 115]⟩ 1 = (115, 1) := by decide +kernel
@[go_sem] theorem dec_vt_0 : Utf8.decode ⟨#[118, 116]⟩ 0 = (118, 1) := by decide +kernel
@[go_sem] theorem dec_vt_1 : Utf8.decode ⟨#[118, 116]⟩ 1 = (116, 1) := by decide +kernel
end Go.Proofs.YtgjdgafoidppaaaDoor
