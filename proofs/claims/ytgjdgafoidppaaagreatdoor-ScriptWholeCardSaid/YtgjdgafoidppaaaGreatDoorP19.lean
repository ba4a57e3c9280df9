/- The reference's Text. Conditions: what is read stands in memory; what is told is at most 16 MiB. Arguments that hold slices, opened: an operation, an act. Conditions: none. An act that came in, opened. Conditions: none. Acts, and a script, that came in, opened. Conditions: none. Rows of acts in memory, and the reference's Much. Conditions: what is read stands in memory. Two stages compared. Conditions: none. The reference's Same, script.Same: two scripts compared. Conditions: what is read stands in memory. 'known' of layer 26: the chapter's rows. Conditions: strconv's table stands. The walk of ScriptWhole: it returns true. Conditions: the tables stand. -/
import Derived.Test.YtgjdgafoidppaaaGreatDoorP18
import Derived.Test.YtgjdgafoidppaaaGreatDoorP13
import Derived.Test.YtgjdgafoidppaaaGreatDoorP16
import Derived.Test.YtgjdgafoidppaaaGreatDoorP15
import Derived.Test.YtgjdgafoidppaaaGreatDoorP01
import Derived.Test.YtgjdgafoidppaaaGreatDoorP07
import Derived.ChangeSlices
import Derived.Test.YtgjdgafoidppaaaGreatDoorP11
import Derived.Test.YtgjdgafoidppaaaGreatDoorP17
import Derived.Test.YtgjdgafoidppaaaGreatDoorP14
import Derived.Test.YtgjdgafoidppaaaGreatDoorP09
namespace Go.Proofs.YtgjdgafoidppaaaGreatDoor
open Go.RowKit
set_option linter.unusedVariables false
set_option linter.unusedSimpArgs false
set_option linter.unnecessarySimpa false
theorem mayAct26_row {W : World} {b p : Nat} {a : ActV} {Ad : Option Addr} {qd : Nat} {Av : Option Addr} {qv : Nat} (hm : ActM W b p a Ad qd Av qv) (V : World) (hV : Gr W V) : Calls Tryz.prog 23 #[.agg (actB a Ad qd Av qv)] V (fun e w' => e = .returned (.bool a.may) ∧ Gr V w') :=
 mayAct26_any a.k a.nd a.m a.o.k a.o.v a.o.t a.o.s a.o.a a.o.c Ad Av a.o.d.length qd a.pk.length qv a.f a.o.d a.pk V rfl hm.bq (hm.d.gr hV) rfl (hm.v.gr hV) hm.bd.v0 hm.bd.t0
theorem ractText_row {W : World} {b p : Nat} {a : ActV} {Ad : Option Addr} {qd : Nat} {Av : Option Addr} {qv : Nat} (hm : ActM W b p a Ad qd Av qv) (hmay : a.may = true) (V : World) [hk : Tb V] (hV : Gr W V) : Calls Tryz.prog 24 #[.agg (actB a Ad qd Av qv)] V (fun e w' => e = .returned (.string ⟨a.text.toArray⟩) ∧ Gr V w') :=
 ractText_any a.k a.nd a.m a.o.k a.o.v a.o.t a.o.s a.o.a a.o.c a.f Ad Av a.o.d.length qd a.pk.length qv a.o.d a.pk V hmay hm.bd rfl hm.ld (hm.d.gr hV) rfl (hm.v.gr hV)
set_option maxRecDepth 100000 in
set_option maxHeartbeats 8000000 in
theorem rtext_any (m0 m1 d0 d1 g : Int) (A : Option Addr) (n q : Nat) (l : List ActV) (w : World) [hk : Tb w] (hl : l.length = n) (hn : n ≤ 9223372036854775807) (h : RowA w A l) (hlen : mayStB m0 m1 d0 d1 g = true → noMay l = false → n ≤ 5000 → (scTextL m0 m1 d0 d1 g l).length ≤ 16777216) :
  Calls Tryz.prog 30 #[.agg #[.int .i64 m0, .int .i64 m1, .int .i64 d0, .int .i64 d1, .int .i64 g, .slice A n q]] w fun e w' => e = .returned (.tuple #[.string (tS m0 m1 d0 d1 g l), .int .i64 (tE m0 m1 d0 d1 g l)]) ∧ Gr w w' := by
 have HL := Lib.hid hl; have H := Lib.hid h; have HLEN := Lib.hid hlen; clear hl h hlen
 have HMS := Lib.hid (fun W => mayStage26_any m0 m1 d0 d1 g W)
 rcases Bool.eq_false_or_eq_true (mayStB m0 m1 d0 d1 g) with hs | hs
 ·rw [hs] at HMS
  have HSS := Lib.hid hs; clear hs
  obtain ⟨W0, hW0⟩ : ∃ W0, w.alloc (.cells #[.int .i64 m0, .int .i64 m1, .int .i64 d0, .int .i64 d1, .int .i64 g, .slice A n q] 58) = W0 := ⟨_, rfl⟩
  have HW0 := Lib.hid hW0
  have hbox0 : BlockAt W0 w.heap.size #[.int .i64 m0, .int .i64 m1, .int .i64 d0, .int .i64 d1, .int .i64 g, .slice A n q] 58 := by rw [← HW0.out]; infer_instance
  have hg0 : Gr w W0 := by rw [← HW0.out]; exact gri
  have HG0 := Lib.hid hg0; have HBOX0 := Lib.hid hbox0
  haveI : GrC w W0 := ⟨hg0.below⟩
  haveI : Old w.heap.size W0 := hbox0.old
  haveI : Tb W0 := hk.of_below hg0.below
  have x0 : W0.cell? ⟨w.heap.size, 0, none⟩ = some (.int .i64 m0) := (@block_cells _ _ 0 _ _ hbox0).trans rfl
  have x1 : W0.cell? ⟨w.heap.size, 1, none⟩ = some (.int .i64 m1) := (@block_cells _ _ 1 _ _ hbox0).trans rfl
  have x2 : W0.cell? ⟨w.heap.size, 2, none⟩ = some (.int .i64 d0) := (@block_cells _ _ 2 _ _ hbox0).trans rfl
  have x3 : W0.cell? ⟨w.heap.size, 3, none⟩ = some (.int .i64 d1) := (@block_cells _ _ 3 _ _ hbox0).trans rfl
  have x4 : W0.cell? ⟨w.heap.size, 4, none⟩ = some (.int .i64 g) := (@block_cells _ _ 4 _ _ hbox0).trans rfl
  have x5 : W0.cell? ⟨w.heap.size, 5, none⟩ = some (.slice A n q) := (@block_cells _ _ 5 _ _ hbox0).trans rfl
  clear hg0 hbox0
  go_enter Tryz.func30, Tryz.ntmps30
  go_wp2_with ((go_at_call 74; ((with_reducible refine (HMS.out _).mono ?_); rintro _ _ ⟨rfl, g1, rfl⟩)))
  clear hW0 x0 x1 x2 x3 x4 x5
  go_loopw [4] (fun iv wr => ∃ j : Nat, iv = .int .i64 j ∧ j ≤ n ∧ Hid ((l.take j).any (fun a => !a.may) = false) ∧ Gr W0 wr) (fun iv _ => n - (intOf iv).toNat)
  case atStart => exact ⟨0, rfl, Nat.zero_le _, Lib.hid (by simp), gri⟩
  case round =>
   obtain ⟨j, rfl, hj, hany, gj, rfl⟩ := hrel
   have hbx : BlockAt (grown W0 gj) w.heap.size #[.int .i64 m0, .int .i64 m1, .int .i64 d0, .int .i64 d1, .int .i64 g, .slice A n q] 58 := HBOX0.out.gr (Gr.of (grown_below _ _))
   have x0 : (grown W0 gj).cell? ⟨w.heap.size, 0, none⟩ = some (.int .i64 m0) := (@block_cells _ _ 0 _ _ hbx).trans rfl
   have x1 : (grown W0 gj).cell? ⟨w.heap.size, 1, none⟩ = some (.int .i64 m1) := (@block_cells _ _ 1 _ _ hbx).trans rfl
   have x2 : (grown W0 gj).cell? ⟨w.heap.size, 2, none⟩ = some (.int .i64 d0) := (@block_cells _ _ 2 _ _ hbx).trans rfl
   have x3 : (grown W0 gj).cell? ⟨w.heap.size, 3, none⟩ = some (.int .i64 d1) := (@block_cells _ _ 3 _ _ hbx).trans rfl
   have x4 : (grown W0 gj).cell? ⟨w.heap.size, 4, none⟩ = some (.int .i64 g) := (@block_cells _ _ 4 _ _ hbx).trans rfl
   have x5 : (grown W0 gj).cell? ⟨w.heap.size, 5, none⟩ = some (.slice A n q) := (@block_cells _ _ 5 _ _ hbx).trans rfl
   by_cases hlt : j < n
   ·have hjl : j < l.length := by have := HL.out; omega
    have hgj := List.getElem?_eq_getElem hjl
    obtain ⟨b, o, rfl, hb, hc⟩ := (H.out.gr (HG0.out.trans (Gr.of (grown_below _ gj)))).at_ (by rintro rfl; simp at hjl)
    obtain ⟨Ad, qd, Av, qv, hm⟩ := hc j _ hgj
    have hta := take_any (fun a : ActV => !a.may) l j _ hgj
    have HMA := Lib.hid (fun V hV => mayAct26_row hm V hV)
    generalize l[j] = a at *
    obtain ⟨k, nd, m, ⟨ok, ov, ot, os, oa, oc, od⟩, f, pk⟩ := a
    have v0 : (grown W0 gj).cell? ⟨b, o + j * 12, none⟩ = some (.int .i64 k) := hm.c 0 _ rfl
    have v1 : (grown W0 gj).cell? ⟨b, o + j * 12 + 1, none⟩ = some (.int .i64 nd) := hm.c 1 _ rfl
    have v2 : (grown W0 gj).cell? ⟨b, o + j * 12 + 2, none⟩ = some (.int .i64 m) := hm.c 2 _ rfl
    have v3 : (grown W0 gj).cell? ⟨b, o + j * 12 + 3, none⟩ = some (.int .i64 ok) := hm.c 3 _ rfl
    have v4 : (grown W0 gj).cell? ⟨b, o + j * 12 + 4, none⟩ = some (.int .u64 ov) := hm.c 4 _ rfl
    have v5 : (grown W0 gj).cell? ⟨b, o + j * 12 + 5, none⟩ = some (.int .u64 ot) := hm.c 5 _ rfl
    have v6 : (grown W0 gj).cell? ⟨b, o + j * 12 + 6, none⟩ = some (.int .i64 os) := hm.c 6 _ rfl
    have v7 : (grown W0 gj).cell? ⟨b, o + j * 12 + 7, none⟩ = some (.int .i64 oa) := hm.c 7 _ rfl
    have v8 : (grown W0 gj).cell? ⟨b, o + j * 12 + 8, none⟩ = some (.int .i64 oc) := hm.c 8 _ rfl
    have v9 : (grown W0 gj).cell? ⟨b, o + j * 12 + 9, none⟩ = some (.slice Ad od.length qd) := hm.c 9 _ rfl
    have v10 : (grown W0 gj).cell? ⟨b, o + j * 12 + 10, none⟩ = some (.bool f) := hm.c 10 _ rfl
    have v11 : (grown W0 gj).cell? ⟨b, o + j * 12 + 11, none⟩ = some (.slice Av pk.length qv) := hm.c 11 _ rfl
    have hji : (j : Int) < (n : Int) := by omega
    obtain ⟨B, hB⟩ : ∃ B, (⟨k, nd, m, ⟨ok, ov, ot, os, oa, oc, od⟩, f, pk⟩ : ActV).may = B := ⟨_, rfl⟩
    have HMA := Lib.hid (fun V (hV : Gr (grown W0 gj) V) => (show Calls Tryz.prog 23 #[.agg #[.int .i64 k, .int .i64 nd, .int .i64 m, .int .i64 ok, .int .u64 ov, .int .u64 ot, .int .i64 os, .int .i64 oa, .int .i64 oc, .slice Ad od.length qd, .bool f, .slice Av pk.length qv]] V (fun e w' => e = .returned (.bool B) ∧ Gr V w') from hB ▸ HMA.out V hV))
    have HTA := Lib.hid hta; have HBB := Lib.hid hB; have HLJ := Lib.hid hgj
    clear hc hm hta hB hgj hjl hbx
    cases B
    ·have hE : tE m0 m1 d0 d1 g l = 2 := by
      have : noMay l = true := List.any_eq_true.2 ⟨_, List.mem_of_getElem? HLJ.out, by rw [HBB.out]; rfl⟩
      simp [tE, this]
     have hS : tS m0 m1 d0 d1 g l = ⟨#[]⟩ := by simp [tS, hE]
     have HE := Lib.hid hE; have HS := Lib.hid hS; clear hE hS
     go_wp2_with ((go_at_call 23; ((with_reducible refine (HMA.out _ gri).mono ?_); rintro _ _ ⟨rfl, g2, rfl⟩)))
     go_ret2
     exact ⟨by rw [HE.out, HS.out]; rfl, gri⟩
    ·go_wp2_with ((go_at_call 23; ((with_reducible refine (HMA.out _ gri).mono ?_); rintro _ _ ⟨rfl, g2, rfl⟩)))
     go_roundw
     case rel => exact ⟨j + 1, by go_num, by omega, Lib.hid (by rw [HTA.out, hany.out, HBB.out]; rfl), gri⟩
     case measure => simp [intOf]; omega
   ·have hno : noMay l = false := by
     have := hany.out
     rw [List.take_of_length_le (by have := HL.out; omega)] at this
     exact this
    have hji : ¬ (j : Int) < (n : Int) := by omega
    have HNM := Lib.hid hno; clear hno hany
    haveI : Old w.heap.size (grown W0 gj) := hbx.old
    by_cases h5 : n ≤ 5000
    ·have h5i : ¬ (5000 : Int) < (n : Int) := by omega
     have h6 : ¬ 5000 < l.length := by have := HL.out; omega
     have hE : tE m0 m1 d0 d1 g l = 0 := by simp [tE, HSS.out, HNM.out, h6]
     have hS : tS m0 m1 d0 d1 g l = ⟨(scTextL m0 m1 d0 d1 g l).toArray⟩ := by rw [tS, if_pos hE]
     have hz := HLEN.out HSS.out HNM.out h5
     have hbd : StBd m0 m1 d0 d1 g := ⟨by have := HSS.out; simp only [mayStB, Bool.and_eq_true, decide_eq_true_eq] at this; omega⟩
     have HE := Lib.hid hE; have HS := Lib.hid hS; have HSZ := Lib.hid hz; clear hE hS hz h6
     have hst := stageWords_len hbd
     have HST := Lib.hid (fun W => (show Calls Tryz.prog 75 #[.agg #[.int .i64 m0, .int .i64 m1, .int .i64 d0, .int .i64 d1, .int .i64 g]] W (fun e w' => e = .returned (.string ⟨(stageTextL m0 m1 d0 d1 g).toArray⟩) ∧ Gr W w') from by
      have hb := hbd.is
      obtain ⟨a0, rfl⟩ := Int.eq_ofNat_of_zero_le hb.1
      obtain ⟨a1, rfl⟩ := Int.eq_ofNat_of_zero_le hb.2.2.1
      obtain ⟨a2, rfl⟩ := Int.eq_ofNat_of_zero_le hb.2.2.2.2.1
      obtain ⟨a3, rfl⟩ := Int.eq_ofNat_of_zero_le hb.2.2.2.2.2.2.1
      obtain ⟨a4, rfl⟩ := Int.eq_ofNat_of_zero_le hb.2.2.2.2.2.2.2.2.1
      exact stageText26_any a0 a1 a2 a3 a4 hbd W))
     clear hbd
     have HCB := conv_bytes
     go_wp2_with ((go_at_call 75; ((with_reducible refine (HST.out _).mono ?_); rintro _ _ ⟨rfl, g3, rfl⟩)))
     have hg9 : Gr w (grown (grown W0 gj) g3) := HG0.out.trans gri
     have hbx9 : BlockAt (grown (grown W0 gj) g3) w.heap.size #[.int .i64 m0, .int .i64 m1, .int .i64 d0, .int .i64 d1, .int .i64 g, .slice A n q] 58 := HBOX0.out.gr gri
     haveI htb9 : Tb (grown (grown W0 gj) g3) := inferInstance
     clear x0 x1 x2 x3 x4 x5 hbx HCB
     generalize grown (grown W0 gj) g3 = W9 at *
     have HG9 := Lib.hid hg9; have HBX9 := Lib.hid hbx9; clear hg9 hbx9
     have hown0 := conv_bytes_own W9 (({ data := (stageTextL m0 m1 d0 d1 g).toArray } : ByteArray) ++ { data := #[10] }) (stageTextL m0 m1 d0 d1 g ++ [10]) (by simp)
     rw [line_size] at hown0
     have HO0 := Lib.hid hown0; clear hown0
     go_loopw [5, 6] (fun v iv wr => ∃ j : Nat, iv = .int .i64 j ∧ j ≤ n ∧ OwnB W9.heap.size wr v (glueL ((linesOf m0 m1 d0 d1 g l).take (j + 1))) ∧ Below W9.heap.size W9 wr) (fun _ iv _ => n - (intOf iv).toNat)
     case atStart =>
      refine ⟨0, rfl, Nat.zero_le _, ?_, (gri : Gr W9 _).below⟩
      exact HO0.out
     case round =>
      obtain ⟨j, rfl, hj, hown, hbw⟩ := hrel
      have hgl := glue_take_le (linesOf m0 m1 d0 d1 g l) (j + 1)
      have hz2 := HSZ.out
      unfold scTextL at hz2
      have hne : 0 < (glueL ((linesOf m0 m1 d0 d1 g l).take (j + 1))).length := by
       have : (linesOf m0 m1 d0 d1 g l).take (j + 1) = stageTextL m0 m1 d0 d1 g :: (l.map ActV.text).take j := rfl
       rw [this, glueL, List.length_append, List.length_cons]; omega
      obtain ⟨T0, hT0⟩ : ∃ T0, glueL ((linesOf m0 m1 d0 d1 g l).take (j + 1)) = T0 := ⟨_, rfl⟩
      rw [hT0] at hown hgl hne
      obtain ⟨AA, cap, rfl, hcap, hrow⟩ := hown.row
      have hlj : (T0.length : Int) ≤ 16777216 := by omega
      have hbx : BlockAt wr w.heap.size #[.int .i64 m0, .int .i64 m1, .int .i64 d0, .int .i64 d1, .int .i64 g, .slice A n q] 58 := HBX9.out.gr (Gr.of hbw)
      have x5 : wr.cell? ⟨w.heap.size, 5, none⟩ = some (.slice A n q) := (@block_cells _ _ 5 _ _ hbx).trans rfl
      haveI : Old w.heap.size wr := hbx.old
      haveI : From W9 wr := ⟨hbw.size⟩
      haveI : GrC W9 wr := ⟨hbw⟩
      haveI : Tb wr := htb9.of_below hbw
      have HOWN := Lib.hid hown; have HT0 := Lib.hid hT0; have HROW := Lib.hid hrow; have HBW := Lib.hid hbw; have HNE := Lib.hid hne; have HGL := Lib.hid hgl; have HZ2 := Lib.hid hz2
      clear hown hT0 hrow hbw hne hgl hz2 hbx hcap
      by_cases hlt : j < n
      ·have hjl : j < l.length := by have := HL.out; omega
       have hgj := List.getElem?_eq_getElem hjl
       obtain ⟨b, o, rfl, hb, hc⟩ := (H.out.gr (HG9.out.trans (Gr.of HBW.out))).at_ (by rintro rfl; simp at hjl)
       obtain ⟨Ad, qd, Av, qv, hm⟩ := hc j _ hgj
       have hmay := noMay_no HNM.out _ (List.mem_of_getElem? hgj)
       have htk : (linesOf m0 m1 d0 d1 g l).take (j + 1 + 1) = (linesOf m0 m1 d0 d1 g l).take (j + 1) ++ [(l[j]).text] := by
        have h1 : (linesOf m0 m1 d0 d1 g l)[j + 1]? = some (l[j]).text := by
         rw [linesOf, List.getElem?_cons_succ, List.getElem?_map, hgj]; rfl
        rw [List.take_add_one (i := j + 1), h1]; rfl
       have HTX := fun V (_ : Tb V) (hV : Gr wr V) => ractText_row hm hmay V hV
       generalize l[j] = a at *
       obtain ⟨k, nd, m, ⟨ok, ov, ot, os, oa, oc, od⟩, f, pk⟩ := a
       have v0 : wr.cell? ⟨b, o + j * 12, none⟩ = some (.int .i64 k) := hm.c 0 _ rfl
       have v1 : wr.cell? ⟨b, o + j * 12 + 1, none⟩ = some (.int .i64 nd) := hm.c 1 _ rfl
       have v2 : wr.cell? ⟨b, o + j * 12 + 2, none⟩ = some (.int .i64 m) := hm.c 2 _ rfl
       have v3 : wr.cell? ⟨b, o + j * 12 + 3, none⟩ = some (.int .i64 ok) := hm.c 3 _ rfl
       have v4 : wr.cell? ⟨b, o + j * 12 + 4, none⟩ = some (.int .u64 ov) := hm.c 4 _ rfl
       have v5 : wr.cell? ⟨b, o + j * 12 + 5, none⟩ = some (.int .u64 ot) := hm.c 5 _ rfl
       have v6 : wr.cell? ⟨b, o + j * 12 + 6, none⟩ = some (.int .i64 os) := hm.c 6 _ rfl
       have v7 : wr.cell? ⟨b, o + j * 12 + 7, none⟩ = some (.int .i64 oa) := hm.c 7 _ rfl
       have v8 : wr.cell? ⟨b, o + j * 12 + 8, none⟩ = some (.int .i64 oc) := hm.c 8 _ rfl
       have v9 : wr.cell? ⟨b, o + j * 12 + 9, none⟩ = some (.slice Ad od.length qd) := hm.c 9 _ rfl
       have v10 : wr.cell? ⟨b, o + j * 12 + 10, none⟩ = some (.bool f) := hm.c 10 _ rfl
       have v11 : wr.cell? ⟨b, o + j * 12 + 11, none⟩ = some (.slice Av pk.length qv) := hm.c 11 _ rfl
       haveI : Old b wr := ⟨hb⟩
       have hji : (j : Int) < (n : Int) := by omega
       obtain ⟨T, hT⟩ : ∃ T, (⟨k, nd, m, ⟨ok, ov, ot, os, oa, oc, od⟩, f, pk⟩ : ActV).text = T := ⟨_, rfl⟩
       rw [hT] at HTX htk
       have HTX := Lib.hid (fun V (h1 : Tb V) (hV : Gr wr V) => (show Calls Tryz.prog 24 #[.agg #[.int .i64 k, .int .i64 nd, .int .i64 m, .int .i64 ok, .int .u64 ov, .int .u64 ot, .int .i64 os, .int .i64 oa, .int .i64 oc, .slice Ad od.length qd, .bool f, .slice Av pk.length qv]] V (fun e w' => e = .returned (.string ⟨T.toArray⟩) ∧ Gr V w') from HTX V h1 hV))
       have hTl : T0.length + T.length ≤ 16777216 := by
        have h1 := glue_take_le (linesOf m0 m1 d0 d1 g l) (j + 1 + 1)
        rw [htk, glueL_snoc, HT0.out] at h1
        have h2 := HZ2.out
        simp only [List.length_append] at h1
        omega
       have HTK := Lib.hid htk; have HTL := Lib.hid hTl
       clear hm hc hmay hgj hjl hT htk hTl
       go_wp2_with (first | (go_at_call 24; ((with_reducible refine (HTX.out _ inferInstance gri).mono ?_); rintro _ _ ⟨rfl, g5, rfl⟩)) | (at_builtin; refine wp_append_bstr rfl _ _ rfl W9.heap.size _ T0 rfl (HOWN.out.gr gri) _ T (by simp) rfl (by have := HTL.out; omega) HNE.out (gri : Gr W9 _).below.size ?_; intro v5 W5 a5; have HA5 := Lib.hid a5; have hfw : From W9 W5 := ⟨Nat.le_trans (gri : Gr W9 _).below.size a5.size⟩; clear a5) | (at_builtin; refine wp_append_b1 rfl _ _ rfl W9.heap.size v5 (T0 ++ T) rfl (HA5.out.own.gr gri) 10 _ rfl ?c10 (by have := HTL.out; rw [List.length_append]; omega) (Nat.le_trans hfw.le (gri : Gr W5 _).below.size) ?_))
       case c10 => simp [go_sem, bv]
       intro v6 W6 a6
       have HA6 := Lib.hid a6; clear a6
       go_wp2
       go_roundw
       case rel =>
        refine ⟨j + 1, by go_num, by omega, ?_, ?_⟩
        ·have h6 := HA6.out.own
         rw [HTK.out, glueL_snoc, HT0.out]
         exact h6
        ·exact (((gri : Gr W9 _).below.trans HA5.out.below).trans ((gri : Gr W5 _).below.mono hfw.le)).trans HA6.out.below
       case measure => simp [intOf]; omega
      ·have hji : ¬ (j : Int) < (n : Int) := by omega
       have hall : (linesOf m0 m1 d0 d1 g l).take (j + 1) = linesOf m0 m1 d0 d1 g l := List.take_of_length_le (by have := HL.out; simp [linesOf]; omega)
       have hlj2 : ¬ (16777216 : Int) < (T0.length : Int) := by omega
       have hcr := conv_row AA T0.length cap T0 wr rfl HROW.out
       have hTT : scTextL m0 m1 d0 d1 g l = T0 := by rw [← HT0.out, hall]; rfl
       have HTT := Lib.hid hTT
       clear hall hTT hlj
       go_wp2
       go_ret2
       exact ⟨by rw [HE.out, HS.out, HTT.out]; rfl, HG9.out.trans (Gr.of HBW.out)⟩
    ·have h5i : (5000 : Int) < (n : Int) := by omega
     have h6 : 5000 < l.length := by have := HL.out; omega
     have hE : tE m0 m1 d0 d1 g l = 3 := by simp [tE, HSS.out, HNM.out, h6]
     have hS : tS m0 m1 d0 d1 g l = ⟨#[]⟩ := by simp [tS, hE]
     have HE := Lib.hid hE; have HS := Lib.hid hS; clear hE hS h6 hbx
     go_wp2
     go_ret2
     exact ⟨by rw [HE.out, HS.out]; rfl, gri⟩
 ·rw [hs] at HMS
  have hE : tE m0 m1 d0 d1 g l = 2 := by simp [tE, hs]
  have hS : tS m0 m1 d0 d1 g l = ⟨#[]⟩ := by simp [tS, hE]
  have HE := Lib.hid hE; have HS := Lib.hid hS; clear hE hS hs
  go_enter Tryz.func30, Tryz.ntmps30
  go_wp2_with ((go_at_call 74; ((with_reducible refine (HMS.out _).mono ?_); rintro _ _ ⟨rfl, g1, rfl⟩)))
  go_ret2
  exact ⟨by rw [HE.out, HS.out]; rfl, gri⟩
end Go.Proofs.YtgjdgafoidppaaaGreatDoor
namespace Go.Proofs.YtgjdgafoidppaaaGreatDoor
open Go.RowKit Go.ChangeShapes Go.WideShapes
set_option linter.unusedVariables false
set_option linter.unusedSimpArgs false
set_option linter.unnecessarySimpa false
structure Came (W : World) (k v t s a c : Int) (D : Option Addr) (n q : Nat) (l : List UInt8) : Prop where
 b : Bd v t s a c
 len : l.length = n
 cap : n ≤ q
 big : n ≤ 9223372036854775807
 row : Row bv W D l
section
variable {H : Type} {enc : TypeId × Value → H}
set_option maxRecDepth 100000 in
theorem open_nums {α : Type} {W : World} {fuel : Nat} {t e : TypeId} {k : IntKind} (en : α → Value) (f : Int → α) (ht : Tryz.prog.underlying t = some (.slice e)) (he : Tryz.prog.underlying e = some (.int k)) (hc1 : Tryz.prog.cellsOf e = 1) (hf : ∀ z, (Lit.int k z).wf = true → en (f z) = .int k z) {c : Value} {x : DataW H × List MemPlace}
  (h : DataW.trod enc Tryz.prog W 0 (fun _ => true) true fuel t [c] = some x) : ∃ (D : Option Addr) (q : Nat) (l : List α) (zs : List Int), c = .slice D l.length q ∧ l.length ≤ q ∧ q ≤ maxLen ∧ Row en W D l ∧ l = zs.map f ∧ (∀ z ∈ zs, (Lit.int k z).wf = true) ∧ (D = none → q = 0) := by
 rcases open_ints ht he hc1 h with ⟨h0, _⟩ | ⟨a, len, cap, zs, h0, _, hl, hm, hz, _, hcell, hw⟩
 ·obtain rfl : c = .slice none 0 0 := by simpa using h0
  exact ⟨none, 0, [], [], rfl, Nat.le_refl _, Nat.zero_le _, Row.nil, rfl, fun z hz => by simp at hz, fun _ => rfl⟩
 ·obtain rfl : c = .slice (some a) len cap := by simpa using h0
  rw [if_pos rfl] at hz
  have hlen : ((zs.take len).map f).length = len := by rw [List.length_map, List.length_take]; omega
  refine ⟨some a, cap, (zs.take len).map f, zs.take len, by rw [hlen], by rw [hlen]; exact hl, hm, ⟨fun hne => ?_⟩, rfl, fun z hz => hw z (List.mem_of_mem_take hz), fun h => by cases h⟩
  have hpos : 0 < len := by
   rcases Nat.eq_zero_or_pos len with h | h
   ·subst h; simp at hne
   ·exact h
  obtain ⟨b, o, sp⟩ := a
  have h1 := hcell 0 (by omega)
  have hsp : sp = none := by
   cases sp with
   | none => rfl
   | some y => simp [Addr.add, World.cell?] at h1; split at h1 <;> simp at h1
  subst hsp
  have hadd : ∀ i, (⟨b, o, none⟩ : Addr).add i = ⟨b, o + i, none⟩ := fun i => by unfold Addr.add; split <;> simp_all
  refine ⟨b, o, rfl, ?_, fun j y hj => ?_⟩
  ·rcases Nat.lt_or_ge b W.heap.size with h | h
   ·exact h
   ·rw [hadd] at h1
    simp [World.cell?, Array.getElem?_eq_none h] at h1
  ·rw [List.getElem?_map] at hj
   have hjl : j < len := by
    rcases Nat.lt_or_ge j len with h | h
    ·exact h
    ·rw [List.getElem?_eq_none (by rw [List.length_take]; omega)] at hj; simp at hj
   rw [List.getElem?_take, if_pos hjl, List.getElem?_eq_getElem (by omega)] at hj
   simp only [Option.map_some, Option.some.injEq] at hj
   subst hj
   have h2 := hcell j (by omega)
   rw [hadd] at h2
   rw [h2, List.getD_eq_getElem?_getD, List.getElem?_eq_getElem (by omega)]
   simp only [Option.getD_some]
   rw [hf _ (hw _ (List.getElem_mem _))]
theorem u8_of {z : Int} (h : (Lit.int .u8 z).wf = true) : bv (UInt8.ofNat z.toNat) = .int .u8 z := by
 simp [Lit.wf, IntKind.min, IntKind.max, IntKind.bits, IntKind.signed] at h
 unfold bv
 have e : (UInt8.ofNat z.toNat).toNat = z.toNat := by rw [UInt8.toNat_ofNat', Nat.mod_eq_of_lt (by omega)]
 rw [e, Int.toNat_of_nonneg (by omega)]
end
end Go.Proofs.YtgjdgafoidppaaaGreatDoor
namespace Go.Proofs.YtgjdgafoidppaaaGreatDoor
open Go.RowKit Go.ChangeShapes Go.WideShapes
set_option linter.unusedVariables false
set_option linter.unusedSimpArgs false
set_option linter.unnecessarySimpa false
section
variable {H : Type} {enc : TypeId × Value → H}
theorem i64_wf {z : Int} (h : (Lit.int .i64 z).wf = true) : -9223372036854775808 ≤ z ∧ z ≤ 9223372036854775807 := by
 simp [Lit.wf, IntKind.min, IntKind.max, IntKind.bits, IntKind.signed] at h
 omega
end
end Go.Proofs.YtgjdgafoidppaaaGreatDoor
namespace Go.Proofs.YtgjdgafoidppaaaGreatDoor
open Go.RowKit Go.ChangeShapes Go.WideShapes
set_option linter.unusedVariables false
set_option linter.unusedSimpArgs false
set_option linter.unnecessarySimpa false
section
variable {H : Type} {enc : TypeId × Value → H}
theorem u64_wf {z : Int} (h : (Lit.int .u64 z).wf = true) : 0 ≤ z ∧ z ≤ 18446744073709551615 := by
 simp [Lit.wf, IntKind.min, IntKind.max, IntKind.bits, IntKind.signed] at h
 omega
theorem got {α : Type} {l : List α} {n : Nat} (h : l.length = n) (i : Nat) (hi : i < n) : ∃ y, l[i]? = some y := ⟨l[i]'(by rw [h]; exact hi), List.getElem?_eq_getElem _⟩
set_option maxRecDepth 100000 in
theorem op_trod {W : World} {cs : List Value} {fuel : Nat} {x : DataW H × List MemPlace} (hl : cs.length = 7)
  (h : DataW.trod enc Tryz.prog W 0 (fun _ => true) true fuel 26 cs = some x) :
  ∃ k v t s a c D n q l, cs = [.int .i64 k, .int .u64 v, .int .u64 t, .int .i64 s, .int .i64 a, .int .i64 c, .slice D n q] ∧ Came W k v t s a c D n q l := by
 match cs, hl with
 | [c0, c1, c2, c3, c4, c5, c6], _ =>
  obtain ⟨xs, n0, _, _, _, hlen, hf⟩ := DataW.trod_struct Tryz.underlying26 h
  have hlen : xs.length = 7 := hlen
  obtain ⟨y0, e0⟩ := got hlen 0 (by decide)
  obtain ⟨y1, e1⟩ := got hlen 1 (by decide)
  obtain ⟨y2, e2⟩ := got hlen 2 (by decide)
  obtain ⟨y3, e3⟩ := got hlen 3 (by decide)
  obtain ⟨y4, e4⟩ := got hlen 4 (by decide)
  obtain ⟨y5, e5⟩ := got hlen 5 (by decide)
  obtain ⟨y6, e6⟩ := got hlen 6 (by decide)
  have h0 := hf 0 _ rfl; have h1 := hf 1 _ rfl; have h2 := hf 2 _ rfl; have h3 := hf 3 _ rfl; have h4 := hf 4 _ rfl; have h5 := hf 5 _ rfl; have h6 := hf 6 _ rfl
  rw [e0] at h0; rw [e1] at h1; rw [e2] at h2; rw [e3] at h3; rw [e4] at h4; rw [e5] at h5; rw [e6] at h6
  obtain ⟨k, q0, _, w0⟩ := DataW.trod_int Tryz.underlying22 h0
  obtain ⟨v, q1, _, w1⟩ := DataW.trod_int Tryz.underlying23 h1
  obtain ⟨t, q2, _, w2⟩ := DataW.trod_int Tryz.underlying23 h2
  obtain ⟨s, q3, _, w3⟩ := DataW.trod_int Tryz.underlying3 h3
  obtain ⟨a, q4, _, w4⟩ := DataW.trod_int Tryz.underlying3 h4
  obtain ⟨c, q5, _, w5⟩ := DataW.trod_int Tryz.underlying3 h5
  obtain ⟨D, q, l, zs, rfl, hq, hm, hr, _, _, _⟩ := open_nums bv (fun z => UInt8.ofNat z.toNat) Tryz.underlying24 Tryz.underlying5 (by kernel_rfl) (fun z hz => u8_of hz) (c := c6) h6
  obtain rfl : c0 = .int .i64 k := List.head_eq_of_cons_eq q0
  obtain rfl : c1 = .int .u64 v := List.head_eq_of_cons_eq q1
  obtain rfl : c2 = .int .u64 t := List.head_eq_of_cons_eq q2
  obtain rfl : c3 = .int .i64 s := List.head_eq_of_cons_eq q3
  obtain rfl : c4 = .int .i64 a := List.head_eq_of_cons_eq q4
  obtain rfl : c5 = .int .i64 c := List.head_eq_of_cons_eq q5
  have := u64_wf w1; have := u64_wf w2; have := i64_wf w3; have := i64_wf w4; have := i64_wf w5
  unfold maxLen at hm
  exact ⟨k, v, t, s, a, c, D, l.length, q, l, rfl, ⟨⟨by omega, by omega, by omega, by omega, by omega, by omega, by omega, by omega, by omega, by omega⟩, rfl, hq, by omega, hr⟩⟩
structure ActT (W : World) (cs : List Value) (a : ActV) (Ad : Option Addr) (qd : Nat) (Av : Option Addr) (qv : Nat) : Prop where
 cs : cs = (actB a Ad qd Av qv).toList
 m : ∀ b p, (∀ i v, (actB a Ad qd Av qv)[i]? = some v → W.cell? ⟨b, p + i, none⟩ = some v) → ActM W b p a Ad qd Av qv
set_option maxRecDepth 100000 in
theorem act_trod {W : World} {cs : List Value} {fuel : Nat} {x : DataW H × List MemPlace} (hl : cs.length = 12)
  (h : DataW.trod enc Tryz.prog W 0 (fun _ => true) true fuel 42 cs = some x) : ∃ a Ad qd Av qv, ActT W cs a Ad qd Av qv := by
 match cs, hl with
 | [c0, c1, c2, c3, c4, c5, c6, c7, c8, c9, c10, c11], _ =>
  obtain ⟨xs, n0, _, _, _, hlen, hf⟩ := DataW.trod_struct Tryz.underlying42 h
  have hlen : xs.length = 6 := hlen
  obtain ⟨y0, e0⟩ := got hlen 0 (by decide)
  obtain ⟨y1, e1⟩ := got hlen 1 (by decide)
  obtain ⟨y2, e2⟩ := got hlen 2 (by decide)
  obtain ⟨y3, e3⟩ := got hlen 3 (by decide)
  obtain ⟨y4, e4⟩ := got hlen 4 (by decide)
  obtain ⟨y5, e5⟩ := got hlen 5 (by decide)
  have h0 := hf 0 _ rfl; have h1 := hf 1 _ rfl; have h2 := hf 2 _ rfl; have h3 := hf 3 _ rfl; have h4 := hf 4 _ rfl; have h5 := hf 5 _ rfl
  rw [e0] at h0; rw [e1] at h1; rw [e2] at h2; rw [e3] at h3; rw [e4] at h4; rw [e5] at h5
  obtain ⟨k, q0, _, w0⟩ := DataW.trod_int Tryz.underlying39 h0
  obtain ⟨nd, q1, _, w1⟩ := DataW.trod_int Tryz.underlying3 h1
  obtain ⟨m, q2, _, w2⟩ := DataW.trod_int Tryz.underlying3 h2
  obtain ⟨f, q4, _⟩ := DataW.trod_bool Tryz.underlying4 h4
  obtain ⟨ok, ov, ot, os, oa, oc, D, n, q, l, he, hC⟩ := op_trod (cs := [c3, c4, c5, c6, c7, c8, c9]) rfl h3
  obtain ⟨P, pq, px, zs, rfl, hq, hmx, hr, rfl, hz, _⟩ := open_nums (Value.int .i64) (fun z => z) Tryz.underlying40 Tryz.underlying3 (by kernel_rfl) (fun z hz => rfl) (c := c11) h5
  obtain rfl : c0 = .int .i64 k := List.head_eq_of_cons_eq q0
  obtain rfl : c1 = .int .i64 nd := List.head_eq_of_cons_eq q1
  obtain rfl : c2 = .int .i64 m := List.head_eq_of_cons_eq q2
  obtain rfl : c10 = .bool f := List.head_eq_of_cons_eq q4
  simp only [List.cons.injEq] at he
  obtain ⟨rfl, rfl, rfl, rfl, rfl, rfl, rfl, _⟩ := he
  have z1 := i64_wf w1; have z2 := i64_wf w2
  unfold maxLen at hmx
  rw [List.map_id'] at hr hq ⊢
  obtain ⟨B, hn, hnq, hnb, hrow⟩ := hC
  subst hn
  have hzl : zs.length ≤ 9223372036854775807 := by omega
  exact ⟨⟨k, nd, m, ⟨ok, ov, ot, os, oa, oc, l⟩, f, zs⟩, D, q, P, pq, rfl, fun b p hc => ⟨hc, B, z1.1, z1.2, z2.1, z2.2, hnq, hnb, hrow, hq, hzl, ⟨fun z h => (i64_wf (hz z h)).1, fun z h => (i64_wf (hz z h)).2⟩, hr⟩⟩
structure CameL (W : World) (A : Option Addr) (n q : Nat) (l : List ActV) : Prop where
 len : l.length = n
 cap : n ≤ q
 big : n ≤ 9223372036854775807
 nil : A = none → q = 0
 row : RowA W A l
set_option maxRecDepth 100000 in
theorem acts_trod {W : World} {c : Value} {fuel : Nat} {x : DataW H × List MemPlace} (h : DataW.trod enc Tryz.prog W 0 (fun _ => true) true fuel 56 [c] = some x) : ∃ A n q l, c = .slice A n q ∧ CameL W A n q l := by
 rcases DataW.trod_slice Tryz.underlying56 h with ⟨h0, _⟩ | ⟨ad, len, cap, elems, rest, n0, _, h0, _, _, hlc, hcm, hel, hget, _, _⟩
 ·obtain rfl : c = .slice none 0 0 := List.head_eq_of_cons_eq h0
  exact ⟨none, 0, 0, [], rfl, rfl, Nat.le_refl _, Nat.zero_le _, fun _ => rfl, RowA.nil⟩
 ·obtain rfl : c = .slice (some ad) len cap := List.head_eq_of_cons_eq h0
  have hco : Tryz.prog.cellsOf 42 = 12 := by kernel_rfl
  rw [hco] at hget
  have hone : ∀ i, i < len → ∃ cs, W.cells? 0 (ad.add (i * 12)) 12 = some cs ∧ ∃ a Ad qd Av qv, ActT W cs a Ad qd Av qv := fun i hi => by
   obtain ⟨y, hy⟩ := got hel i hi
   have h1 := hget i hi
   rw [hy] at h1
   obtain ⟨cs, hcs, ht⟩ := Option.bind_eq_some_iff.1 h1
   obtain ⟨_, hlen, _⟩ := World.cells?_some hcs
   exact ⟨cs, hcs, act_trod hlen ht⟩
  have hsp : 0 < len → ∃ b o, ad = ⟨b, o, none⟩ ∧ b < W.heap.size := fun hpos => by
   obtain ⟨cs, hcs, _⟩ := hone 0 hpos
   obtain ⟨_, hlen, hc⟩ := World.cells?_some hcs
   have hlt := World.cells?_block hcs (by decide)
   obtain ⟨b, o, sp⟩ := ad
   obtain ⟨c0, hc0⟩ := got hlen 0 (by decide)
   have g0 := hc 0 (by decide)
   rw [hc0] at g0
   have hspot : sp = none := by simpa [Addr.add] using World.cell?_spot g0
   subst hspot
   rw [Go.ChangeShapes.block_add] at hlt
   exact ⟨b, o, rfl, hlt⟩
  have hex : ∃ f : Nat → ActV, ∀ i, i < len → ∃ cs, W.cells? 0 (ad.add (i * 12)) 12 = some cs ∧ ∃ Ad qd Av qv, ActT W cs (f i) Ad qd Av qv := by
   refine ⟨fun i => if h : i < len then Classical.choose (Classical.choose_spec (hone i h)).2 else zA, fun i hi => ?_⟩
   simp only [dif_pos hi]
   exact ⟨_, (Classical.choose_spec (hone i hi)).1, Classical.choose_spec (Classical.choose_spec (hone i hi)).2⟩
  obtain ⟨f, hf⟩ := hex
  refine ⟨some ad, len, cap, (List.range len).map f, rfl, by simp, hlc, by unfold maxLen at hcm; omega, fun h => by (cases h), ⟨fun hne => ?_⟩⟩
  have hpos : 0 < len := by
   rcases Nat.eq_zero_or_pos len with h | h
   ·subst h; simp at hne
   ·exact h
  obtain ⟨b, o, rfl, hlt⟩ := hsp hpos
  refine ⟨b, o, rfl, hlt, fun j a hj => ?_⟩
  have hjl : j < len := by
   have := (List.getElem?_eq_some_iff.1 hj).1
   simpa using this
  rw [List.getElem?_map, List.getElem?_range hjl] at hj
  simp only [Option.map_some, Option.some.injEq] at hj
  subst hj
  obtain ⟨cs, hcs, Ad, qd, Av, qv, hT⟩ := hf j hjl
  obtain ⟨_, hlen, hc⟩ := World.cells?_some hcs
  refine ⟨Ad, qd, Av, qv, hT.m b _ fun i v hv => ?_⟩
  have hi : i < 12 := (Array.getElem?_eq_some_iff.1 hv).1
  have h1 := hc i hi
  rw [add_plain, add_plain] at h1
  rw [h1, hT.cs, Array.getElem?_toList]
  exact hv
set_option maxRecDepth 100000 in
theorem open_script {W : World} {base : Nat} {v : Value} {d : DataW H} {p : List MemPlace} (hv : Value.okWide Tryz.prog W .any base 58 v) (h : DataW.Trod enc Tryz.prog W 0 (fun _ => true) true 58 v d p) :
  ∃ m0 m1 d0 d1 g A n q l, v = .agg #[.int .i64 m0, .int .i64 m1, .int .i64 d0, .int .i64 d1, .int .i64 g, .slice A n q] ∧ CameL W A n q l := by
 obtain ⟨cs, rfl, hl, hc⟩ := open_cells [3, 3, 3, 3, 3, 56] Tryz.underlying58 (by kernel_rfl) (by kernel_rfl) hv
 obtain ⟨fuel, hd⟩ := h
 have hd : DataW.trod enc Tryz.prog W 0 (fun _ => true) true fuel 58 cs = some (d, p) := by simpa [Value.cells] using hd
 match cs, hl with
 | [c0, c1, c2, c3, c4, c5], _ =>
  obtain ⟨m0, rfl, _⟩ := cell_int Tryz.underlying3 (hc 0 c0 _ rfl rfl)
  obtain ⟨m1, rfl, _⟩ := cell_int Tryz.underlying3 (hc 1 c1 _ rfl rfl)
  obtain ⟨d0, rfl, _⟩ := cell_int Tryz.underlying3 (hc 2 c2 _ rfl rfl)
  obtain ⟨d1, rfl, _⟩ := cell_int Tryz.underlying3 (hc 3 c3 _ rfl rfl)
  obtain ⟨g, rfl, _⟩ := cell_int Tryz.underlying3 (hc 4 c4 _ rfl rfl)
  obtain ⟨xs, n0, _, _, _, hlen, hf⟩ := DataW.trod_struct Tryz.underlying58 hd
  have hlen : xs.length = 2 := hlen
  obtain ⟨y1, e1⟩ := got hlen 1 (by decide)
  have h1 := hf 1 _ rfl
  rw [e1] at h1
  obtain ⟨A, n, q, l, rfl, hL⟩ := acts_trod (c := c5) h1
  exact ⟨m0, m1, d0, d1, g, A, n, q, l, rfl, hL⟩
end
end Go.Proofs.YtgjdgafoidppaaaGreatDoor
namespace Go.Proofs.YtgjdgafoidppaaaGreatDoor
open Go.RowKit
set_option linter.unusedVariables false
set_option linter.unusedSimpArgs false
set_option linter.unnecessarySimpa false
set_option maxRecDepth 100000 in
set_option maxHeartbeats 4000000 in
theorem much26_any (m0 m1 d0 d1 g : Int) (A : Option Addr) (n q : Nat) (l : List ActV) (w : World) (hl : l.length = n) (hn : n ≤ 9223372036854775807) (h : RowA w A l) :
  Calls Tryz.prog 25 #[.agg #[.int .i64 m0, .int .i64 m1, .int .i64 d0, .int .i64 d1, .int .i64 g, .slice A n q]] w fun e w' => e = .returned (.bool (muchB l)) ∧ Gr w w' := by
 have HL := Lib.hid hl; have H := Lib.hid h; clear hl h
 have HB := Lib.hid (fun k nd m ok ov ot os oa oc (D P : Option Addr) n q pn pq f W => big26_any k nd m ok ov ot os oa oc D P n q pn pq f W)
 go_enter Tryz.func25, Tryz.ntmps25
 go_wp2
 go_loopw [3] (fun iv wr => ∃ j : Nat, iv = .int .i64 j ∧ j ≤ n ∧ j ≤ 31 ∧ (l.take j).any bigA = false ∧ Gr (w.alloc (.cells #[.int .i64 m0, .int .i64 m1, .int .i64 d0, .int .i64 d1, .int .i64 g, .slice A n q] 58)) wr) (fun iv _ => n - (intOf iv).toNat)
 case atStart => exact ⟨0, rfl, Nat.zero_le _, Nat.zero_le _, rfl, Gr.refl _⟩
 case round =>
  obtain ⟨j, rfl, hj, hj31, hany, hgr⟩ := hrel
  obtain ⟨gj, rfl⟩ := hgr
  have HANY := Lib.hid hany; clear hany
  by_cases hlt : j < n
  ·by_cases h30 : j ≤ 30
   ·have hjl : j < l.length := by have := HL.out; omega
    have hgj := List.getElem?_eq_getElem hjl
    obtain ⟨b, o, rfl, hb, hc⟩ := H.out.at_ (by rintro rfl; simp at hjl)
    obtain ⟨Ad, qd, Av, qv, hm⟩ := hc j _ hgj
    generalize l[j] = a at *
    have hta := take_any bigA l j a hgj
    obtain ⟨k, nd, m, ⟨ok, ov, ot, os, oa, oc, od⟩, f, pk⟩ := a
    have x0 : w.cell? ⟨b, o + j * 12, none⟩ = some (.int .i64 k) := hm.c 0 _ rfl
    have x1 : w.cell? ⟨b, o + j * 12 + 1, none⟩ = some (.int .i64 nd) := hm.c 1 _ rfl
    have x2 : w.cell? ⟨b, o + j * 12 + 2, none⟩ = some (.int .i64 m) := hm.c 2 _ rfl
    have x3 : w.cell? ⟨b, o + j * 12 + 3, none⟩ = some (.int .i64 ok) := hm.c 3 _ rfl
    have x4 : w.cell? ⟨b, o + j * 12 + 4, none⟩ = some (.int .u64 ov) := hm.c 4 _ rfl
    have x5 : w.cell? ⟨b, o + j * 12 + 5, none⟩ = some (.int .u64 ot) := hm.c 5 _ rfl
    have x6 : w.cell? ⟨b, o + j * 12 + 6, none⟩ = some (.int .i64 os) := hm.c 6 _ rfl
    have x7 : w.cell? ⟨b, o + j * 12 + 7, none⟩ = some (.int .i64 oa) := hm.c 7 _ rfl
    have x8 : w.cell? ⟨b, o + j * 12 + 8, none⟩ = some (.int .i64 oc) := hm.c 8 _ rfl
    have x9 : w.cell? ⟨b, o + j * 12 + 9, none⟩ = some (.slice Ad od.length qd) := hm.c 9 _ rfl
    have x10 : w.cell? ⟨b, o + j * 12 + 10, none⟩ = some (.bool f) := hm.c 10 _ rfl
    have x11 : w.cell? ⟨b, o + j * 12 + 11, none⟩ = some (.slice Av pk.length qv) := hm.c 11 _ rfl
    haveI : Old b w := ⟨hb⟩
    have hji : (j : Int) < (n : Int) := by omega
    have h3i : (j : Int) ≤ 30 := by omega
    have HB1 := Lib.hid (fun W => HB.out k nd m ok ov ot os oa oc Ad Av od.length qd pk.length qv f W)
    rcases Bool.eq_false_or_eq_true (decide (300 < pk.length) || decide (9000 < od.length)) with hb | hb
    ·have e : muchB l = true := by
      have h1 : (l.take (j + 1)).any bigA = true := by rw [hta, HANY.out]; exact hb
      have h2 : (l.take 31).any bigA = true := by
       rw [List.any_eq_true] at h1 ⊢
       obtain ⟨y, hy, hy2⟩ := h1
       exact ⟨y, (List.take_subset_take_left l (by omega)) hy, hy2⟩
      rw [muchB, h2, Bool.true_or]
     rw [hb] at HB1
     have HE := Lib.hid e; clear e hb hta hm hc hgj
     go_wp2_with ((go_at_call 18; ((with_reducible refine (HB1.out _).mono ?_); rintro _ _ ⟨rfl, g1, rfl⟩)))
     go_ret
     exact ⟨by rw [HE.out]; rfl, gri⟩
    ·have e : (l.take (j + 1)).any bigA = false := by rw [hta, HANY.out]; exact hb
     rw [hb] at HB1
     have HE := Lib.hid e; clear e hb hta hm hc hgj
     go_wp2_with ((go_at_call 18; ((with_reducible refine (HB1.out _).mono ?_); rintro _ _ ⟨rfl, g1, rfl⟩)))
     go_roundw
     case rel => exact ⟨j + 1, by go_num, by omega, by omega, HE.out, gri⟩
     case measure => simp [intOf]; omega
   ·have e : muchB l = true := by
     have h1 : decide (30 < l.length) = true := by have := HL.out; simp; omega
     rw [muchB, h1, Bool.or_true]
    have HE := Lib.hid e
    have hji : (j : Int) < (n : Int) := by omega
    have h3i : ¬ (j : Int) ≤ 30 := by omega
    have h4i : (30 : Int) < (n : Int) := by omega
    clear e
    go_wp2
    go_ret
    exact ⟨by rw [HE.out]; rfl, gri⟩
  ·have hjn : j = n := by omega
   have e : muchB l = decide ((30 : Int) < (n : Int)) := by
    have h1 : l.take j = l := List.take_of_length_le (by have := HL.out; omega)
    have h2 : (l.take 31).any bigA = false := by
     have h3 := HANY.out
     rw [h1] at h3
     rw [List.any_eq_false] at h3 ⊢
     exact fun y hy => h3 y (List.mem_of_mem_take hy)
    rw [muchB, h2, Bool.false_or, HL.out]
    exact decide_eq_decide.2 (by omega)
   have HE := Lib.hid e
   have hji : ¬ (j : Int) < (n : Int) := by omega
   clear e
   go_wp2
   go_ret
   exact ⟨by rw [HE.out]; rfl, gri⟩
def st5 (a b c d e a2 b2 c2 d2 e2 : Int) : Bool := (a == a2 && b == b2) && ((c == c2 && d == d2) && e == e2)
theorem eql_pair (w : World) (a b c d : Int) : (Op.equalIn 9999 53 (.agg #[.int .i64 a, .int .i64 b]) (.agg #[.int .i64 c, .int .i64 d])).run Tryz.prog w = .ok (a == c && b == d) w := by
 unfold Op.equalIn
 by_cases h : a = c
 ·subst h
  by_cases h2 : b = d
  ·subst h2; simp [go_sem, List.range']
  ·simp [go_sem, List.range', h2]
 ·simp [go_sem, List.range', h]
@[go_sem ↓] theorem eql_stage (w : World) (a b c d e a2 b2 c2 d2 e2 : Int) : (Op.equalIn 10000 55 (.agg #[.int .i64 a, .int .i64 b, .int .i64 c, .int .i64 d, .int .i64 e]) (.agg #[.int .i64 a2, .int .i64 b2, .int .i64 c2, .int .i64 d2, .int .i64 e2])).run Tryz.prog w = .ok (st5 a b c d e a2 b2 c2 d2 e2) w := by
 have h1 := eql_pair w a b a2 b2
 have h2 := eql_pair w c d c2 d2
 unfold Op.equalIn
 unfold st5
 generalize (a == a2 && b == b2) = x at *
 generalize (c == c2 && d == d2) = y at *
 cases x <;> cases y <;> simp [go_sem, h1, h2]
 by_cases h : e = e2
 ·subst h; simp
 ·simp [h]
def sameA (a b : ActV) : Bool := sameActB a.k a.nd a.m a.o.k a.o.v a.o.t a.o.s a.o.a a.o.c b.k b.nd b.m b.o.k b.o.v b.o.t b.o.s b.o.a b.o.c a.f b.f a.o.d b.o.d a.pk b.pk
def sameL (l r : List ActV) : Bool := (l.length == r.length) && (List.zipWith sameA l r).all id
theorem sameA_refl (a : ActV) : sameA a a = true := by simp [sameA, sameActB, sameB]
theorem sameL_refl (l : List ActV) : sameL l l = true := by
 have h : ∀ l : List ActV, (List.zipWith sameA l l).all id = true := by
  intro l
  induction l with
  | nil => rfl
  | cons a l ih => simp [sameA_refl, ih]
 rw [sameL, h]; simp
theorem zip_take (l r : List ActV) (j : Nat) (x y : ActV) (hx : l[j]? = some x) (hy : r[j]? = some y) : ((List.zipWith sameA l r).take (j + 1)).all id = (((List.zipWith sameA l r).take j).all id && sameA x y) := by
 have h : (List.zipWith sameA l r)[j]? = some (sameA x y) := by simp [List.getElem?_zipWith, hx, hy]
 rw [List.take_add_one, h]; simp
theorem zip_stop {l r : List ActV} {j : Nat} (h : ((List.zipWith sameA l r).take (j + 1)).all id = false) : sameL l r = false := by
 have h1 : (List.zipWith sameA l r).all id = false := by
  rw [List.all_eq_false] at h ⊢
  obtain ⟨y, hy, hy2⟩ := h
  exact ⟨y, List.mem_of_mem_take hy, hy2⟩
 rw [sameL, h1, Bool.and_false]
set_option maxRecDepth 100000 in
set_option maxHeartbeats 4000000 in
theorem same26S_any (m0 m1 d0 d1 g m0' m1' d0' d1' g' : Int) (A A' : Option Addr) (n q n' q' : Nat) (l r : List ActV) (w : World) (hl : l.length = n) (hr : r.length = n') (hn : n ≤ 9223372036854775807) (hn' : n' ≤ 9223372036854775807) (h1 : RowA w A l) (h2 : RowA w A' r) :
  Calls Tryz.prog 28 #[.agg #[.int .i64 m0, .int .i64 m1, .int .i64 d0, .int .i64 d1, .int .i64 g, .slice A n q], .agg #[.int .i64 m0', .int .i64 m1', .int .i64 d0', .int .i64 d1', .int .i64 g', .slice A' n' q']] w fun e w' => e = .returned (.bool (st5 m0 m1 d0 d1 g m0' m1' d0' d1' g' && sameL l r)) ∧ Gr w w' := by
 have HL := Lib.hid hl; have HR := Lib.hid hr; have H1 := Lib.hid h1; have H2 := Lib.hid h2; clear hl hr h1 h2
 rcases Bool.eq_false_or_eq_true (st5 m0 m1 d0 d1 g m0' m1' d0' d1' g') with hs | hs
 ·rw [hs, Bool.true_and]
  by_cases hnn : n = n'
  ·subst hnn
   go_enter Tryz.func28, Tryz.ntmps28
   go_wp2
   go_loopw [5] (fun iv wr => ∃ j : Nat, iv = .int .i64 j ∧ j ≤ n ∧ ((List.zipWith sameA l r).take j).all id = true ∧ Gr ((w.alloc (.cells #[.int .i64 m0, .int .i64 m1, .int .i64 d0, .int .i64 d1, .int .i64 g, .slice A n q] 58)).alloc (.cells #[.int .i64 m0', .int .i64 m1', .int .i64 d0', .int .i64 d1', .int .i64 g', .slice A' n q'] 58)) wr) (fun iv _ => n - (intOf iv).toNat)
   case atStart => exact ⟨0, rfl, Nat.zero_le _, rfl, Gr.refl _⟩
   case round =>
    obtain ⟨j, rfl, hj, hany, hgr⟩ := hrel
    have hgw : Gr w wr := Gr.trans (Gr.of (below_alloc (below_alloc (Below.refl _ _) _) _)) hgr
    obtain ⟨gj, rfl⟩ := hgr
    have HANY := Lib.hid hany; have HGW := Lib.hid hgw; clear hany hgw
    by_cases hlt : j < n
    ·
     have hjl : j < l.length := by have := HL.out; omega
     have hjr : j < r.length := by have := HR.out; omega
     have hgj := List.getElem?_eq_getElem hjl
     have hrj := List.getElem?_eq_getElem hjr
     obtain ⟨b, o, rfl, hb, hc⟩ := H1.out.at_ (by rintro rfl; simp at hjl)
     obtain ⟨b2, o2, rfl, hb2, hc2⟩ := H2.out.at_ (by rintro rfl; simp at hjr)
     obtain ⟨Ad, qd, Av, qv, hm⟩ := hc j _ hgj
     obtain ⟨Ad2, qd2, Av2, qv2, hm2⟩ := hc2 j _ hrj
     have hta := zip_take l r j _ _ hgj hrj
     generalize l[j] = a at *
     generalize r[j] = a2 at *
     obtain ⟨k, nd, m, ⟨ok, ov, ot, os, oa, oc, od⟩, f, pk⟩ := a
     obtain ⟨k2, nd2, m2, ⟨ok2, ov2, ot2, os2, oa2, oc2, od2⟩, f2, pk2⟩ := a2
     have x0 : w.cell? ⟨b, o + j * 12, none⟩ = some (.int .i64 k) := hm.c 0 _ rfl
     have x1 : w.cell? ⟨b, o + j * 12 + 1, none⟩ = some (.int .i64 nd) := hm.c 1 _ rfl
     have x2 : w.cell? ⟨b, o + j * 12 + 2, none⟩ = some (.int .i64 m) := hm.c 2 _ rfl
     have x3 : w.cell? ⟨b, o + j * 12 + 3, none⟩ = some (.int .i64 ok) := hm.c 3 _ rfl
     have x4 : w.cell? ⟨b, o + j * 12 + 4, none⟩ = some (.int .u64 ov) := hm.c 4 _ rfl
     have x5 : w.cell? ⟨b, o + j * 12 + 5, none⟩ = some (.int .u64 ot) := hm.c 5 _ rfl
     have x6 : w.cell? ⟨b, o + j * 12 + 6, none⟩ = some (.int .i64 os) := hm.c 6 _ rfl
     have x7 : w.cell? ⟨b, o + j * 12 + 7, none⟩ = some (.int .i64 oa) := hm.c 7 _ rfl
     have x8 : w.cell? ⟨b, o + j * 12 + 8, none⟩ = some (.int .i64 oc) := hm.c 8 _ rfl
     have x9 : w.cell? ⟨b, o + j * 12 + 9, none⟩ = some (.slice Ad od.length qd) := hm.c 9 _ rfl
     have x10 : w.cell? ⟨b, o + j * 12 + 10, none⟩ = some (.bool f) := hm.c 10 _ rfl
     have x11 : w.cell? ⟨b, o + j * 12 + 11, none⟩ = some (.slice Av pk.length qv) := hm.c 11 _ rfl
     have y0 : w.cell? ⟨b2, o2 + j * 12, none⟩ = some (.int .i64 k2) := hm2.c 0 _ rfl
     have y1 : w.cell? ⟨b2, o2 + j * 12 + 1, none⟩ = some (.int .i64 nd2) := hm2.c 1 _ rfl
     have y2 : w.cell? ⟨b2, o2 + j * 12 + 2, none⟩ = some (.int .i64 m2) := hm2.c 2 _ rfl
     have y3 : w.cell? ⟨b2, o2 + j * 12 + 3, none⟩ = some (.int .i64 ok2) := hm2.c 3 _ rfl
     have y4 : w.cell? ⟨b2, o2 + j * 12 + 4, none⟩ = some (.int .u64 ov2) := hm2.c 4 _ rfl
     have y5 : w.cell? ⟨b2, o2 + j * 12 + 5, none⟩ = some (.int .u64 ot2) := hm2.c 5 _ rfl
     have y6 : w.cell? ⟨b2, o2 + j * 12 + 6, none⟩ = some (.int .i64 os2) := hm2.c 6 _ rfl
     have y7 : w.cell? ⟨b2, o2 + j * 12 + 7, none⟩ = some (.int .i64 oa2) := hm2.c 7 _ rfl
     have y8 : w.cell? ⟨b2, o2 + j * 12 + 8, none⟩ = some (.int .i64 oc2) := hm2.c 8 _ rfl
     have y9 : w.cell? ⟨b2, o2 + j * 12 + 9, none⟩ = some (.slice Ad2 od2.length qd2) := hm2.c 9 _ rfl
     have y10 : w.cell? ⟨b2, o2 + j * 12 + 10, none⟩ = some (.bool f2) := hm2.c 10 _ rfl
     have y11 : w.cell? ⟨b2, o2 + j * 12 + 11, none⟩ = some (.slice Av2 pk2.length qv2) := hm2.c 11 _ rfl
     haveI : Old b w := ⟨hb⟩
     haveI : Old b2 w := ⟨hb2⟩
     have hji : (j : Int) < (n : Int) := by omega
     have HSA := Lib.hid (fun W (hW : Gr w W) => (show Calls Tryz.prog 21 #[.agg #[.int .i64 k, .int .i64 nd, .int .i64 m, .int .i64 ok, .int .u64 ov, .int .u64 ot, .int .i64 os, .int .i64 oa, .int .i64 oc, .slice Ad od.length qd, .bool f, .slice Av pk.length qv], .agg #[.int .i64 k2, .int .i64 nd2, .int .i64 m2, .int .i64 ok2, .int .u64 ov2, .int .u64 ot2, .int .i64 os2, .int .i64 oa2, .int .i64 oc2, .slice Ad2 od2.length qd2, .bool f2, .slice Av2 pk2.length qv2]] W (fun e w' => e = .returned (.bool (sameA ⟨k, nd, m, ⟨ok, ov, ot, os, oa, oc, od⟩, f, pk⟩ ⟨k2, nd2, m2, ⟨ok2, ov2, ot2, os2, oa2, oc2, od2⟩, f2, pk2⟩)) ∧ Gr W w') from sameAct26_any k nd m ok ov ot os oa oc k2 nd2 m2 ok2 ov2 ot2 os2 oa2 oc2 Ad Ad2 Av Av2 od.length qd od2.length qd2 pk.length qv pk2.length qv2 f f2 od od2 pk pk2 W rfl rfl (hm.d.gr hW) (hm2.d.gr hW) rfl rfl hm.bv (hm.v.gr hW) (hm2.v.gr hW)))
     clear hc hc2 hgj hrj hm hm2
     generalize sameA _ _ = bb at *
     go_wp2
     refine wp_region_grow (by kernel_rfl) (by kernel_rfl) ?_
     repeat (go_big_quiet_step ((go_at_call 21; with_reducible exact grow_call (HSA.out _ (HGW.out.trans gri)))))
     refine wpQuiet_nil ?_
     intro g9
     cases bb
     ·have e : sameL l r = false := zip_stop (j := j) (by rw [hta, Bool.and_false])
      have HE := Lib.hid e; clear e
      go_wp2
      go_ret
      exact ⟨by rw [HE.out]; rfl, gri⟩
     ·have e : ((List.zipWith sameA l r).take (j + 1)).all id = true := by rw [hta, HANY.out]; rfl
      have HE := Lib.hid e; clear e hta
      go_wp2
      go_roundw
      case rel => exact ⟨j + 1, by go_num, by omega, HE.out, gri⟩
      case measure => simp [intOf]; omega
    ·have e : sameL l r = true := by
      have h1 : (List.zipWith sameA l r).take j = List.zipWith sameA l r := List.take_of_length_le (by have := HL.out; have := HR.out; simp; omega)
      have h2 := HANY.out
      rw [h1] at h2
      rw [sameL, h2, HL.out, HR.out]; simp
     have HE := Lib.hid e; clear e
     have hji : ¬ (j : Int) < (n : Int) := by omega
     go_wp2
     go_ret
     exact ⟨by rw [HE.out]; rfl, gri⟩
  ·have e : sameL l r = false := by
    have h1 : (l.length == r.length) = false := by rw [HL.out, HR.out]; simpa using hnn
    rw [sameL, h1, Bool.false_and]
   have HE := Lib.hid e; clear e
   have hne : ((n : Int) == (n' : Int)) = false := by simp; omega
   have hne2 : ((n : Int) != (n' : Int)) = true := by simp; omega
   have hne3 : ¬ (n : Int) = (n' : Int) := by omega
   go_enter Tryz.func28, Tryz.ntmps28
   go_wp2
   go_ret
   exact ⟨by rw [HE.out]; rfl, gri⟩
 ·rw [hs, Bool.false_and]
  go_enter Tryz.func28, Tryz.ntmps28
  go_wp2
  go_ret
  exact ⟨rfl, gri⟩
theorem num26_any (n : Int) (w : World) : Calls Tryz.prog 13 #[.int .i64 n] w fun e w' => e = .returned (.int .i64 n) ∧ w = w' := by
 go_enter Tryz.func13, Tryz.ntmps13
 go_wp2
 go_ret
 exact ⟨rfl, rfl⟩
theorem dec_small (u : Nat) (h : u < 10) : Lib.decDigits u = [UInt8.ofNat (48 + u)] := by rw [Lib.decDigits, dif_pos h]
theorem itoa_small (u : Nat) (h : u < 10) : Lib.itoa (u : Int) = [UInt8.ofNat (48 + u)] := by rw [Lib.itoa_nonneg, dec_small u h]
theorem known_text1 : actTextL 4 1 0 0 0 0 0 0 0 false [] [0, 2] = [111, 102, 102, 32, 49, 32, 48, 44, 50] := by
 have e0 : Lib.itoa 0 = [48] := itoa_small 0 (by omega)
 have e1 : Lib.itoa 1 = [49] := itoa_small 1 (by omega)
 have e2 : Lib.itoa 2 = [50] := itoa_small 2 (by omega)
 simp [actTextL, actPieces, rowL, pickT, e0, e1, e2, Lib.join, List.intercalate]
def blk7 : List UInt8 := 7 :: List.replicate 127 0
theorem known_data : dataL blk7 = [48, 55, 44, 45] := by decide +kernel
theorem known_text2 : actTextL 1 0 0 5 3 0 0 5 0 false blk7 [] = [97, 115, 107, 32, 48, 32, 119, 114, 105, 116, 101, 32, 51, 32, 53, 32, 48, 55, 44, 45] := by
 have e0 : Lib.itoa 0 = [48] := itoa_small 0 (by omega)
 have e5 : Lib.itoa 5 = [53] := itoa_small 5 (by omega)
 have e3 : Lib.decDigits 3 = [51] := dec_small 3 (by omega)
 simp [actTextL, actPieces, opTextL, opPieces, known_data, e0, e3, e5, Lib.join, List.intercalate]
theorem known_may1 : mayActB 4 1 0 0 0 0 0 0 0 false 0 2 [] [0, 2] = true := by decide
theorem known_may2 : mayActB 1 0 0 5 3 0 0 5 0 false 128 0 blk7 [] = true := by decide +kernel
theorem bd0 : Bd 0 0 0 0 0 := ⟨by omega, by omega, by omega, by omega, by omega, by omega, by omega, by omega, by omega, by omega⟩
theorem bd1 : Bd 3 0 0 5 0 := ⟨by omega, by omega, by omega, by omega, by omega, by omega, by omega, by omega, by omega, by omega⟩
theorem known_call1 (b : Nat) (W : World) [hk : Tb W] (hb : b < W.heap.size) (c0 : W.cell? ⟨b, 0, none⟩ = some (.int .i64 0)) (c1 : W.cell? ⟨b, 1, none⟩ = some (.int .i64 2)) :
  Calls Tryz.prog 15 #[(Value.agg #[.int .i64 4, .int .i64 1, .int .i64 0, .int .i64 0, .int .u64 0, .int .u64 0, .int .i64 0, .int .i64 0, .int .i64 0, .slice none 0 0, .bool false, .slice (some ⟨b, 0, none⟩) 2 2])] W fun e w' => e = .returned (.tuple #[.string ⟨#[111, 102, 102, 32, 49, 32, 48, 44, 50]⟩, .int .i64 0]) ∧ Gr W w' := by
 have h := ActText_any 4 1 0 0 0 0 0 0 0 none (some ⟨b, 0, none⟩) 0 0 2 2 false [] [0, 2] W (by omega) (by omega) (by omega) (by omega) bd0 rfl (by omega) Row.nil rfl (by omega) ⟨by intro n hn; simp at hn; omega, by intro n hn; simp at hn; omega⟩ ⟨fun _ => ⟨b, 0, rfl, hb, fun j x hx => by
  match j, hx with
  | 0, hx => simp at hx; subst hx; exact c0
  | 1, hx => simp at hx; subst hx; exact c1⟩⟩ (by omega) (by omega)
 rw [known_may1, known_text1] at h
 exact h
theorem known_call2 (b : Nat) (W : World) [hk : Tb W] (hr : Row bv W (some ⟨b, 0, none⟩) blk7) :
  Calls Tryz.prog 15 #[(Value.agg #[.int .i64 1, .int .i64 0, .int .i64 0, .int .i64 5, .int .u64 3, .int .u64 0, .int .i64 0, .int .i64 5, .int .i64 0, .slice (some ⟨b, 0, none⟩) 128 128, .bool false, .slice none 0 0])] W fun e w' => e = .returned (.tuple #[.string ⟨#[97, 115, 107, 32, 48, 32, 119, 114, 105, 116, 101, 32, 51, 32, 53, 32, 48, 55, 44, 45]⟩, .int .i64 0]) ∧ Gr W w' := by
 have h := ActText_any 1 0 0 5 3 0 0 5 0 (some ⟨b, 0, none⟩) none 128 128 0 0 false blk7 [] W (by omega) (by omega) (by omega) (by omega) bd1 rfl (by omega) hr rfl (by omega) ⟨by intro n hn; simp at hn, by intro n hn; simp at hn⟩ Row.nil (by omega) (by omega)
 rw [known_may2, known_text2] at h
 exact h
def zeros128 : Array Value := Array.replicate 128 (.int .u8 0)
theorem make128 (W : World) : (Instr.makeSlice 24 (.int .i64 128) (.int .i64 128)).run Tryz.prog W = .ok (.slice (some ⟨W.heap.size, 0, none⟩) 128 128) (W.alloc (.cells zeros128 5)) := by kernel_rfl
theorem zeros128_at (j : Nat) (h : j < 128) : zeros128[j]? = some (.int .u8 0) := by
 unfold zeros128; rw [Array.getElem?_replicate, if_pos h]
theorem blk7_at (j : Nat) (x : UInt8) (h : blk7[j]? = some x) : j < 128 ∧ (j = 0 ∧ x = 7 ∨ j ≠ 0 ∧ x = 0) := by
 have hl : j < 128 := by
  have := (List.getElem?_eq_some_iff.1 h).1
  simpa [blk7] using this
 refine ⟨hl, ?_⟩
 cases j with
 | zero => left; simp [blk7] at h; exact ⟨rfl, h.symm⟩
 | succ j =>
  right
  have h2 : j < 127 := by omega
  have h3 : (List.replicate 127 (0 : UInt8))[j]? = some x := h
  rw [List.getElem?_replicate, if_pos h2] at h3
  exact ⟨by omega, (Option.some.inj h3).symm⟩
set_option maxRecDepth 100000 in
set_option maxHeartbeats 2000000 in
theorem known26_any (w : World) [hk : Tb w] : Calls Tryz.prog 9 #[] w fun e w' => e = .returned (.bool true) ∧ Gr w w' := by
 have C1 := Lib.hid (fun b W (_ : Tb W) hb c0 c1 => known_call1 b W hb c0 c1)
 have C2 := Lib.hid (fun b W (_ : Tb W) hr => known_call2 b W hr)
 go_enter Tryz.func9, Tryz.ntmps9
 go_wp2_with (go_at_call 15; ((with_reducible refine (C1.out w.heap.size _ inferInstance ?h1 ?h2 ?h3).mono ?_)))
 case h1 => exact (inferInstance : Old _ _).lt
 case h2 => simp [go_sem]
 case h3 => simp [go_sem]
 rintro _ _ ⟨rfl, g, rfl⟩
 clear C1
 have hmk := fun W => make128 W
 have z0 : ∀ W : World, (W.alloc (.cells zeros128 5)).cell? ⟨W.heap.size, 0, none⟩ = some (.int .u8 0) := fun W => by rw [World.cell?_alloc_new]; exact zeros128_at 0 (by omega)
 go_wp2_with (go_at_call 15; ((with_reducible refine (C2.out _ _ inferInstance ?h4).mono ?_)))
 case h4 =>
  refine ⟨fun _ => ⟨_, 0, rfl, (inferInstance : Old _ _).lt, fun j x hx => ?_⟩⟩
  obtain ⟨hj, h5⟩ := blk7_at j x hx
  have hs : zeros128.size = 128 := by unfold zeros128; simp
  rw [Nat.zero_add, World.cell?_alloc_new, Array.getElem?_setIfInBounds]
  rcases h5 with ⟨rfl, rfl⟩ | ⟨h6, rfl⟩
  ·simp [hs]; rfl
  ·rw [if_neg (fun e => h6 e.symm)]
   exact zeros128_at j hj
 rintro _ _ ⟨rfl, g2, rfl⟩
 go_wp2_with (go_at_call 13; ((with_reducible refine (num26_any _ _).mono ?_); rintro _ _ ⟨rfl, rfl⟩))
 go_ret
 exact ⟨rfl, gri⟩
theorem rowA_bd {W : World} {A : Option Addr} {l : List ActV} (h : RowA W A l) : ∀ a ∈ l, ABd a := by
 intro a ha
 obtain ⟨j, hj, he⟩ := List.getElem_of_mem ha
 obtain ⟨b, o, rfl, hb, hc⟩ := h.at_ (by rintro rfl; cases ha)
 obtain ⟨Ad, qd, Av, qv, hm⟩ := hc j a (by rw [List.getElem?_eq_getElem hj, he])
 exact ⟨hm.bd, hm.n0, hm.n1, hm.m0, hm.m1, hm.bq, hm.bv, hm.pk⟩
theorem pActs_le (t : ByteArray) : (pActs t).length ≤ t.size := by
 unfold pActs
 split
 ·have := linesB_le t
  rw [List.length_map, List.length_tail]
  omega
 ·simp
theorem much_no {l : List ActV} (h : muchB l = false) : l.length ≤ 30 := by
 unfold muchB at h
 have := (Bool.or_eq_false_iff.1 h).2
 simpa using this
theorem st5_refl (a b c d e : Int) : st5 a b c d e a b c d e = true := by simp [st5]
set_option maxRecDepth 100000 in
set_option maxHeartbeats 8000000 in
theorem whole_walk (m0 m1 d0 d1 g : Int) (A : Option Addr) (n q : Nat) (l : List ActV) (t : ByteArray) (w : World) [hk : Tb w] [hml : Ml w] (hC : CameL w A n q l) :
  Calls Tryz.prog 5 #[.agg #[.int .i64 m0, .int .i64 m1, .int .i64 d0, .int .i64 d1, .int .i64 g, .slice A n q], .string t] w fun e w' => e = .returned (.bool true) ∧ Gr w w' := by
 have HC := Lib.hid hC; clear hC
 have HMU := Lib.hid (fun W (hW : Gr w W) => much26_any m0 m1 d0 d1 g A n q l W HC.out.len HC.out.big (HC.out.row.gr hW))
 have HK := Lib.hid (fun W (_ : Tb W) => known26_any W)
 rcases Bool.eq_false_or_eq_true (muchB l) with hm | hm
 ·rw [hm] at HMU
  clear hm
  go_enter Tryz.func5, Tryz.ntmps5
  go_wp2_with (first | (go_at_call 25; ((with_reducible refine (HMU.out _ gri).mono ?_); rintro _ _ ⟨rfl, g1, rfl⟩)) | (go_at_call 9; ((with_reducible refine (HK.out _ inferInstance).mono ?_); rintro _ _ ⟨rfl, g2, rfl⟩)))
  go_ret
  exact ⟨rfl, gri⟩
 ·rw [hm] at HMU
  have hl30 := much_no hm
  clear hm
  by_cases ht : t.size ≤ 30000
  ·have hti : ¬ (30000 : Int) < (t.size : Int) := by omega
   have hP := fun V (h1 : Tb V) (h2 : Ml V) => parse_any t (by omega) V
   have hR := fun V (h1 : Tb V) => rparse_any t (by omega) V
   have hla := pActs_le t
   generalize pS t 1 = s1 at hP hR
   generalize pS t 2 = s2 at hP hR
   generalize pS t 3 = s3 at hP hR
   generalize pS t 4 = s4 at hP hR
   generalize pS t 5 = s5 at hP hR
   generalize pAt t = pa at hP hR
   generalize pE t = pe at hP hR
   generalize pActs t = L at hP hR hla
   have HP := Lib.hid hP; have HR := Lib.hid hR; have HLA := Lib.hid hla; have HT := Lib.hid ht; have HL30 := Lib.hid hl30
   clear hP hR hla ht hl30
   have hlen : mayStB m0 m1 d0 d1 g = true → noMay l = false → n ≤ 5000 → (scTextL m0 m1 d0 d1 g l).length ≤ 16777216 := fun h1 h2 _ => Nat.le_trans (script_small m0 m1 d0 d1 g l h1 (noMay_no h2) (rowA_bd HC.out.row) HL30.out) (by omega)
   have hTX := fun W (h1 : Tb W) (hW : Gr w W) => text_any m0 m1 d0 d1 g A n q l W HC.out.len HC.out.big (HC.out.row.gr hW) hlen
   have hRT := fun W (h1 : Tb W) (hW : Gr w W) => rtext_any m0 m1 d0 d1 g A n q l W HC.out.len HC.out.big (HC.out.row.gr hW) hlen
   clear hlen
   generalize tS m0 m1 d0 d1 g l = X at hTX hRT
   generalize tE m0 m1 d0 d1 g l = E at hTX hRT
   have HTX := Lib.hid hTX; have HRT := Lib.hid hRT
   clear hTX hRT
   have HSM := Lib.hid (fun (A1 A2 : Option Addr) (q1 q2 : Nat) W (h1 : RowA W A1 L) (h2 : RowA W A2 L) => (show Calls Tryz.prog 28 #[.agg #[.int .i64 s1, .int .i64 s3, .int .i64 s2, .int .i64 s4, .int .i64 s5, .slice A1 L.length q1], .agg #[.int .i64 s1, .int .i64 s3, .int .i64 s2, .int .i64 s4, .int .i64 s5, .slice A2 L.length q2]] W (fun e w' => e = .returned (.bool true) ∧ Gr W w') from by
    have h := same26S_any s1 s3 s2 s4 s5 s1 s3 s2 s4 s5 A1 A2 L.length q1 L.length q2 L L W rfl rfl (by have := HLA.out; have := HT.out; omega) (by have := HLA.out; have := HT.out; omega) h1 h2
    rw [st5_refl, sameL_refl] at h
    exact h))
   go_enter Tryz.func5, Tryz.ntmps5
   go_wp2_with (first | (go_at_call 25; ((with_reducible refine (HMU.out _ gri).mono ?_); rintro _ _ ⟨rfl, g1, rfl⟩)) | (go_at_call 9; ((with_reducible refine (HK.out _ inferInstance).mono ?_); rintro _ _ ⟨rfl, g2, rfl⟩)) | (go_at_call 26; ((with_reducible refine (HP.out _ inferInstance inferInstance).mono ?_); rintro _ _ ⟨A1, q1, rfl, hq1, hr1, g3, rfl⟩; have HR1 := Lib.hid hr1; clear hq1 hr1)) | (go_at_call 27; ((with_reducible refine (HR.out _ inferInstance).mono ?_); rintro _ _ ⟨A2, q2, rfl, hq2, hr2, g4, rfl⟩; have HR2 := Lib.hid hr2; clear hq2 hr2)) | (go_at_call 28; ((with_reducible refine (HSM.out _ _ _ _ _ (HR1.out.gr gri) (HR2.out.gr gri)).mono ?_); rintro _ _ ⟨rfl, g5, rfl⟩)) | (go_at_call 13; ((with_reducible refine (num26_any _ _).mono ?_); rintro _ _ ⟨rfl, rfl⟩)) | (go_at_call 29; ((with_reducible refine (HTX.out _ inferInstance gri).mono ?_); rintro _ _ ⟨rfl, g6, rfl⟩)) | (go_at_call 30; ((with_reducible refine (HRT.out _ inferInstance gri).mono ?_); rintro _ _ ⟨rfl, g7, rfl⟩)))
   go_ret
   exact ⟨rfl, gri⟩
  ·have hti : (30000 : Int) < (t.size : Int) := by omega
   clear ht
   go_enter Tryz.func5, Tryz.ntmps5
   go_wp2_with (first | (go_at_call 25; ((with_reducible refine (HMU.out _ gri).mono ?_); rintro _ _ ⟨rfl, g1, rfl⟩)) | (go_at_call 9; ((with_reducible refine (HK.out _ inferInstance).mono ?_); rintro _ _ ⟨rfl, g2, rfl⟩)))
   go_ret
   exact ⟨rfl, gri⟩
end Go.Proofs.YtgjdgafoidppaaaGreatDoor
