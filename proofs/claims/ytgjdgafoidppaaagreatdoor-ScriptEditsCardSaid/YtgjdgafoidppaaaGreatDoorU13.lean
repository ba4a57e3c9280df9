/- slices.IndexFunc, slices.ContainsFunc at acts, with 'it may not be told'. Conditions: what is read stands in memory. script.Text. Conditions: what is read stands in memory; the tables stand; what is told is at most 16 MiB. A region that draws its order, among whose operations are some that read, compute, or call functions that only make new memory, some that lay a new block, and, behind them all, some that come one behind the other: one walk, with the new blocks' numbers as variables. A region that draws its order, among whose operations are some that read, compute, or call functions that only make new memory, and stores, one behind the other, into memory that none of the others reads: one walk, the stores last. Conditions: each store's step is known. voileref26.StageOf: the stage of a text, as the reference reads it. Conditions: a text of at most 800000 bytes. The reference's Lines. Conditions: a text of at most 900000 bytes. Arguments that hold slices, opened: an operation, an act. Conditions: none. An act that came in, opened. Conditions: none. Acts, and a script, that came in, opened. Conditions: none. A row of bytes as a string; the reference's Same. Conditions: what is read stands in memory. The reference's Hex, digit, Unhex, row, DataText, data. Conditions: what is read stands in memory; at most 10^6 bytes. The reference's DataText. Conditions: what is read stands in memory; at most 60000 bytes. The reference's digit, Unhex. Conditions: a text of at most 10^6 bytes. The reference's place, Kinds. Conditions: the words stand in memory. The reference's data: whole sectors that are read. Conditions: a text of at most 200000 bytes. The reference's OpText. Conditions: an operation that may be; what is read stands in memory. The reference of layer 13: Names, has, in, May, Same, Much. Conditions: what is read stands in memory. The reference's SameAct, Big. Conditions: what is read stands in memory. Rows of acts in memory, and the reference's Much. Conditions: what is read stands in memory. Two stages compared. Conditions: none. The reference's Same, script.Same: two scripts compared. Conditions: what is read stands in memory. 'known' of layer 26: the chapter's rows. Conditions: strconv's table stands. Scripts as given: bounds of their acts. Conditions: none. -/
import Derived.Test.YtgjdgafoidppaaaGreatDoorU11
import Derived.Test.YtgjdgafoidppaaaGreatDoorU09
import Derived.Test.YtgjdgafoidppaaaGreatDoorU12
import Derived.Test.YtgjdgafoidppaaaGreatDoorU01
import Derived.Test.YtgjdgafoidppaaaGreatDoorU02
import Derived.Test.YtgjdgafoidppaaaGreatDoorU05
import Derived.Test.YtgjdgafoidppaaaGreatDoorU07
import Derived.ChangeSlices
import Derived.Test.YtgjdgafoidppaaaGreatDoorU03
import Derived.Laws.BytesArg
import Derived.Test.YtgjdgafoidppaaaGreatDoorU10
import Derived.Test.YtgjdgafoidppaaaGreatDoorU04
namespace Go.Proofs.YtgjdgafoidppaaaGreatDoor
open Go.RowKit
set_option linter.unusedVariables false
set_option linter.unusedSimpArgs false
set_option linter.unnecessarySimpa false
theorem textF_any (k nd m ok ov ot os oa oc : Int) (D P : Option Addr) (n q pn pq : Nat) (f : Bool) (B : Bool) (w : World) (h : ∀ W, Gr w W → Calls Tryz.prog 22 #[.agg #[.int .i64 k, .int .i64 nd, .int .i64 m, .int .i64 ok, .int .u64 ov, .int .u64 ot, .int .i64 os, .int .i64 oa, .int .i64 oc, .slice D n q, .bool f, .slice P pn pq]] W (fun e w' => e = .returned (.bool B) ∧ Gr W w')) :
  Calls Tryz.prog 69 #[.agg #[.int .i64 k, .int .i64 nd, .int .i64 m, .int .i64 ok, .int .u64 ov, .int .u64 ot, .int .i64 os, .int .i64 oa, .int .i64 oc, .slice D n q, .bool f, .slice P pn pq]] w fun e w' => e = .returned (.bool (!B)) ∧ Gr w w' := by
 have H := Lib.hid h; clear h
 go_enter Tryz.func69, Tryz.ntmps69
 go_wp2_with (go_at_call 22; ((with_reducible refine (H.out _ gri).mono ?_); rintro _ _ ⟨rfl, g1, rfl⟩))
 go_ret
 exact ⟨rfl, gri⟩
def noMay (l : List ActV) : Bool := l.any fun a => !a.may
set_option maxRecDepth 100000 in
set_option maxHeartbeats 4000000 in
theorem indexFuncA_any (A : Option Addr) (n c : Nat) (l : List ActV) (w : World) (hl : l.length = n) (hn : n ≤ 9223372036854775807) (h : RowA w A l) :
  Calls Tryz.prog 97 #[.slice A n c, .func (.func 69) #[] #[]] w (SomeIdx (noMay l) w) := by
 have HL := Lib.hid hl; have H := Lib.hid h; clear hl h
 go_enter Tryz.func97, Tryz.ntmps97
 go_wp2
 go_loopw [8] (fun i wr => ∃ k : Nat, i = .int .i64 k ∧ k ≤ n ∧ Hid ((l.take k).any (fun a => !a.may) = false) ∧ Gr w wr) (fun i _ => n - (intOf i).toNat)
 case atStart => exact ⟨0, rfl, Nat.zero_le _, Lib.hid (by simp), Gr.refl _⟩
 case round =>
  obtain ⟨j, rfl, hj, hg, gj, rfl⟩ := hrel
  by_cases hlt : j < n
  ·have hjl : j < l.length := by have := HL.out; omega
   have hgj := List.getElem?_eq_getElem hjl
   obtain ⟨b, o, rfl, hb, hc⟩ := (H.out.gr (Gr.of (grown_below w gj))).at_ (by rintro rfl; simp at hjl)
   obtain ⟨Ad, qd, Av, qv, hm⟩ := hc j _ hgj
   have hta := take_any (fun a : ActV => !a.may) l j _ hgj
   generalize l[j] = a at *
   obtain ⟨k, nd, m, ⟨ok, ov, ot, os, oa, oc, od⟩, f, pk⟩ := a
   have x0 : (grown w gj).cell? ⟨b, o + j * 12, none⟩ = some (.int .i64 k) := hm.c 0 _ rfl
   have x1 : (grown w gj).cell? ⟨b, o + j * 12 + 1, none⟩ = some (.int .i64 nd) := hm.c 1 _ rfl
   have x2 : (grown w gj).cell? ⟨b, o + j * 12 + 2, none⟩ = some (.int .i64 m) := hm.c 2 _ rfl
   have x3 : (grown w gj).cell? ⟨b, o + j * 12 + 3, none⟩ = some (.int .i64 ok) := hm.c 3 _ rfl
   have x4 : (grown w gj).cell? ⟨b, o + j * 12 + 4, none⟩ = some (.int .u64 ov) := hm.c 4 _ rfl
   have x5 : (grown w gj).cell? ⟨b, o + j * 12 + 5, none⟩ = some (.int .u64 ot) := hm.c 5 _ rfl
   have x6 : (grown w gj).cell? ⟨b, o + j * 12 + 6, none⟩ = some (.int .i64 os) := hm.c 6 _ rfl
   have x7 : (grown w gj).cell? ⟨b, o + j * 12 + 7, none⟩ = some (.int .i64 oa) := hm.c 7 _ rfl
   have x8 : (grown w gj).cell? ⟨b, o + j * 12 + 8, none⟩ = some (.int .i64 oc) := hm.c 8 _ rfl
   have x9 : (grown w gj).cell? ⟨b, o + j * 12 + 9, none⟩ = some (.slice Ad od.length qd) := hm.c 9 _ rfl
   have x10 : (grown w gj).cell? ⟨b, o + j * 12 + 10, none⟩ = some (.bool f) := hm.c 10 _ rfl
   have x11 : (grown w gj).cell? ⟨b, o + j * 12 + 11, none⟩ = some (.slice Av pk.length qv) := hm.c 11 _ rfl
   have hji : (j : Int) < (n : Int) := by omega
   have HMA := Lib.hid (fun W (hW : Gr (grown w gj) W) => textF_any k nd m ok ov ot os oa oc Ad Av od.length qd pk.length qv f (mayActB k nd m ok ov ot os oa oc f od.length pk.length od pk) W (fun V hV => mayAct_any k nd m ok ov ot os oa oc Ad Av od.length qd pk.length qv f od pk V rfl hm.bq (hm.d.gr (hW.trans hV)) rfl hm.bv (hm.v.gr (hW.trans hV))))
   have HTA := Lib.hid hta
   have hmay : (⟨k, nd, m, ⟨ok, ov, ot, os, oa, oc, od⟩, f, pk⟩ : ActV).may = mayActB k nd m ok ov ot os oa oc f od.length pk.length od pk := rfl
   have HMAY := Lib.hid hmay
   have HLJ := Lib.hid hgj
   clear hc hm hta hmay hgj hjl
   rcases Bool.eq_false_or_eq_true (mayActB k nd m ok ov ot os oa oc f od.length pk.length od pk) with hq | hq
   ·rw [hq] at HMA HMAY
    go_wp2_with (go_at_call 69; ((with_reducible refine (HMA.out _ gri).mono ?_); rintro _ _ ⟨rfl, g2, rfl⟩))
    go_roundw
    case rel => exact ⟨j + 1, by go_num, by omega, Lib.hid (by rw [HTA.out, hg.out, HMAY.out]; rfl), gri⟩
    case measure => simp [intOf]; omega
   ·rw [hq] at HMA HMAY
    have hp : decide (0 ≤ (j : Int)) = noMay l := by
     have : noMay l = true := List.any_eq_true.2 ⟨_, List.mem_of_getElem? HLJ.out, by rw [HMAY.out]; rfl⟩
     rw [this]; simp
    have HP := Lib.hid hp; clear hp
    go_wp2_with (go_at_call 69; ((with_reducible refine (HMA.out _ gri).mono ?_); rintro _ _ ⟨rfl, g2, rfl⟩))
    go_ret
    exact ⟨j, HP.out, rfl, gri⟩
  ·have hp : decide (0 ≤ (-1 : Int)) = noMay l := by
    have := hg.out
    rw [List.take_of_length_le (by have := HL.out; omega)] at this
    rw [noMay, this]; rfl
   have HP := Lib.hid hp; clear hp
   have hji : ¬ (j : Int) < (n : Int) := by omega
   go_wp2
   go_ret
   exact ⟨-1, HP.out, rfl, gri⟩
theorem containsA_any (A : Option Addr) (n c : Nat) (l : List ActV) (w : World) (hl : l.length = n) (hn : n ≤ 9223372036854775807) (h : RowA w A l) :
  Calls Tryz.prog 68 #[.slice A n c, .func (.func 69) #[] #[]] w fun e w' => e = .returned (.bool (noMay l)) ∧ Gr w w' := by
 have HI := Lib.hid (indexFuncA_any A n c l w hl hn h); clear h hl
 go_enter Tryz.func68, Tryz.ntmps68
 go_wp2_with (go_at_call 97; ((with_reducible refine HI.out.mono ?_); rintro _ _ ⟨r, hr, rfl, g, rfl⟩; have HR := Lib.hid hr; clear hr))
 go_ret
 exact ⟨by rw [← HR.out]; rfl, gri⟩
def tE (m0 m1 d0 d1 g : Int) (l : List ActV) : Int := if mayStB m0 m1 d0 d1 g && !noMay l then (if 5000 < l.length then 3 else 0) else 2
def tS (m0 m1 d0 d1 g : Int) (l : List ActV) : ByteArray := if tE m0 m1 d0 d1 g l = 0 then ⟨(scTextL m0 m1 d0 d1 g l).toArray⟩ else ⟨#[]⟩
theorem noMay_no {l : List ActV} (h : noMay l = false) : ∀ a ∈ l, a.may = true := by
 intro a ha
 rw [noMay, List.any_eq_false] at h
 simpa using h a ha
theorem bldAt_gr {T e : TypeId} {B b : Nat} {p : Value} {bs : List Value} {w w' : World} (h : Lib.BuilderAtF T e B b p bs w) (g : Gr w w') : Lib.BuilderAtF T e B b p bs w' := by
 obtain ⟨hB, v, hb, hown, hne⟩ := h
 refine ⟨hB, v, (g.below.block b (Array.getElem?_eq_some_iff.1 hb).1).trans hb, ⟨hown.1, ?_⟩, hne⟩
 rcases hown.2 with hn | ⟨gg, cap, cur, fz, hv, hbg, hg, rest⟩
 ·exact .inl hn
 ·exact .inr ⟨gg, cap, cur, fz, hv, hbg, (g.below.block gg (Array.getElem?_eq_some_iff.1 hg).1).trans hg, rest⟩
theorem bld_gr {T e : TypeId} {B b : Nat} {bs : List Value} {w w' : World} (h : Lib.IsBuilderF T e B b bs w) (g : Gr w w') : Lib.IsBuilderF T e B b bs w' := h.elim (fun h => .inl (bldAt_gr h g)) (fun h => .inr (bldAt_gr h g))
theorem glue_take_le (L : List (List UInt8)) (j : Nat) : (glueL (L.take j)).length ≤ (glueL L).length := by
 have h : ∀ (p q : List (List UInt8)), glueL (p ++ q) = glueL p ++ glueL q := by
  intro p q
  induction p with
  | nil => rfl
  | cons x p ih => simp [glueL, ih]
 conv => rhs; rw [← List.take_append_drop j L, h, List.length_append]
 omega
theorem line_cells (l : List UInt8) : Lib.strCells (({ data := l.toArray } : ByteArray) ++ { data := #[10] }) = Lib.byteCells (l ++ [10]) := by
 rw [Lib.strCells_eq]; congr 1
theorem line_size (l : List UInt8) : (({ data := l.toArray } : ByteArray) ++ { data := #[10] }).size = l.length + 1 := by
 rw [← Lib.strCells_length, line_cells, Lib.byteCells_length, List.length_append]; rfl
set_option maxRecDepth 100000 in
set_option maxHeartbeats 8000000 in
theorem text_any (m0 m1 d0 d1 g : Int) (A : Option Addr) (n q : Nat) (l : List ActV) (w : World) [hk : Tb w] (hl : l.length = n) (hn : n ≤ 9223372036854775807) (h : RowA w A l) (hlen : mayStB m0 m1 d0 d1 g = true → noMay l = false → n ≤ 5000 → (scTextL m0 m1 d0 d1 g l).length ≤ 16777216) :
  Calls Tryz.prog 29 #[.agg #[.int .i64 m0, .int .i64 m1, .int .i64 d0, .int .i64 d1, .int .i64 g, .slice A n q]] w fun e w' => e = .returned (.tuple #[.string (tS m0 m1 d0 d1 g l), .int .i64 (tE m0 m1 d0 d1 g l)]) ∧ Gr w w' := by
 have HL := Lib.hid hl; have H := Lib.hid h; have HLEN := Lib.hid hlen; clear hl h hlen
 have HMS := Lib.hid (fun W => mayStage_any m0 m1 d0 d1 g W)
 have HCO := Lib.hid (fun W (hW : Gr w W) => containsA_any A n q l W HL.out hn (H.out.gr hW))
 rcases Bool.eq_false_or_eq_true (mayStB m0 m1 d0 d1 g) with hs | hs
 ·rw [hs] at HMS
  rcases Bool.eq_false_or_eq_true (noMay l) with hb | hb
  ·rw [hb] at HCO
   have hE : tE m0 m1 d0 d1 g l = 2 := by simp [tE, hs, hb]
   have hS : tS m0 m1 d0 d1 g l = ⟨#[]⟩ := by simp [tS, hE]
   have HE := Lib.hid hE; have HS := Lib.hid hS; clear hE hS hs hb
   go_enter Tryz.func29, Tryz.ntmps29
   go_wp2_with (first | (go_at_call 67; ((with_reducible refine (HMS.out _).mono ?_); rintro _ _ ⟨rfl, g1, rfl⟩)) | (go_at_call 68; ((with_reducible refine (HCO.out _ gri).mono ?_); rintro _ _ ⟨rfl, g2, rfl⟩)))
   go_ret2
   exact ⟨by rw [HE.out, HS.out]; rfl, gri⟩
  ·rw [hb] at HCO
   have HCL := Lib.hid (HLEN.out hs hb)
   have HNM := Lib.hid hb
   have hbd : StBd m0 m1 d0 d1 g := ⟨by simp only [mayStB, Bool.and_eq_true, decide_eq_true_eq] at hs; omega⟩
   have HBD := Lib.hid hbd
   by_cases h5 : n ≤ 5000
   ·have h5i : ¬ (5000 : Int) < (n : Int) := by omega
    have h6 : ¬ 5000 < l.length := by have := HL.out; omega
    have hE : tE m0 m1 d0 d1 g l = 0 := by simp [tE, hs, hb, h6]
    have hS : tS m0 m1 d0 d1 g l = ⟨(scTextL m0 m1 d0 d1 g l).toArray⟩ := by rw [tS, if_pos hE]
    have HE := Lib.hid hE; have HS := Lib.hid hS; have HSZ := Lib.hid (HCL.out h5); clear hE hS hs hb hbd HCL h6
    go_enter Tryz.func29, Tryz.ntmps29
    go_upto_region 5 with (first | (go_at_call 67; ((with_reducible refine (HMS.out _).mono ?_); rintro _ _ ⟨rfl, g1, rfl⟩)) | (go_at_call 68; ((with_reducible refine (HCO.out _ gri).mono ?_); rintro _ _ ⟨rfl, g2, rfl⟩)))
    have hbox : BlockAt (grown (grown (w.alloc (.cells #[.int .i64 m0, .int .i64 m1, .int .i64 d0, .int .i64 d1, .int .i64 g, .slice A n q] 58)) g1) g2) w.heap.size #[.int .i64 m0, .int .i64 m1, .int .i64 d0, .int .i64 d1, .int .i64 g, .slice A n q] 58 := inferInstance
    have hgw : Gr w (grown (grown (w.alloc (.cells #[.int .i64 m0, .int .i64 m1, .int .i64 d0, .int .i64 d1, .int .i64 g, .slice A n q] 58)) g1) g2) := gri
    haveI htb3 : Tb (grown (grown (w.alloc (.cells #[.int .i64 m0, .int .i64 m1, .int .i64 d0, .int .i64 d1, .int .i64 g, .slice A n q] 58)) g1) g2) := inferInstance
    generalize grown (grown (w.alloc (.cells #[.int .i64 m0, .int .i64 m1, .int .i64 d0, .int .i64 d1, .int .i64 g, .slice A n q] 58)) g1) g2 = W3 at *
    have x0 : W3.cell? ⟨w.heap.size, 0, none⟩ = some (.int .i64 m0) := (@block_cells _ _ 0 _ _ hbox).trans rfl
    have x1 : W3.cell? ⟨w.heap.size, 1, none⟩ = some (.int .i64 m1) := (@block_cells _ _ 1 _ _ hbox).trans rfl
    have x2 : W3.cell? ⟨w.heap.size, 2, none⟩ = some (.int .i64 d0) := (@block_cells _ _ 2 _ _ hbox).trans rfl
    have x3 : W3.cell? ⟨w.heap.size, 3, none⟩ = some (.int .i64 d1) := (@block_cells _ _ 3 _ _ hbox).trans rfl
    have x4 : W3.cell? ⟨w.heap.size, 4, none⟩ = some (.int .i64 g) := (@block_cells _ _ 4 _ _ hbox).trans rfl
    have x5 : W3.cell? ⟨w.heap.size, 5, none⟩ = some (.slice A n q) := (@block_cells _ _ 5 _ _ hbox).trans rfl
    haveI : Old w.heap.size W3 := hbox.old
    have HBOX := Lib.hid hbox; have HGW := Lib.hid hgw; clear hbox hgw
    have hI0 : Lib.IsBuilderF 110 5 W3.heap.size W3.heap.size (Lib.byteCells []) (W3.alloc (.cells #[.pointer none, .slice none 0 0] 110)) := Lib.IsBuilderF.of (Lib.fresh_isBuilder 110 5 W3)
    have HI0 := Lib.hid hI0; clear hI0
    have HST := Lib.hid (fun W (_ : Tb W) => stageText_any m0 m1 d0 d1 g HBD.out W)
    have hstl := stageWords_len HBD.out
    go_upto_region 7 with ((go_at_call 71; ((with_reducible refine (HST.out _ inferInstance).mono ?_); rintro _ _ ⟨rfl, g3, rfl⟩)))
    have hsz0 : (Lib.byteCells []).length + (({ data := (stageTextL m0 m1 d0 d1 g).toArray } : ByteArray) ++ { data := #[10] }).size ≤ 140737488355328 := by rw [line_size]; simp [Lib.byteCells]; omega
    have HSZ0 := Lib.hid hsz0; clear hsz0 hstl
    go_wp2_with ((go_at_call 70; (refine (writeString_k W3.heap.size W3.heap.size (Lib.byteCells []) _ _ (bld_gr HI0.out gri) HSZ0.out (gri : Gr W3 _).below.size).mono ?_); rintro _ W4 ⟨rfl, h4, b4, k4⟩; have x5b : W4.cell? ⟨w.heap.size, 5, none⟩ = some (.slice A n q) := (b4.cell (p := ⟨w.heap.size, 5, none⟩) (inferInstance : Old w.heap.size W3).lt).trans ((@block_cells _ _ 5 _ _ (HBOX.out.gr gri)).trans rfl)))
    go_loopw [28] (fun iv wr => ∃ j : Nat, iv = .int .i64 j ∧ j ≤ n ∧ Lib.IsBuilderF 110 5 W3.heap.size W3.heap.size (Lib.byteCells (glueL ((linesOf m0 m1 d0 d1 g l).take (j + 1)))) wr ∧ Below W3.heap.size W3 wr) (fun iv _ => n - (intOf iv).toNat)
    case atStart =>
     have h4' : Lib.IsBuilderF 110 5 W3.heap.size W3.heap.size _ W4 := Or.inr h4
     rw [line_cells] at h4'
     exact ⟨0, rfl, Nat.zero_le _, by simpa [linesOf, glueL, Lib.byteCells] using h4', (gri : Gr W3 _).below.trans b4⟩
    case round =>
     obtain ⟨j, rfl, hj, hI, hbw⟩ := hrel
     have hlj : ((Lib.byteCells (glueL ((linesOf m0 m1 d0 d1 g l).take (j + 1)))).length : Int) ≤ 16777216 := by
      have h1 := glue_take_le (linesOf m0 m1 d0 d1 g l) (j + 1)
      have h2 := HSZ.out
      unfold scTextL at h2
      rw [Lib.byteCells_length]
      omega
     have HI := Lib.hid hI; clear hI
     haveI : From W3 wr := ⟨hbw.size⟩
     haveI : GrC W3 wr := ⟨hbw⟩
     by_cases hlt : j < n
     ·have hjl : j < l.length := by have := HL.out; omega
      have hgj := List.getElem?_eq_getElem hjl
      obtain ⟨b, o, rfl, hb, hc⟩ := (H.out.gr HGW.out).at_ (by rintro rfl; simp at hjl)
      obtain ⟨Ad, qd, Av, qv, hm⟩ := hc j _ hgj
      have hmay := noMay_no HNM.out _ (List.mem_of_getElem? hgj)
      have htk : (linesOf m0 m1 d0 d1 g l).take (j + 1 + 1) = (linesOf m0 m1 d0 d1 g l).take (j + 1) ++ [(l[j]).text] := by
       have h1 : (linesOf m0 m1 d0 d1 g l)[j + 1]? = some (l[j]).text := by
        rw [linesOf, List.getElem?_cons_succ, List.getElem?_map, hgj]; rfl
       rw [List.take_add_one (i := j + 1), h1]; rfl
      generalize l[j] = a at *
      obtain ⟨k, nd, m, ⟨ok, ov, ot, os, oa, oc, od⟩, f, pk⟩ := a
      have v0 : wr.cell? ⟨b, o + j * 12, none⟩ = some (.int .i64 k) := (hbw.cell (p := ⟨b, o + j * 12, none⟩) hb).trans (hm.c 0 _ rfl)
      have v1 : wr.cell? ⟨b, o + j * 12 + 1, none⟩ = some (.int .i64 nd) := (hbw.cell (p := ⟨b, o + j * 12 + 1, none⟩) hb).trans (hm.c 1 _ rfl)
      have v2 : wr.cell? ⟨b, o + j * 12 + 2, none⟩ = some (.int .i64 m) := (hbw.cell (p := ⟨b, o + j * 12 + 2, none⟩) hb).trans (hm.c 2 _ rfl)
      have v3 : wr.cell? ⟨b, o + j * 12 + 3, none⟩ = some (.int .i64 ok) := (hbw.cell (p := ⟨b, o + j * 12 + 3, none⟩) hb).trans (hm.c 3 _ rfl)
      have v4 : wr.cell? ⟨b, o + j * 12 + 4, none⟩ = some (.int .u64 ov) := (hbw.cell (p := ⟨b, o + j * 12 + 4, none⟩) hb).trans (hm.c 4 _ rfl)
      have v5 : wr.cell? ⟨b, o + j * 12 + 5, none⟩ = some (.int .u64 ot) := (hbw.cell (p := ⟨b, o + j * 12 + 5, none⟩) hb).trans (hm.c 5 _ rfl)
      have v6 : wr.cell? ⟨b, o + j * 12 + 6, none⟩ = some (.int .i64 os) := (hbw.cell (p := ⟨b, o + j * 12 + 6, none⟩) hb).trans (hm.c 6 _ rfl)
      have v7 : wr.cell? ⟨b, o + j * 12 + 7, none⟩ = some (.int .i64 oa) := (hbw.cell (p := ⟨b, o + j * 12 + 7, none⟩) hb).trans (hm.c 7 _ rfl)
      have v8 : wr.cell? ⟨b, o + j * 12 + 8, none⟩ = some (.int .i64 oc) := (hbw.cell (p := ⟨b, o + j * 12 + 8, none⟩) hb).trans (hm.c 8 _ rfl)
      have v9 : wr.cell? ⟨b, o + j * 12 + 9, none⟩ = some (.slice Ad od.length qd) := (hbw.cell (p := ⟨b, o + j * 12 + 9, none⟩) hb).trans (hm.c 9 _ rfl)
      have v10 : wr.cell? ⟨b, o + j * 12 + 10, none⟩ = some (.bool f) := (hbw.cell (p := ⟨b, o + j * 12 + 10, none⟩) hb).trans (hm.c 10 _ rfl)
      have v11 : wr.cell? ⟨b, o + j * 12 + 11, none⟩ = some (.slice Av pk.length qv) := (hbw.cell (p := ⟨b, o + j * 12 + 11, none⟩) hb).trans (hm.c 11 _ rfl)
      haveI : Old b wr := ⟨Nat.lt_of_lt_of_le hb hbw.size⟩
      have hji : (j : Int) < (n : Int) := by omega
      have HTX := Lib.hid (fun W (_ : Tb W) (hW : Gr W3 W) => actText_any k nd m ok ov ot os oa oc Ad Av od.length qd pk.length qv f od pk W hm.n0 hm.n1 hm.m0 hm.m1 hm.bd rfl hm.ld (hm.d.gr hW) rfl hm.lv hm.pk (hm.v.gr hW) hmay)
      obtain ⟨T, hT⟩ : ∃ T, (⟨k, nd, m, ⟨ok, ov, ot, os, oa, oc, od⟩, f, pk⟩ : ActV).text = T := ⟨_, rfl⟩
      have hT2 : actTextL k nd m ok ov ot os oa oc f od pk = T := hT
      rw [hT2] at HTX
      rw [hT] at htk
      have hsz9 : (Lib.byteCells (glueL ((linesOf m0 m1 d0 d1 g l).take (j + 1)))).length + (({ data := T.toArray } : ByteArray) ++ { data := #[10] }).size ≤ 140737488355328 := by
       have h1 := glue_take_le (linesOf m0 m1 d0 d1 g l) (j + 1 + 1)
       rw [htk, glueL_snoc] at h1
       have h2 := HSZ.out
       unfold scTextL at h2
       rw [line_size, Lib.byteCells_length]
       simp only [List.length_append] at h1
       omega
      have hTl : T.length ≤ 16777216 := by
       have h1 := glue_take_le (linesOf m0 m1 d0 d1 g l) (j + 1 + 1)
       rw [htk, glueL_snoc] at h1
       have h2 := HSZ.out
       unfold scTextL at h2
       simp only [List.length_append] at h1
       omega
      have HS9 := Lib.hid hsz9; have HTK := Lib.hid htk; have HBW := Lib.hid hbw
      clear hm hc hmay hgj hjl hT hT2 hsz9 htk
      haveI : Tb wr := htb3.of_below hbw
      go_wp2_with (first | (go_at_call 72; (refine (Tryz.Builder_Len_f W3.heap.size W3.heap.size _ _ (bld_gr HI.out gri)).mono ?_); rintro _ _ ⟨rfl, rfl⟩) | (go_at_call 42; ((with_reducible refine (HTX.out _ inferInstance gri).mono ?_); rintro _ _ ⟨rfl, g5, rfl⟩)) | (go_at_call 70; (refine (writeString_k W3.heap.size W3.heap.size _ _ _ (bld_gr HI.out gri) HS9.out (gri : Gr W3 _).below.size).mono ?_); rintro _ W6 ⟨rfl, h6, b6, k6⟩))
      go_roundw
      case rel =>
       have h6' : Lib.IsBuilderF 110 5 W3.heap.size W3.heap.size _ W6 := Or.inr h6
       rw [line_cells, ← Lib.byteCells_append, ← List.append_assoc, ← glueL_snoc, ← HTK.out] at h6'
       exact ⟨j + 1, by go_num, by omega, h6', (gri : Gr W3 _).below.trans b6⟩
      case measure => simp [intOf]; omega
     ·have hji : ¬ (j : Int) < (n : Int) := by omega
      have hall : (linesOf m0 m1 d0 d1 g l).take (j + 1) = linesOf m0 m1 d0 d1 g l := List.take_of_length_le (by have := HL.out; simp [linesOf]; omega)
      have hI2 := HI.out
      rw [hall] at hI2 hlj
      have HI2 := Lib.hid hI2; clear hI2 hall HI
      obtain ⟨N, hN⟩ : ∃ N : Nat, (Lib.byteCells (glueL (linesOf m0 m1 d0 d1 g l))).length = N := ⟨_, rfl⟩
      have HLN := Lib.hid (show Calls Tryz.prog 72 #[.pointer (some ⟨W3.heap.size, 0, none⟩)] wr (fun e w' => e = .returned (.int .i64 (N : Int)) ∧ w' = wr) from hN ▸ Tryz.Builder_Len_f W3.heap.size W3.heap.size _ wr HI2.out)
      rw [hN] at hlj
      clear hN
      obtain ⟨T, hT⟩ : ∃ T, glueL (linesOf m0 m1 d0 d1 g l) = T := ⟨_, rfl⟩
      have HST9 := Lib.hid (show Calls Tryz.prog 73 #[.pointer (some ⟨W3.heap.size, 0, none⟩)] wr (fun e w' => e = .returned (.string ⟨T.toArray⟩) ∧ (Lib.IsBuilderF 110 5 W3.heap.size W3.heap.size (Lib.byteCells T) w' ∧ Below W3.heap.size wr w')) from hT ▸ Tryz.Builder_String_any_f W3.heap.size W3.heap.size (glueL (linesOf m0 m1 d0 d1 g l)) _ HI2.out hbw.size)
      have HTT := Lib.hid hT; have HBW := Lib.hid hbw
      clear hT hbw
      have hlj2 : ¬ (16777216 : Int) < (N : Int) := by omega
      clear hlj
      go_wp2_with (first | (go_at_call 72; (with_reducible refine (HLN.out).mono ?_); rintro _ _ ⟨rfl, rfl⟩) | (go_at_call 73; (with_reducible refine (HST9.out).mono ?_); rintro _ W7 ⟨rfl, _, b7⟩))
      go_ret2
      exact ⟨by rw [HE.out, HS.out, ← HTT.out]; rfl, Gr.of (HGW.out.below.trans ((HBW.out.trans b7).mono HGW.out.below.size))⟩
   ·have h5i : (5000 : Int) < (n : Int) := by omega
    have h6 : 5000 < l.length := by have := HL.out; omega
    have hE : tE m0 m1 d0 d1 g l = 3 := by simp [tE, hs, hb, h6]
    have hS : tS m0 m1 d0 d1 g l = ⟨#[]⟩ := by simp [tS, hE]
    have HE := Lib.hid hE; have HS := Lib.hid hS; clear hE hS hs hb hbd h6
    go_enter Tryz.func29, Tryz.ntmps29
    go_wp2_with (first | (go_at_call 67; ((with_reducible refine (HMS.out _).mono ?_); rintro _ _ ⟨rfl, g1, rfl⟩)) | (go_at_call 68; ((with_reducible refine (HCO.out _ gri).mono ?_); rintro _ _ ⟨rfl, g2, rfl⟩)))
    go_ret2
    exact ⟨by rw [HE.out, HS.out]; rfl, gri⟩
 ·rw [hs] at HMS
  have hE : tE m0 m1 d0 d1 g l = 2 := by simp [tE, hs]
  have hS : tS m0 m1 d0 d1 g l = ⟨#[]⟩ := by simp [tS, hE]
  have HE := Lib.hid hE; have HS := Lib.hid hS; clear hE hS hs
  go_enter Tryz.func29, Tryz.ntmps29
  go_wp2_with ((go_at_call 67; ((with_reducible refine (HMS.out _).mono ?_); rintro _ _ ⟨rfl, g1, rfl⟩)))
  go_ret2
  exact ⟨by rw [HE.out, HS.out]; rfl, gri⟩
section
variable {P : Program} {ops : Array Oper} {md : Region.Mode} {W : World}
def calmUpon (P : Program) (w : World) (v : Value) : Result Next → Prop
 | .ok (.value u) w' => w' = w ∧ u = v
 | .ok .skip w' => w' = w ∧ v = undef
 | .ok (.enter f args) w' => w' = w ∧ Calls P f args w (fun e w'' => e = .returned v ∧ Gr w w'')
 | _ => False
def calmAt (P : Program) (o : Oper) (a : Act) (w : World) (v : Value) : Prop := calmUpon P w v ((execOp a.eval o).run P w)
def calm (P : Program) (o : Oper) (a : Act) (W : World) (next : Act → Prop) : Prop := ∃ v, (∀ g : Growth W, calmAt P o a (grown W g) v) ∧ next (a.put o.dst v)
attribute [go_sem] calmUpon calmAt calm
def wpCalm (P : Program) (ops : Array Oper) (W : World) (Q : Act → Prop) : List Oper → Act → Prop
 | [], a => Q a
 | o :: rest, a => if Region.wanted o (yielded ops a.tmps) then calm P o a W (wpCalm P ops W Q rest) else wpCalm P ops W Q rest (a.put o.dst undef)
theorem wpCalm_nil {Q : Act → Prop} {a : Act} (h : Q a) : wpCalm P ops W Q [] a := h
theorem wpCalm_step {Q : Act → Prop} {a : Act} {o : Oper} {rest : List Oper}
  (h : ∀ K : Act → Prop, (∀ a, wpCalm P ops W Q rest a → K a) → if Region.wanted o (yielded ops a.tmps) then calm P o a W K else K (a.put o.dst undef)) : wpCalm P ops W Q (o :: rest) a :=
 h _ (fun _ h => h)
def CalmOp (P : Program) (ops : Array Oper) (W : World) (o : Oper) (v : Value) (a : Act) : Prop :=
 (Region.wanted o (yielded ops a.tmps) = true ∧ ∀ g : Growth W, calmAt P o a (grown W g) v) ∨ (Region.wanted o (yielded ops a.tmps) = false ∧ v = undef)
def AllocOp (P : Program) (ops : Array Oper) (o : Oper) (mk : Nat → Value) (zs : Array Value) (T : TypeId) (a : Act) : Prop :=
 Region.wanted o (yielded ops a.tmps) = true ∧ ∀ w, (execOp a.eval o).run P w = .ok (.value (mk w.heap.size)) (w.alloc (.cells zs T))
abbrev Blocks := List (Nat × Array Value × TypeId)
theorem CalmOp.put {o oj : Oper} {v u : Value} {a : Act} (hs : ∀ cs b, o.op ≠ .select cs b) (h3 : ∀ d, oj.dst = some d → d ∉ o.looksAt ops) (h : CalmOp P ops W o v a) : CalmOp P ops W o v (a.put oj.dst u) := by
 unfold CalmOp calmAt at *
 rw [execOp_put o hs a oj.dst u h3, wanted_put o a oj.dst u h3]
 exact h
theorem CalmOp.unput {o oj : Oper} {v u : Value} {a : Act} (hs : ∀ cs b, o.op ≠ .select cs b) (h3 : ∀ d, oj.dst = some d → d ∉ o.looksAt ops) (h : CalmOp P ops W o v (a.put oj.dst u)) : CalmOp P ops W o v a := by
 unfold CalmOp calmAt at *
 rw [execOp_put o hs a oj.dst u h3, wanted_put o a oj.dst u h3] at h
 exact h
theorem AllocOp.put {o oj : Oper} {mk : Nat → Value} {zs : Array Value} {T : TypeId} {u : Value} {a : Act} (hs : ∀ cs b, o.op ≠ .select cs b) (h3 : ∀ d, oj.dst = some d → d ∉ o.looksAt ops) (h : AllocOp P ops o mk zs T a) : AllocOp P ops o mk zs T (a.put oj.dst u) := by
 unfold AllocOp at *
 rw [execOp_put o hs a oj.dst u h3, wanted_put o a oj.dst u h3]
 exact h
theorem AllocOp.unput {o oj : Oper} {mk : Nat → Value} {zs : Array Value} {T : TypeId} {u : Value} {a : Act} (hs : ∀ cs b, o.op ≠ .select cs b) (h3 : ∀ d, oj.dst = some d → d ∉ o.looksAt ops) (h : AllocOp P ops o mk zs T (a.put oj.dst u)) : AllocOp P ops o mk zs T a := by
 unfold AllocOp at *
 rw [execOp_put o hs a oj.dst u h3, wanted_put o a oj.dst u h3] at h
 exact h
def MixWorld (W : World) (bs : Blocks) (w : World) : Prop := Gr W w ∧ ∀ x ∈ bs, w.heap[x.1]? = some (.cells x.2.1 x.2.2)
theorem MixWorld.grow {bs : Blocks} {w w' : World} (h : MixWorld W bs w) (hg : Gr w w') : MixWorld W bs w' :=
 ⟨h.1.trans hg, fun x hx => by
  have h1 := h.2 x hx
  have hlt : x.1 < w.heap.size := (Array.getElem?_eq_some_iff.1 h1).1
  rw [hg.below.block x.1 hlt]; exact h1⟩
def pick (l : List Oper) : List Nat → List Oper
 | [] => []
 | k :: r => (l.drop k).take 1 ++ pick l r
theorem pick_cons {l : List Oper} {k : Nat} {r : List Nat} {o : Oper} (h : l[k]? = some o) : pick l (k :: r) = o :: pick l r := by
 obtain ⟨hl, hv⟩ := List.getElem?_eq_some_iff.1 h
 simp [pick, List.drop_eq_getElem_cons hl, hv]
section
variable {l : List Oper} {n g : Nat} {Lq : Blocks → Act → Prop}
end
/-! A region all of whose operations read, compute, call functions that only make new memory, lay a new block, or store into one laid here, whole. -/
section
end
section
end
section
variable {l : List Oper} {Lq : Blocks → Act → Prop}
def seqOne (md : Region.Mode) (ops : Array Oper) : List Nat → Array Bool → Bool
 | [], listed => decide (Region.ready md ops listed = [])
 | k :: r, listed => decide (Region.ready md ops listed = [k]) && seqOne md ops r (listed.setIfInBounds k true)
def seqFree (md : Region.Mode) (ops : Array Oper) (ss : List Nat) : List Nat → Array Bool → Bool
 | [], listed => seqOne md ops ss listed
 | k :: r, listed => (Region.ready md ops listed).contains k && Region.free md ops listed k && seqFree md ops ss r (listed.setIfInBounds k true)
end
end
section
variable {P : Program} {ops : Array Oper} {md : Region.Mode} {W : World} {S : Type} {I : S → World → Prop}
structure Ghost (W : World) (I : S → World → Prop) : Prop where
 grow : ∀ s w w', I s w → Gr w w' → I s w'
 out : ∀ s w, I s w → Gr W w
def clOp (P : Program) (ops : Array Oper) (W : World) (i : Nat) (K : S → Act → Prop) (s : S) (a : Act) : Prop := ∃ o, ops[i]? = some o ∧ ∃ v, CalmOp P ops W o v a ∧ K s (a.put o.dst v)
end
section
variable {P : Program} {md : Region.Mode} {W : World} {S : Type} {I : S → World → Prop} {l : List Oper} {Lq : S → Act → Prop}
def lateB (md : Region.Mode) (ops : Array Oper) (qs ss : List Nat) : Bool :=
 Region.noSelect ops && decide (qs.length + ss.length = ops.size) && seqFree md ops ss qs (Array.replicate ops.size false)
end
section
variable {P : Program} {W : World}
end

theorem OwnS.blk {base : Nat} {W : World} {v : Value} {l : List ByteArray} (h : OwnS base W v l) (hne : l ≠ []) : ∃ (g cap : Nat) (cur : Array Value), v = .slice (some ⟨g, 0, none⟩) l.length cap ∧ base ≤ g ∧ BlockAt W g cur 9 ∧ l.length ≤ cap ∧ ∀ (j : Nat) (y : ByteArray), l[j]? = some y → cur[j]? = some (Value.string y) := by
 have h0 := h
 rcases h.2 with ⟨_, hn⟩ | ⟨g, cap, cur, rfl, hb9, hh, hnc, _⟩
 ·exact absurd (List.eq_nil_of_length_eq_zero hn) hne
 ·refine ⟨g, cap, cur, rfl, hb9, ⟨hh⟩, hnc, fun j y hj => ?_⟩
  have h1 := World.ownsRow.cells h0 (g := g) rfl j (Value.string y) (by rw [List.getElem?_map, hj]; rfl)
  rw [Go.WideShapes.add_plain] at h1
  have h2 : W.cell? ⟨g, 0 + j, none⟩ = cur[0 + j]? := @block_cells W g (0 + j) cur 9 ⟨hh⟩
  rw [Nat.zero_add] at h2
  simp only [Nat.zero_add] at h1
  rw [h2] at h1
  exact h1
theorem last_at (l : List ByteArray) (d : ByteArray) (h : l ≠ []) : l[l.length - 1]? = some (l.getLastD d) := by
 rw [List.getLastD_eq_getLast?, ← List.getLast?_eq_getElem?]
 rw [List.getLast?_eq_some_getLast h]; rfl
set_option maxHeartbeats 2000000 in
theorem lines26_any (t : ByteArray) (ht : t.size ≤ 900000) (w : World) :
  Calls Tryz.prog 31 #[.string t] w fun e w' => ∃ (b cap : Nat) (cur : Array Value), e = .returned (.tuple #[.slice (some ⟨b, 0, none⟩) (linesB t).length cap, .string (restB t)]) ∧ (linesB t).length ≤ cap ∧ w.heap.size ≤ b ∧ BlockAt w' b cur 9 ∧ (∀ (j : Nat) (y : ByteArray), (linesB t)[j]? = some y → cur[j]? = some (Value.string y)) ∧ Gr w w' := by
 have HWD := Lib.hid (fun V => (show Calls Tryz.prog 41 #[.string t, .int .u8 10] V (fun e w' => ∃ v, e = .returned v ∧ OwnS V.heap.size w' v (wordsB 10 t) ∧ Below V.heap.size V w') from words26_any t 10 (by omega) V))
 have hne := wordsB_ne 10 t
 have hle := wordsB_le 10 t
 have hl : (linesB t).length = (wordsB 10 t).length - 1 := by simp [linesB]
 have hlx : ∀ (j : Nat) (y : ByteArray), (linesB t)[j]? = some y → (wordsB 10 t)[j]? = some y := fun j y h => by
  have h1 : j < (linesB t).length := (List.getElem?_eq_some_iff.1 h).1
  rw [linesB, List.getElem?_dropLast] at h
  split at h
  ·exact h
  ·cases h
 have hr := last_at (wordsB 10 t) ⟨#[]⟩ hne
 have hr2 : (wordsB 10 t)[(wordsB 10 t).length - 1]? = some (restB t) := hr
 have HL := Lib.hid hl; have HLX := Lib.hid hlx; have HR := Lib.hid hr2; clear hl hlx hr hr2
 go_enter Tryz.func31, Tryz.ntmps31
 go_wp2_with ((go_at_call 41; ((with_reducible refine (HWD.out _).mono ?_))))
 rintro _ W3 ⟨v3, rfl, hown, hbw⟩
 obtain ⟨g, cap, cur, rfl, hg, hB, hc, hx⟩ := OwnS.blk hown hne
 have hpos : 0 < (wordsB 10 t).length := List.length_pos_iff.2 hne
 obtain ⟨n, hn⟩ : ∃ n, (wordsB 10 t).length = n + 1 := ⟨(wordsB 10 t).length - 1, by omega⟩
 have HX := Lib.hid hx
 have hlast : W3.cell? ⟨g, n, none⟩ = some (.string (restB t)) := by
  have h1 := hx n (restB t) (by have := HR.out; rw [hn] at this; exact this)
  have h2 : W3.cell? ⟨g, n, none⟩ = cur[n]? := @block_cells W3 g n cur 9 hB
  rw [h2]; exact h1
 have HLL := HL.out
 rw [hn] at HLL hle hc ⊢
 have hG : Gr w W3 := Gr.of hbw
 have HGG := Lib.hid hG
 have i1 : (n : Int) < ((n + 1 : Nat) : Int) := by omega
 clear hown hbw hx hne hpos hn hG
 haveI : Old g W3 := hB.old
 go_wp2
 refine wp_region_grow (by kernel_rfl) (by kernel_rfl) ?_
 repeat (go_big_quiet_step (fail))
 refine wpQuiet_nil ?_
 intro g2
 go_wp2
 go_ret2
 exact ⟨g, cap, cur, by rw [HLL]; first | rfl | simp, by omega, HGG.out.below.size |> fun _ => hg, hB.gr (Gr.of (grown_below _ _)), fun j y hj => HX.out j y (HLX.out j y hj), HGG.out.trans (Gr.of (grown_below _ _))⟩
end Go.Proofs.YtgjdgafoidppaaaGreatDoor
namespace Go.Proofs.YtgjdgafoidppaaaGreatDoor
open Go.RowKit Go.ChangeShapes Go.WideShapes
set_option linter.unusedVariables false
set_option linter.unusedSimpArgs false
set_option linter.unnecessarySimpa false
structure Came (W : World) (k v t s a c : Int) (D : Option Addr) (n q : Nat) (l : List UInt8) : Prop where
 b : Bd v t s a c
 len : l.length = n
 cap : n ≤ q
 big : n ≤ 9223372036854775807
 row : Row bv W D l
theorem has_i64 {n : Int} (h : IntKind.i64.has n) : -9223372036854775808 ≤ n ∧ n ≤ 9223372036854775807 := by
 simp [IntKind.has, IntKind.min, IntKind.max, IntKind.bits, IntKind.signed] at h; omega
section
variable {H : Type} {enc : TypeId × Value → H}
set_option maxRecDepth 100000 in
theorem open_nums {α : Type} {W : World} {fuel : Nat} {t e : TypeId} {k : IntKind} (en : α → Value) (f : Int → α) (ht : Tryz.prog.underlying t = some (.slice e)) (he : Tryz.prog.underlying e = some (.int k)) (hc1 : Tryz.prog.cellsOf e = 1) (hf : ∀ z, (Lit.int k z).wf = true → en (f z) = .int k z) {c : Value} {x : DataW H × List MemPlace}
  (h : DataW.trod enc Tryz.prog W 0 (fun _ => true) true fuel t [c] = some x) : ∃ (D : Option Addr) (q : Nat) (l : List α) (zs : List Int), c = .slice D l.length q ∧ l.length ≤ q ∧ q ≤ maxLen ∧ Row en W D l ∧ l = zs.map f ∧ (∀ z ∈ zs, (Lit.int k z).wf = true) ∧ (D = none → q = 0) := by
 rcases open_ints ht he hc1 h with ⟨h0, _⟩ | ⟨a, len, cap, zs, h0, _, hl, hm, hz, _, hcell, hw⟩
 ·obtain rfl : c = .slice none 0 0 := by simpa using h0
  exact ⟨none, 0, [], [], rfl, Nat.le_refl _, Nat.zero_le _, Row.nil, rfl, fun z hz => by simp at hz, fun _ => rfl⟩
 ·obtain rfl : c = .slice (some a) len cap := by simpa using h0
  rw [if_pos rfl] at hz
  have hlen : ((zs.take len).map f).length = len := by rw [List.length_map, List.length_take]; omega
  refine ⟨some a, cap, (zs.take len).map f, zs.take len, by rw [hlen], by rw [hlen]; exact hl, hm, ⟨fun hne => ?_⟩, rfl, fun z hz => hw z (List.mem_of_mem_take hz), fun h => by cases h⟩
  have hpos : 0 < len := by
   rcases Nat.eq_zero_or_pos len with h | h
   ·subst h; simp at hne
   ·exact h
  obtain ⟨b, o, sp⟩ := a
  have h1 := hcell 0 (by omega)
  have hsp : sp = none := by
   cases sp with
   | none => rfl
   | some y => simp [Addr.add, World.cell?] at h1; split at h1 <;> simp at h1
  subst hsp
  have hadd : ∀ i, (⟨b, o, none⟩ : Addr).add i = ⟨b, o + i, none⟩ := fun i => by unfold Addr.add; split <;> simp_all
  refine ⟨b, o, rfl, ?_, fun j y hj => ?_⟩
  ·rcases Nat.lt_or_ge b W.heap.size with h | h
   ·exact h
   ·rw [hadd] at h1
    simp [World.cell?, Array.getElem?_eq_none h] at h1
  ·rw [List.getElem?_map] at hj
   have hjl : j < len := by
    rcases Nat.lt_or_ge j len with h | h
    ·exact h
    ·rw [List.getElem?_eq_none (by rw [List.length_take]; omega)] at hj; simp at hj
   rw [List.getElem?_take, if_pos hjl, List.getElem?_eq_getElem (by omega)] at hj
   simp only [Option.map_some, Option.some.injEq] at hj
   subst hj
   have h2 := hcell j (by omega)
   rw [hadd] at h2
   rw [h2, List.getD_eq_getElem?_getD, List.getElem?_eq_getElem (by omega)]
   simp only [Option.getD_some]
   rw [hf _ (hw _ (List.getElem_mem _))]
theorem u8_of {z : Int} (h : (Lit.int .u8 z).wf = true) : bv (UInt8.ofNat z.toNat) = .int .u8 z := by
 simp [Lit.wf, IntKind.min, IntKind.max, IntKind.bits, IntKind.signed] at h
 unfold bv
 have e : (UInt8.ofNat z.toNat).toNat = z.toNat := by rw [UInt8.toNat_ofNat', Nat.mod_eq_of_lt (by omega)]
 rw [e, Int.toNat_of_nonneg (by omega)]
set_option maxRecDepth 100000 in
theorem open_int' {W : World} {base : Nat} {v : Value} (hv : Value.okWide Tryz.prog W .any base 3 v) : ∃ n : Int, v = .int .i64 n ∧ -9223372036854775808 ≤ n ∧ n ≤ 9223372036854775807 := by
 simp only [Value.okWide, Tryz.underlying3] at hv
 obtain ⟨n, rfl, hn⟩ := cell_int Tryz.underlying3 hv
 exact ⟨n, rfl, (has_i64 hn).1, (has_i64 hn).2⟩
end
end Go.Proofs.YtgjdgafoidppaaaGreatDoor
namespace Go.Proofs.YtgjdgafoidppaaaGreatDoor
open Go.RowKit Go.ChangeShapes Go.WideShapes
set_option linter.unusedVariables false
set_option linter.unusedSimpArgs false
set_option linter.unnecessarySimpa false
section
variable {H : Type} {enc : TypeId × Value → H}
theorem i64_wf {z : Int} (h : (Lit.int .i64 z).wf = true) : -9223372036854775808 ≤ z ∧ z ≤ 9223372036854775807 := by
 simp [Lit.wf, IntKind.min, IntKind.max, IntKind.bits, IntKind.signed] at h
 omega
end
end Go.Proofs.YtgjdgafoidppaaaGreatDoor
namespace Go.Proofs.YtgjdgafoidppaaaGreatDoor
open Go.RowKit Go.ChangeShapes Go.WideShapes
set_option linter.unusedVariables false
set_option linter.unusedSimpArgs false
set_option linter.unnecessarySimpa false
section
variable {H : Type} {enc : TypeId × Value → H}
theorem u64_wf {z : Int} (h : (Lit.int .u64 z).wf = true) : 0 ≤ z ∧ z ≤ 18446744073709551615 := by
 simp [Lit.wf, IntKind.min, IntKind.max, IntKind.bits, IntKind.signed] at h
 omega
theorem got {α : Type} {l : List α} {n : Nat} (h : l.length = n) (i : Nat) (hi : i < n) : ∃ y, l[i]? = some y := ⟨l[i]'(by rw [h]; exact hi), List.getElem?_eq_getElem _⟩
set_option maxRecDepth 100000 in
theorem op_trod {W : World} {cs : List Value} {fuel : Nat} {x : DataW H × List MemPlace} (hl : cs.length = 7)
  (h : DataW.trod enc Tryz.prog W 0 (fun _ => true) true fuel 26 cs = some x) :
  ∃ k v t s a c D n q l, cs = [.int .i64 k, .int .u64 v, .int .u64 t, .int .i64 s, .int .i64 a, .int .i64 c, .slice D n q] ∧ Came W k v t s a c D n q l := by
 match cs, hl with
 | [c0, c1, c2, c3, c4, c5, c6], _ =>
  obtain ⟨xs, n0, _, _, _, hlen, hf⟩ := DataW.trod_struct Tryz.underlying26 h
  have hlen : xs.length = 7 := hlen
  obtain ⟨y0, e0⟩ := got hlen 0 (by decide)
  obtain ⟨y1, e1⟩ := got hlen 1 (by decide)
  obtain ⟨y2, e2⟩ := got hlen 2 (by decide)
  obtain ⟨y3, e3⟩ := got hlen 3 (by decide)
  obtain ⟨y4, e4⟩ := got hlen 4 (by decide)
  obtain ⟨y5, e5⟩ := got hlen 5 (by decide)
  obtain ⟨y6, e6⟩ := got hlen 6 (by decide)
  have h0 := hf 0 _ rfl; have h1 := hf 1 _ rfl; have h2 := hf 2 _ rfl; have h3 := hf 3 _ rfl; have h4 := hf 4 _ rfl; have h5 := hf 5 _ rfl; have h6 := hf 6 _ rfl
  rw [e0] at h0; rw [e1] at h1; rw [e2] at h2; rw [e3] at h3; rw [e4] at h4; rw [e5] at h5; rw [e6] at h6
  obtain ⟨k, q0, _, w0⟩ := DataW.trod_int Tryz.underlying22 h0
  obtain ⟨v, q1, _, w1⟩ := DataW.trod_int Tryz.underlying23 h1
  obtain ⟨t, q2, _, w2⟩ := DataW.trod_int Tryz.underlying23 h2
  obtain ⟨s, q3, _, w3⟩ := DataW.trod_int Tryz.underlying3 h3
  obtain ⟨a, q4, _, w4⟩ := DataW.trod_int Tryz.underlying3 h4
  obtain ⟨c, q5, _, w5⟩ := DataW.trod_int Tryz.underlying3 h5
  obtain ⟨D, q, l, zs, rfl, hq, hm, hr, _, _, _⟩ := open_nums bv (fun z => UInt8.ofNat z.toNat) Tryz.underlying24 Tryz.underlying5 (by kernel_rfl) (fun z hz => u8_of hz) (c := c6) h6
  obtain rfl : c0 = .int .i64 k := List.head_eq_of_cons_eq q0
  obtain rfl : c1 = .int .u64 v := List.head_eq_of_cons_eq q1
  obtain rfl : c2 = .int .u64 t := List.head_eq_of_cons_eq q2
  obtain rfl : c3 = .int .i64 s := List.head_eq_of_cons_eq q3
  obtain rfl : c4 = .int .i64 a := List.head_eq_of_cons_eq q4
  obtain rfl : c5 = .int .i64 c := List.head_eq_of_cons_eq q5
  have := u64_wf w1; have := u64_wf w2; have := i64_wf w3; have := i64_wf w4; have := i64_wf w5
  unfold maxLen at hm
  exact ⟨k, v, t, s, a, c, D, l.length, q, l, rfl, ⟨⟨by omega, by omega, by omega, by omega, by omega, by omega, by omega, by omega, by omega, by omega⟩, rfl, hq, by omega, hr⟩⟩
structure ActT (W : World) (cs : List Value) (a : ActV) (Ad : Option Addr) (qd : Nat) (Av : Option Addr) (qv : Nat) : Prop where
 cs : cs = (actB a Ad qd Av qv).toList
 m : ∀ b p, (∀ i v, (actB a Ad qd Av qv)[i]? = some v → W.cell? ⟨b, p + i, none⟩ = some v) → ActM W b p a Ad qd Av qv
set_option maxRecDepth 100000 in
theorem act_trod {W : World} {cs : List Value} {fuel : Nat} {x : DataW H × List MemPlace} (hl : cs.length = 12)
  (h : DataW.trod enc Tryz.prog W 0 (fun _ => true) true fuel 42 cs = some x) : ∃ a Ad qd Av qv, ActT W cs a Ad qd Av qv := by
 match cs, hl with
 | [c0, c1, c2, c3, c4, c5, c6, c7, c8, c9, c10, c11], _ =>
  obtain ⟨xs, n0, _, _, _, hlen, hf⟩ := DataW.trod_struct Tryz.underlying42 h
  have hlen : xs.length = 6 := hlen
  obtain ⟨y0, e0⟩ := got hlen 0 (by decide)
  obtain ⟨y1, e1⟩ := got hlen 1 (by decide)
  obtain ⟨y2, e2⟩ := got hlen 2 (by decide)
  obtain ⟨y3, e3⟩ := got hlen 3 (by decide)
  obtain ⟨y4, e4⟩ := got hlen 4 (by decide)
  obtain ⟨y5, e5⟩ := got hlen 5 (by decide)
  have h0 := hf 0 _ rfl; have h1 := hf 1 _ rfl; have h2 := hf 2 _ rfl; have h3 := hf 3 _ rfl; have h4 := hf 4 _ rfl; have h5 := hf 5 _ rfl
  rw [e0] at h0; rw [e1] at h1; rw [e2] at h2; rw [e3] at h3; rw [e4] at h4; rw [e5] at h5
  obtain ⟨k, q0, _, w0⟩ := DataW.trod_int Tryz.underlying39 h0
  obtain ⟨nd, q1, _, w1⟩ := DataW.trod_int Tryz.underlying3 h1
  obtain ⟨m, q2, _, w2⟩ := DataW.trod_int Tryz.underlying3 h2
  obtain ⟨f, q4, _⟩ := DataW.trod_bool Tryz.underlying4 h4
  obtain ⟨ok, ov, ot, os, oa, oc, D, n, q, l, he, hC⟩ := op_trod (cs := [c3, c4, c5, c6, c7, c8, c9]) rfl h3
  obtain ⟨P, pq, px, zs, rfl, hq, hmx, hr, rfl, hz, _⟩ := open_nums (Value.int .i64) (fun z => z) Tryz.underlying40 Tryz.underlying3 (by kernel_rfl) (fun z hz => rfl) (c := c11) h5
  obtain rfl : c0 = .int .i64 k := List.head_eq_of_cons_eq q0
  obtain rfl : c1 = .int .i64 nd := List.head_eq_of_cons_eq q1
  obtain rfl : c2 = .int .i64 m := List.head_eq_of_cons_eq q2
  obtain rfl : c10 = .bool f := List.head_eq_of_cons_eq q4
  simp only [List.cons.injEq] at he
  obtain ⟨rfl, rfl, rfl, rfl, rfl, rfl, rfl, _⟩ := he
  have z1 := i64_wf w1; have z2 := i64_wf w2
  unfold maxLen at hmx
  rw [List.map_id'] at hr hq ⊢
  obtain ⟨B, hn, hnq, hnb, hrow⟩ := hC
  subst hn
  have hzl : zs.length ≤ 9223372036854775807 := by omega
  exact ⟨⟨k, nd, m, ⟨ok, ov, ot, os, oa, oc, l⟩, f, zs⟩, D, q, P, pq, rfl, fun b p hc => ⟨hc, B, z1.1, z1.2, z2.1, z2.2, hnq, hnb, hrow, hq, hzl, ⟨fun z h => (i64_wf (hz z h)).1, fun z h => (i64_wf (hz z h)).2⟩, hr⟩⟩
structure CameL (W : World) (A : Option Addr) (n q : Nat) (l : List ActV) : Prop where
 len : l.length = n
 cap : n ≤ q
 big : n ≤ 9223372036854775807
 nil : A = none → q = 0
 row : RowA W A l
set_option maxRecDepth 100000 in
theorem acts_trod {W : World} {c : Value} {fuel : Nat} {x : DataW H × List MemPlace} (h : DataW.trod enc Tryz.prog W 0 (fun _ => true) true fuel 56 [c] = some x) : ∃ A n q l, c = .slice A n q ∧ CameL W A n q l := by
 rcases DataW.trod_slice Tryz.underlying56 h with ⟨h0, _⟩ | ⟨ad, len, cap, elems, rest, n0, _, h0, _, _, hlc, hcm, hel, hget, _, _⟩
 ·obtain rfl : c = .slice none 0 0 := List.head_eq_of_cons_eq h0
  exact ⟨none, 0, 0, [], rfl, rfl, Nat.le_refl _, Nat.zero_le _, fun _ => rfl, RowA.nil⟩
 ·obtain rfl : c = .slice (some ad) len cap := List.head_eq_of_cons_eq h0
  have hco : Tryz.prog.cellsOf 42 = 12 := by kernel_rfl
  rw [hco] at hget
  have hone : ∀ i, i < len → ∃ cs, W.cells? 0 (ad.add (i * 12)) 12 = some cs ∧ ∃ a Ad qd Av qv, ActT W cs a Ad qd Av qv := fun i hi => by
   obtain ⟨y, hy⟩ := got hel i hi
   have h1 := hget i hi
   rw [hy] at h1
   obtain ⟨cs, hcs, ht⟩ := Option.bind_eq_some_iff.1 h1
   obtain ⟨_, hlen, _⟩ := World.cells?_some hcs
   exact ⟨cs, hcs, act_trod hlen ht⟩
  have hsp : 0 < len → ∃ b o, ad = ⟨b, o, none⟩ ∧ b < W.heap.size := fun hpos => by
   obtain ⟨cs, hcs, _⟩ := hone 0 hpos
   obtain ⟨_, hlen, hc⟩ := World.cells?_some hcs
   have hlt := World.cells?_block hcs (by decide)
   obtain ⟨b, o, sp⟩ := ad
   obtain ⟨c0, hc0⟩ := got hlen 0 (by decide)
   have g0 := hc 0 (by decide)
   rw [hc0] at g0
   have hspot : sp = none := by simpa [Addr.add] using World.cell?_spot g0
   subst hspot
   rw [Go.ChangeShapes.block_add] at hlt
   exact ⟨b, o, rfl, hlt⟩
  have hex : ∃ f : Nat → ActV, ∀ i, i < len → ∃ cs, W.cells? 0 (ad.add (i * 12)) 12 = some cs ∧ ∃ Ad qd Av qv, ActT W cs (f i) Ad qd Av qv := by
   refine ⟨fun i => if h : i < len then Classical.choose (Classical.choose_spec (hone i h)).2 else zA, fun i hi => ?_⟩
   simp only [dif_pos hi]
   exact ⟨_, (Classical.choose_spec (hone i hi)).1, Classical.choose_spec (Classical.choose_spec (hone i hi)).2⟩
  obtain ⟨f, hf⟩ := hex
  refine ⟨some ad, len, cap, (List.range len).map f, rfl, by simp, hlc, by unfold maxLen at hcm; omega, fun h => by (cases h), ⟨fun hne => ?_⟩⟩
  have hpos : 0 < len := by
   rcases Nat.eq_zero_or_pos len with h | h
   ·subst h; simp at hne
   ·exact h
  obtain ⟨b, o, rfl, hlt⟩ := hsp hpos
  refine ⟨b, o, rfl, hlt, fun j a hj => ?_⟩
  have hjl : j < len := by
   have := (List.getElem?_eq_some_iff.1 hj).1
   simpa using this
  rw [List.getElem?_map, List.getElem?_range hjl] at hj
  simp only [Option.map_some, Option.some.injEq] at hj
  subst hj
  obtain ⟨cs, hcs, Ad, qd, Av, qv, hT⟩ := hf j hjl
  obtain ⟨_, hlen, hc⟩ := World.cells?_some hcs
  refine ⟨Ad, qd, Av, qv, hT.m b _ fun i v hv => ?_⟩
  have hi : i < 12 := (Array.getElem?_eq_some_iff.1 hv).1
  have h1 := hc i hi
  rw [add_plain, add_plain] at h1
  rw [h1, hT.cs, Array.getElem?_toList]
  exact hv
set_option maxRecDepth 100000 in
theorem open_script {W : World} {base : Nat} {v : Value} {d : DataW H} {p : List MemPlace} (hv : Value.okWide Tryz.prog W .any base 58 v) (h : DataW.Trod enc Tryz.prog W 0 (fun _ => true) true 58 v d p) :
  ∃ m0 m1 d0 d1 g A n q l, v = .agg #[.int .i64 m0, .int .i64 m1, .int .i64 d0, .int .i64 d1, .int .i64 g, .slice A n q] ∧ CameL W A n q l := by
 obtain ⟨cs, rfl, hl, hc⟩ := open_cells [3, 3, 3, 3, 3, 56] Tryz.underlying58 (by kernel_rfl) (by kernel_rfl) hv
 obtain ⟨fuel, hd⟩ := h
 have hd : DataW.trod enc Tryz.prog W 0 (fun _ => true) true fuel 58 cs = some (d, p) := by simpa [Value.cells] using hd
 match cs, hl with
 | [c0, c1, c2, c3, c4, c5], _ =>
  obtain ⟨m0, rfl, _⟩ := cell_int Tryz.underlying3 (hc 0 c0 _ rfl rfl)
  obtain ⟨m1, rfl, _⟩ := cell_int Tryz.underlying3 (hc 1 c1 _ rfl rfl)
  obtain ⟨d0, rfl, _⟩ := cell_int Tryz.underlying3 (hc 2 c2 _ rfl rfl)
  obtain ⟨d1, rfl, _⟩ := cell_int Tryz.underlying3 (hc 3 c3 _ rfl rfl)
  obtain ⟨g, rfl, _⟩ := cell_int Tryz.underlying3 (hc 4 c4 _ rfl rfl)
  obtain ⟨xs, n0, _, _, _, hlen, hf⟩ := DataW.trod_struct Tryz.underlying58 hd
  have hlen : xs.length = 2 := hlen
  obtain ⟨y1, e1⟩ := got hlen 1 (by decide)
  have h1 := hf 1 _ rfl
  rw [e1] at h1
  obtain ⟨A, n, q, l, rfl, hL⟩ := acts_trod (c := c5) h1
  exact ⟨m0, m1, d0, d1, g, A, n, q, l, rfl, hL⟩
end
end Go.Proofs.YtgjdgafoidppaaaGreatDoor
namespace Go.Proofs.YtgjdgafoidppaaaGreatDoor
open Go.RowKit
set_option linter.unusedVariables false
set_option linter.unusedSimpArgs false
set_option linter.unnecessarySimpa false
theorem strOf_bytes (l : List UInt8) : strOfNums (l.map fun b => ((b.toNat : Nat) : Int)) = ⟨l.toArray⟩ := by
 unfold strOfNums
 congr 2
 rw [List.map_map]
 conv => rhs; rw [← List.map_id l]
 refine List.map_congr_left (fun b _ => ?_)
 show UInt8.ofNat b.toNat = b
 simp
theorem conv_row (A : Option Addr) (n q : Nat) (l : List UInt8) (W : World) (hl : l.length = n) (hr : Row bv W A l) : (convert 24 9 (.slice A n q)).run Tryz.prog W = .ok (.string ⟨l.toArray⟩) W := by
 by_cases h0 : l = []
 ·subst h0
  obtain rfl : n = 0 := by simpa using hl.symm
  cases A with
  | none => exact run_convert_bytes_nil W 24 5 Tryz.underlying24 Tryz.underlying5 0 q 9 Tryz.underlying9
  | some a =>
   rw [run_convert_bytes_string W 24 9 5 (some a) 0 q Tryz.underlying24 Tryz.underlying5 Tryz.underlying9]
   rw [run_bytesToString W a 0 q [] (by simpa using run_loadCells_list (P := Tryz.prog) W a [] (fun j v hj => by simp at hj))]
   rfl
 ·obtain ⟨b, o, rfl, hb, hc⟩ := hr.at_ h0
  rw [run_convert_bytes_arg W 24 5 Tryz.underlying24 Tryz.underlying5 b o n q (l.map fun b => ((b.toNat : Nat) : Int)) (by simpa using hl) (fun i hi => ?_) 9 Tryz.underlying9, strOf_bytes]
  have hil : i < l.length := by omega
  rw [hc i l[i] (List.getElem?_eq_getElem hil)]
  simp [bv, List.getD, List.getElem?_map, List.getElem?_eq_getElem hil]
set_option maxHeartbeats 2000000 in
theorem same13r_any (xk xv xt xs xa xc yk yv yt ys ya yc : Int) (xD yD : Option Addr) (xn xq yn yq : Nat) (lx ly : List UInt8) (w : World) (hx : lx.length = xn) (hy : ly.length = yn) (h1 : Row bv w xD lx) (h2 : Row bv w yD ly) :
  Calls Tryz.prog 12 #[(Value.agg #[.int .i64 xk, .int .u64 xv, .int .u64 xt, .int .i64 xs, .int .i64 xa, .int .i64 xc, .slice xD xn xq]), (Value.agg #[.int .i64 yk, .int .u64 yv, .int .u64 yt, .int .i64 ys, .int .i64 ya, .int .i64 yc, .slice yD yn yq])] w fun e w' => e = .returned (.bool (sameB xk xv xt xs xa xc yk yv yt ys ya yc lx ly)) ∧ Gr w w' := by
 have CV1 : ∀ (W : World) [GrC w W], (convert 24 9 (.slice xD xn xq)).run Tryz.prog W = .ok (.string ⟨lx.toArray⟩) W := fun W hW => conv_row _ _ _ _ _ hx (h1.gr (Gr.of hW.b))
 have CV2 : ∀ (W : World) [GrC w W], (convert 24 9 (.slice yD yn yq)).run Tryz.prog W = .ok (.string ⟨ly.toArray⟩) W := fun W hW => conv_row _ _ _ _ _ hy (h2.gr (Gr.of hW.b))
 clear hx hy h1 h2
 rcases Bool.eq_false_or_eq_true (xk == yk) with k1 | k1
 rotate_left
 ·go_enter Tryz.func12, Tryz.ntmps12
  go_wp2
  go_ret
  exact ⟨ret_bool (by simp [sameB, k1]), gri⟩
 rcases Bool.eq_false_or_eq_true (xv == yv) with k2 | k2
 rotate_left
 ·go_enter Tryz.func12, Tryz.ntmps12
  go_wp2
  go_ret
  exact ⟨ret_bool (by simp [sameB, k2]), gri⟩
 rcases Bool.eq_false_or_eq_true (xt == yt) with k3 | k3
 rotate_left
 ·go_enter Tryz.func12, Tryz.ntmps12
  go_wp2
  go_ret
  exact ⟨ret_bool (by simp [sameB, k3]), gri⟩
 rcases Bool.eq_false_or_eq_true (xs == ys) with k4 | k4
 rotate_left
 ·go_enter Tryz.func12, Tryz.ntmps12
  go_wp2
  go_ret
  exact ⟨ret_bool (by simp [sameB, k4]), gri⟩
 rcases Bool.eq_false_or_eq_true (xa == ya) with k5 | k5
 rotate_left
 ·go_enter Tryz.func12, Tryz.ntmps12
  go_wp2
  go_ret
  exact ⟨ret_bool (by simp [sameB, k5]), gri⟩
 rcases Bool.eq_false_or_eq_true (xc == yc) with k6 | k6
 rotate_left
 ·go_enter Tryz.func12, Tryz.ntmps12
  go_wp2
  go_ret
  exact ⟨ret_bool (by simp [sameB, k6]), gri⟩
 rcases Bool.eq_false_or_eq_true (lx == ly) with k7 | k7
 ·go_enter Tryz.func12, Tryz.ntmps12
  go_wp2
  go_ret
  exact ⟨ret_bool (by simp [sameB, k1, k2, k3, k4, k5, k6, k7]), gri⟩
 ·go_enter Tryz.func12, Tryz.ntmps12
  go_wp2
  go_ret
  exact ⟨ret_bool (by simp [sameB, k1, k2, k3, k4, k5, k6, k7]), gri⟩






theorem much13_any (xk xv xt xs xa xc : Int) (xD : Option Addr) (xn xq : Nat) (w : World) : Calls Tryz.prog 8 #[(Value.agg #[.int .i64 xk, .int .u64 xv, .int .u64 xt, .int .i64 xs, .int .i64 xa, .int .i64 xc, .slice xD xn xq])] w fun e w' => e = .returned (.bool (decide (9000 < xn))) ∧ Gr w w' := by
 go_enter Tryz.func8, Tryz.ntmps8
 go_wp2
 go_ret
 exact ⟨ret_bool (by first | rfl | (rw [Bool.eq_iff_iff]; simp; omega)), gri⟩
set_option maxHeartbeats 2000000 in
theorem big26_any (xk xn xm xOk xOv xOt xOs xOa xOc : Int) (xOD xP : Option Addr) (xOn xOq xpn xpq : Nat) (xf : Bool) (w : World) :
  Calls Tryz.prog 18 #[(Value.agg #[.int .i64 xk, .int .i64 xn, .int .i64 xm, .int .i64 xOk, .int .u64 xOv, .int .u64 xOt, .int .i64 xOs, .int .i64 xOa, .int .i64 xOc, .slice xOD xOn xOq, .bool xf, .slice xP xpn xpq])] w fun e w' => e = .returned (.bool (decide (300 < xpn) || decide (9000 < xOn))) ∧ Gr w w' := by
 have HU := Lib.hid (fun W => much13_any xOk xOv xOt xOs xOa xOc xOD xOn xOq W)
 by_cases h : 300 < xpn
 ·have h2 : (300 : Int) < (xpn : Int) := by omega
  have HH := Lib.hid h; clear h
  go_enter Tryz.func18, Tryz.ntmps18
  go_wp2
  go_ret
  exact ⟨ret_bool (by have := HH.out; simp [this]), gri⟩
 ·have h2 : ¬ (300 : Int) < (xpn : Int) := by omega
  have HH := Lib.hid h; clear h
  go_enter Tryz.func18, Tryz.ntmps18
  go_wp2_with ((go_at_call 8; ((with_reducible refine (HU.out _).mono ?_); rintro _ _ ⟨rfl, gu, rfl⟩)))
  go_ret
  exact ⟨ret_bool (by have := HH.out; simp [this]), gri⟩
theorem list_ne_of_len {α : Type} [BEq α] [LawfulBEq α] {a b : List α} (h : a.length ≠ b.length) : (a == b) = false := by
 rw [beq_eq_false_iff_ne]; exact fun e => h (by rw [e])
theorem beq_snocI {xs ys : List Int} {k : Nat} (hx : k < xs.length) (hy : k < ys.length) (h : xs.take k = ys.take k) (he : xs[k] = ys[k]) : xs.take (k + 1) = ys.take (k + 1) := by
 rw [List.take_succ_eq_append_getElem hx, List.take_succ_eq_append_getElem hy, h, he]
theorem beq_getI {xs ys : List Int} {k : Nat} (hx : k < xs.length) (hy : k < ys.length) (he : xs[k] ≠ ys[k]) : (xs == ys) = false := by
 rw [beq_eq_false_iff_ne]
 rintro rfl
 exact he rfl
set_option maxRecDepth 100000 in
set_option maxHeartbeats 8000000 in
theorem sameAct26_any (xk xn xm xOk xOv xOt xOs xOa xOc yk yn ym yOk yOv yOt yOs yOa yOc : Int) (xOD yOD xP yP : Option Addr) (xOn xOq yOn yOq xpn xpq ypn ypq : Nat) (xf yf : Bool) (lx ly : List UInt8) (px py : List Int) (w : World) (hx : lx.length = xOn) (hy : ly.length = yOn) (h1 : Row bv w xOD lx) (h2 : Row bv w yOD ly) (hpx : px.length = xpn) (hpy : py.length = ypn) (hpn : xpn ≤ 9223372036854775807) (h3 : Row (Value.int .i64) w xP px) (h4 : Row (Value.int .i64) w yP py) :
  Calls Tryz.prog 21 #[(Value.agg #[.int .i64 xk, .int .i64 xn, .int .i64 xm, .int .i64 xOk, .int .u64 xOv, .int .u64 xOt, .int .i64 xOs, .int .i64 xOa, .int .i64 xOc, .slice xOD xOn xOq, .bool xf, .slice xP xpn xpq]), (Value.agg #[.int .i64 yk, .int .i64 yn, .int .i64 ym, .int .i64 yOk, .int .u64 yOv, .int .u64 yOt, .int .i64 yOs, .int .i64 yOa, .int .i64 yOc, .slice yOD yOn yOq, .bool yf, .slice yP ypn ypq])] w fun e w' => e = .returned (.bool (sameActB xk xn xm xOk xOv xOt xOs xOa xOc yk yn ym yOk yOv yOt yOs yOa yOc xf yf lx ly px py)) ∧ Gr w w' := by
 have HS := Lib.hid (fun W (g : GrC w W) => same13r_any xOk xOv xOt xOs xOa xOc yOk yOv yOt yOs yOa yOc xOD yOD xOn xOq yOn yOq lx ly W hx hy (h1.gr (Gr.of g.b)) (h2.gr (Gr.of g.b)))
 clear hx hy h1 h2
 rcases Bool.eq_false_or_eq_true (xk == yk) with k0 | k0
 rotate_left
 ·have n0 : (xk != yk) = true := by simp [bne, k0]
  go_enter Tryz.func21, Tryz.ntmps21
  go_wp2
  go_ret
  exact ⟨ret_bool (by simp [sameActB, k0]), gri⟩
 have n0 : (xk != yk) = false := by simp [bne, k0]
 rcases Bool.eq_false_or_eq_true (xn == yn) with k1 | k1
 rotate_left
 ·have n1 : (xn != yn) = true := by simp [bne, k1]
  go_enter Tryz.func21, Tryz.ntmps21
  go_wp2
  go_ret
  exact ⟨ret_bool (by simp [sameActB, k1]), gri⟩
 have n1 : (xn != yn) = false := by simp [bne, k1]
 rcases Bool.eq_false_or_eq_true (xm == ym) with k2 | k2
 rotate_left
 ·have n2 : (xm != ym) = true := by simp [bne, k2]
  go_enter Tryz.func21, Tryz.ntmps21
  go_wp2
  go_ret
  exact ⟨ret_bool (by simp [sameActB, k2]), gri⟩
 have n2 : (xm != ym) = false := by simp [bne, k2]
 rcases Bool.eq_false_or_eq_true (sameB xOk xOv xOt xOs xOa xOc yOk yOv yOt yOs yOa yOc lx ly) with k3 | k3
 rotate_left
 ·rw [k3] at HS
  go_enter Tryz.func21, Tryz.ntmps21
  go_wp2_with ((go_at_call 12; ((with_reducible refine (HS.out _ inferInstance).mono ?_); rintro _ _ ⟨rfl, g, rfl⟩)))
  go_ret
  exact ⟨ret_bool (by simp [sameActB, k3]), gri⟩
 rw [k3] at HS
 by_cases hf : xf = yf
 rotate_left
 ·have ef : (xf == yf) = false := by simpa using hf
  have K3 := Lib.hid k3; clear k3
  cases xf <;> cases yf <;> first | exact absurd rfl hf | skip
  all_goals
   go_enter Tryz.func21, Tryz.ntmps21
   go_wp2_with ((go_at_call 12; ((with_reducible refine (HS.out _ inferInstance).mono ?_); rintro _ _ ⟨rfl, g, rfl⟩)))
   go_ret
   exact ⟨ret_bool (by simp [sameActB]), gri⟩
 subst hf
 have HALL := Lib.hid (show sameActB xk xn xm xOk xOv xOt xOs xOa xOc yk yn ym yOk yOv yOt yOs yOa yOc xf xf lx ly px py = (px == py) by simp [sameActB, k0, k1, k2, k3])
 clear k0 k1 k2 k3
 by_cases hlen : xpn = ypn
 rotate_left
 ·have hl : ((xpn : Int) != (ypn : Int)) = true := by simp; omega
  have hpp : (px == py) = false := list_ne_of_len (by omega)
  have HPP := Lib.hid hpp; clear hpp hlen
  cases xf
  all_goals
   go_enter Tryz.func21, Tryz.ntmps21
   go_wp2_with ((go_at_call 12; ((with_reducible refine (HS.out _ inferInstance).mono ?_); rintro _ _ ⟨rfl, g, rfl⟩)))
   go_ret
   exact ⟨ret_bool (by rw [HALL.out, HPP.out]), gri⟩
 subst hlen
 have HPX := Lib.hid hpx; have HPY := Lib.hid hpy; have H3 := Lib.hid h3; have H4 := Lib.hid h4; clear hpx hpy h3 h4
 cases xf
 all_goals
  go_enter Tryz.func21, Tryz.ntmps21
  go_wp2_with ((go_at_call 12; ((with_reducible refine (HS.out _ inferInstance).mono ?_); rintro _ _ ⟨rfl, g, rfl⟩)))
  go_loopw [5] (fun i wr => ∃ j : Nat, i = .int .i64 j ∧ j ≤ xpn ∧ Hid (px.take j = py.take j) ∧ Gr w wr ∧ wr.cell? ⟨w.heap.size, 11, none⟩ = some (.slice xP xpn xpq) ∧ wr.cell? ⟨w.heap.size + 1, 11, none⟩ = some (.slice yP xpn ypq)) (fun i _ => xpn - (intOf i).toNat)
  case atStart => exact ⟨0, rfl, Nat.zero_le _, Lib.hid rfl, gri, (block_cells _ _ _ _ _).trans rfl, (block_cells _ _ _ _ _).trans rfl⟩
  case round =>
   obtain ⟨j, rfl, hj, ht, hg, cx, cy⟩ := hrel
   have HG := Lib.hid hg; clear hg
   haveI : Old w.heap.size wr := old_of_cell cx
   haveI : Old (w.heap.size + 1) wr := old_of_cell cy
   by_cases hlt : j < xpn
   ·have hjx : j < px.length := by have := HPX.out; omega
    have hjy : j < py.length := by have := HPY.out; omega
    obtain ⟨bx, ox, rfl, hbx, hcx⟩ := (H3.out.gr HG.out).at_ (by rintro rfl; simp at hjx)
    obtain ⟨by', oy, rfl, hby, hcy⟩ := (H4.out.gr HG.out).at_ (by rintro rfl; simp at hjy)
    have ex := hcx j px[j] (List.getElem?_eq_getElem hjx)
    have ey := hcy j py[j] (List.getElem?_eq_getElem hjy)
    haveI : Old bx wr := ⟨hbx⟩
    haveI : Old by' wr := ⟨hby⟩
    have hjl : (j : Int) < (xpn : Int) := by omega
    clear hcx hcy hbx hby
    by_cases hpp : px[j] = py[j]
    ·have HN := Lib.hid (beq_snocI hjx hjy ht.out hpp)
     have hq : (px[j] != py[j]) = false := by simp [hpp]
     clear ht hpp
     generalize px[j] = u at *
     generalize py[j] = v at *
     go_wp2
     refine wp_region_grow (by kernel_rfl) (by kernel_rfl) ?_
     repeat (go_big_quiet_step (fail))
     refine wpQuiet_nil ?_
     intro g1
     go_wp2
     go_roundw
     case rel => exact ⟨j + 1, by go_num, by omega, HN, HG.out.trans (Gr.of (grown_below _ _)), by go_simp, by go_simp⟩
     case measure => simp [intOf]; omega
    ·have HN := Lib.hid (beq_getI hjx hjy hpp)
     have hq : (px[j] != py[j]) = true := by simp [hpp]
     clear ht hpp
     generalize px[j] = u at *
     generalize py[j] = v at *
     go_wp2
     refine wp_region_grow (by kernel_rfl) (by kernel_rfl) ?_
     repeat (go_big_quiet_step (fail))
     refine wpQuiet_nil ?_
     intro g1
     go_wp2
     go_ret
     exact ⟨ret_bool (by rw [HALL.out, HN.out]), HG.out.trans (Gr.of (grown_below _ _))⟩
   ·obtain rfl : j = xpn := by omega
    have hpp : (px == py) = true := by
     have h9 := ht.out
     rw [List.take_of_length_le (by have := HPX.out; omega), List.take_of_length_le (by have := HPY.out; omega)] at h9
     simp [h9]
    have HPP := Lib.hid hpp; clear hpp ht
    go_wp2
    go_ret
    exact ⟨ret_bool (by rw [HALL.out, HPP.out]), HG.out⟩
set_option maxRecDepth 100000 in
set_option maxHeartbeats 4000000 in
theorem much26_any (m0 m1 d0 d1 g : Int) (A : Option Addr) (n q : Nat) (l : List ActV) (w : World) (hl : l.length = n) (hn : n ≤ 9223372036854775807) (h : RowA w A l) :
  Calls Tryz.prog 25 #[.agg #[.int .i64 m0, .int .i64 m1, .int .i64 d0, .int .i64 d1, .int .i64 g, .slice A n q]] w fun e w' => e = .returned (.bool (muchB l)) ∧ Gr w w' := by
 have HL := Lib.hid hl; have H := Lib.hid h; clear hl h
 have HB := Lib.hid (fun k nd m ok ov ot os oa oc (D P : Option Addr) n q pn pq f W => big26_any k nd m ok ov ot os oa oc D P n q pn pq f W)
 go_enter Tryz.func25, Tryz.ntmps25
 go_wp2
 go_loopw [3] (fun iv wr => ∃ j : Nat, iv = .int .i64 j ∧ j ≤ n ∧ j ≤ 31 ∧ (l.take j).any bigA = false ∧ Gr (w.alloc (.cells #[.int .i64 m0, .int .i64 m1, .int .i64 d0, .int .i64 d1, .int .i64 g, .slice A n q] 58)) wr) (fun iv _ => n - (intOf iv).toNat)
 case atStart => exact ⟨0, rfl, Nat.zero_le _, Nat.zero_le _, rfl, Gr.refl _⟩
 case round =>
  obtain ⟨j, rfl, hj, hj31, hany, hgr⟩ := hrel
  obtain ⟨gj, rfl⟩ := hgr
  have HANY := Lib.hid hany; clear hany
  by_cases hlt : j < n
  ·by_cases h30 : j ≤ 30
   ·have hjl : j < l.length := by have := HL.out; omega
    have hgj := List.getElem?_eq_getElem hjl
    obtain ⟨b, o, rfl, hb, hc⟩ := H.out.at_ (by rintro rfl; simp at hjl)
    obtain ⟨Ad, qd, Av, qv, hm⟩ := hc j _ hgj
    generalize l[j] = a at *
    have hta := take_any bigA l j a hgj
    obtain ⟨k, nd, m, ⟨ok, ov, ot, os, oa, oc, od⟩, f, pk⟩ := a
    have x0 : w.cell? ⟨b, o + j * 12, none⟩ = some (.int .i64 k) := hm.c 0 _ rfl
    have x1 : w.cell? ⟨b, o + j * 12 + 1, none⟩ = some (.int .i64 nd) := hm.c 1 _ rfl
    have x2 : w.cell? ⟨b, o + j * 12 + 2, none⟩ = some (.int .i64 m) := hm.c 2 _ rfl
    have x3 : w.cell? ⟨b, o + j * 12 + 3, none⟩ = some (.int .i64 ok) := hm.c 3 _ rfl
    have x4 : w.cell? ⟨b, o + j * 12 + 4, none⟩ = some (.int .u64 ov) := hm.c 4 _ rfl
    have x5 : w.cell? ⟨b, o + j * 12 + 5, none⟩ = some (.int .u64 ot) := hm.c 5 _ rfl
    have x6 : w.cell? ⟨b, o + j * 12 + 6, none⟩ = some (.int .i64 os) := hm.c 6 _ rfl
    have x7 : w.cell? ⟨b, o + j * 12 + 7, none⟩ = some (.int .i64 oa) := hm.c 7 _ rfl
    have x8 : w.cell? ⟨b, o + j * 12 + 8, none⟩ = some (.int .i64 oc) := hm.c 8 _ rfl
    have x9 : w.cell? ⟨b, o + j * 12 + 9, none⟩ = some (.slice Ad od.length qd) := hm.c 9 _ rfl
    have x10 : w.cell? ⟨b, o + j * 12 + 10, none⟩ = some (.bool f) := hm.c 10 _ rfl
    have x11 : w.cell? ⟨b, o + j * 12 + 11, none⟩ = some (.slice Av pk.length qv) := hm.c 11 _ rfl
    haveI : Old b w := ⟨hb⟩
    have hji : (j : Int) < (n : Int) := by omega
    have h3i : (j : Int) ≤ 30 := by omega
    have HB1 := Lib.hid (fun W => HB.out k nd m ok ov ot os oa oc Ad Av od.length qd pk.length qv f W)
    rcases Bool.eq_false_or_eq_true (decide (300 < pk.length) || decide (9000 < od.length)) with hb | hb
    ·have e : muchB l = true := by
      have h1 : (l.take (j + 1)).any bigA = true := by rw [hta, HANY.out]; exact hb
      have h2 : (l.take 31).any bigA = true := by
       rw [List.any_eq_true] at h1 ⊢
       obtain ⟨y, hy, hy2⟩ := h1
       exact ⟨y, (List.take_subset_take_left l (by omega)) hy, hy2⟩
      rw [muchB, h2, Bool.true_or]
     rw [hb] at HB1
     have HE := Lib.hid e; clear e hb hta hm hc hgj
     go_wp2_with ((go_at_call 18; ((with_reducible refine (HB1.out _).mono ?_); rintro _ _ ⟨rfl, g1, rfl⟩)))
     go_ret
     exact ⟨by rw [HE.out]; rfl, gri⟩
    ·have e : (l.take (j + 1)).any bigA = false := by rw [hta, HANY.out]; exact hb
     rw [hb] at HB1
     have HE := Lib.hid e; clear e hb hta hm hc hgj
     go_wp2_with ((go_at_call 18; ((with_reducible refine (HB1.out _).mono ?_); rintro _ _ ⟨rfl, g1, rfl⟩)))
     go_roundw
     case rel => exact ⟨j + 1, by go_num, by omega, by omega, HE.out, gri⟩
     case measure => simp [intOf]; omega
   ·have e : muchB l = true := by
     have h1 : decide (30 < l.length) = true := by have := HL.out; simp; omega
     rw [muchB, h1, Bool.or_true]
    have HE := Lib.hid e
    have hji : (j : Int) < (n : Int) := by omega
    have h3i : ¬ (j : Int) ≤ 30 := by omega
    have h4i : (30 : Int) < (n : Int) := by omega
    clear e
    go_wp2
    go_ret
    exact ⟨by rw [HE.out]; rfl, gri⟩
  ·have hjn : j = n := by omega
   have e : muchB l = decide ((30 : Int) < (n : Int)) := by
    have h1 : l.take j = l := List.take_of_length_le (by have := HL.out; omega)
    have h2 : (l.take 31).any bigA = false := by
     have h3 := HANY.out
     rw [h1] at h3
     rw [List.any_eq_false] at h3 ⊢
     exact fun y hy => h3 y (List.mem_of_mem_take hy)
    rw [muchB, h2, Bool.false_or, HL.out]
    exact decide_eq_decide.2 (by omega)
   have HE := Lib.hid e
   have hji : ¬ (j : Int) < (n : Int) := by omega
   clear e
   go_wp2
   go_ret
   exact ⟨by rw [HE.out]; rfl, gri⟩
def st5 (a b c d e a2 b2 c2 d2 e2 : Int) : Bool := (a == a2 && b == b2) && ((c == c2 && d == d2) && e == e2)
theorem eql_pair (w : World) (a b c d : Int) : (Op.equalIn 9999 53 (.agg #[.int .i64 a, .int .i64 b]) (.agg #[.int .i64 c, .int .i64 d])).run Tryz.prog w = .ok (a == c && b == d) w := by
 unfold Op.equalIn
 by_cases h : a = c
 ·subst h
  by_cases h2 : b = d
  ·subst h2; simp [go_sem, List.range']
  ·simp [go_sem, List.range', h2]
 ·simp [go_sem, List.range', h]
@[go_sem ↓] theorem eql_stage (w : World) (a b c d e a2 b2 c2 d2 e2 : Int) : (Op.equalIn 10000 55 (.agg #[.int .i64 a, .int .i64 b, .int .i64 c, .int .i64 d, .int .i64 e]) (.agg #[.int .i64 a2, .int .i64 b2, .int .i64 c2, .int .i64 d2, .int .i64 e2])).run Tryz.prog w = .ok (st5 a b c d e a2 b2 c2 d2 e2) w := by
 have h1 := eql_pair w a b a2 b2
 have h2 := eql_pair w c d c2 d2
 unfold Op.equalIn
 unfold st5
 generalize (a == a2 && b == b2) = x at *
 generalize (c == c2 && d == d2) = y at *
 cases x <;> cases y <;> simp [go_sem, h1, h2]
 by_cases h : e = e2
 ·subst h; simp
 ·simp [h]
def sameA (a b : ActV) : Bool := sameActB a.k a.nd a.m a.o.k a.o.v a.o.t a.o.s a.o.a a.o.c b.k b.nd b.m b.o.k b.o.v b.o.t b.o.s b.o.a b.o.c a.f b.f a.o.d b.o.d a.pk b.pk
def sameL (l r : List ActV) : Bool := (l.length == r.length) && (List.zipWith sameA l r).all id
theorem sameA_refl (a : ActV) : sameA a a = true := by simp [sameA, sameActB, sameB]
theorem sameL_refl (l : List ActV) : sameL l l = true := by
 have h : ∀ l : List ActV, (List.zipWith sameA l l).all id = true := by
  intro l
  induction l with
  | nil => rfl
  | cons a l ih => simp [sameA_refl, ih]
 rw [sameL, h]; simp
theorem zip_take (l r : List ActV) (j : Nat) (x y : ActV) (hx : l[j]? = some x) (hy : r[j]? = some y) : ((List.zipWith sameA l r).take (j + 1)).all id = (((List.zipWith sameA l r).take j).all id && sameA x y) := by
 have h : (List.zipWith sameA l r)[j]? = some (sameA x y) := by simp [List.getElem?_zipWith, hx, hy]
 rw [List.take_add_one, h]; simp
theorem zip_stop {l r : List ActV} {j : Nat} (h : ((List.zipWith sameA l r).take (j + 1)).all id = false) : sameL l r = false := by
 have h1 : (List.zipWith sameA l r).all id = false := by
  rw [List.all_eq_false] at h ⊢
  obtain ⟨y, hy, hy2⟩ := h
  exact ⟨y, List.mem_of_mem_take hy, hy2⟩
 rw [sameL, h1, Bool.and_false]
set_option maxRecDepth 100000 in
set_option maxHeartbeats 4000000 in
theorem same26S_any (m0 m1 d0 d1 g m0' m1' d0' d1' g' : Int) (A A' : Option Addr) (n q n' q' : Nat) (l r : List ActV) (w : World) (hl : l.length = n) (hr : r.length = n') (hn : n ≤ 9223372036854775807) (hn' : n' ≤ 9223372036854775807) (h1 : RowA w A l) (h2 : RowA w A' r) :
  Calls Tryz.prog 28 #[.agg #[.int .i64 m0, .int .i64 m1, .int .i64 d0, .int .i64 d1, .int .i64 g, .slice A n q], .agg #[.int .i64 m0', .int .i64 m1', .int .i64 d0', .int .i64 d1', .int .i64 g', .slice A' n' q']] w fun e w' => e = .returned (.bool (st5 m0 m1 d0 d1 g m0' m1' d0' d1' g' && sameL l r)) ∧ Gr w w' := by
 have HL := Lib.hid hl; have HR := Lib.hid hr; have H1 := Lib.hid h1; have H2 := Lib.hid h2; clear hl hr h1 h2
 rcases Bool.eq_false_or_eq_true (st5 m0 m1 d0 d1 g m0' m1' d0' d1' g') with hs | hs
 ·rw [hs, Bool.true_and]
  by_cases hnn : n = n'
  ·subst hnn
   go_enter Tryz.func28, Tryz.ntmps28
   go_wp2
   go_loopw [5] (fun iv wr => ∃ j : Nat, iv = .int .i64 j ∧ j ≤ n ∧ ((List.zipWith sameA l r).take j).all id = true ∧ Gr ((w.alloc (.cells #[.int .i64 m0, .int .i64 m1, .int .i64 d0, .int .i64 d1, .int .i64 g, .slice A n q] 58)).alloc (.cells #[.int .i64 m0', .int .i64 m1', .int .i64 d0', .int .i64 d1', .int .i64 g', .slice A' n q'] 58)) wr) (fun iv _ => n - (intOf iv).toNat)
   case atStart => exact ⟨0, rfl, Nat.zero_le _, rfl, Gr.refl _⟩
   case round =>
    obtain ⟨j, rfl, hj, hany, hgr⟩ := hrel
    have hgw : Gr w wr := Gr.trans (Gr.of (below_alloc (below_alloc (Below.refl _ _) _) _)) hgr
    obtain ⟨gj, rfl⟩ := hgr
    have HANY := Lib.hid hany; have HGW := Lib.hid hgw; clear hany hgw
    by_cases hlt : j < n
    ·
     have hjl : j < l.length := by have := HL.out; omega
     have hjr : j < r.length := by have := HR.out; omega
     have hgj := List.getElem?_eq_getElem hjl
     have hrj := List.getElem?_eq_getElem hjr
     obtain ⟨b, o, rfl, hb, hc⟩ := H1.out.at_ (by rintro rfl; simp at hjl)
     obtain ⟨b2, o2, rfl, hb2, hc2⟩ := H2.out.at_ (by rintro rfl; simp at hjr)
     obtain ⟨Ad, qd, Av, qv, hm⟩ := hc j _ hgj
     obtain ⟨Ad2, qd2, Av2, qv2, hm2⟩ := hc2 j _ hrj
     have hta := zip_take l r j _ _ hgj hrj
     generalize l[j] = a at *
     generalize r[j] = a2 at *
     obtain ⟨k, nd, m, ⟨ok, ov, ot, os, oa, oc, od⟩, f, pk⟩ := a
     obtain ⟨k2, nd2, m2, ⟨ok2, ov2, ot2, os2, oa2, oc2, od2⟩, f2, pk2⟩ := a2
     have x0 : w.cell? ⟨b, o + j * 12, none⟩ = some (.int .i64 k) := hm.c 0 _ rfl
     have x1 : w.cell? ⟨b, o + j * 12 + 1, none⟩ = some (.int .i64 nd) := hm.c 1 _ rfl
     have x2 : w.cell? ⟨b, o + j * 12 + 2, none⟩ = some (.int .i64 m) := hm.c 2 _ rfl
     have x3 : w.cell? ⟨b, o + j * 12 + 3, none⟩ = some (.int .i64 ok) := hm.c 3 _ rfl
     have x4 : w.cell? ⟨b, o + j * 12 + 4, none⟩ = some (.int .u64 ov) := hm.c 4 _ rfl
     have x5 : w.cell? ⟨b, o + j * 12 + 5, none⟩ = some (.int .u64 ot) := hm.c 5 _ rfl
     have x6 : w.cell? ⟨b, o + j * 12 + 6, none⟩ = some (.int .i64 os) := hm.c 6 _ rfl
     have x7 : w.cell? ⟨b, o + j * 12 + 7, none⟩ = some (.int .i64 oa) := hm.c 7 _ rfl
     have x8 : w.cell? ⟨b, o + j * 12 + 8, none⟩ = some (.int .i64 oc) := hm.c 8 _ rfl
     have x9 : w.cell? ⟨b, o + j * 12 + 9, none⟩ = some (.slice Ad od.length qd) := hm.c 9 _ rfl
     have x10 : w.cell? ⟨b, o + j * 12 + 10, none⟩ = some (.bool f) := hm.c 10 _ rfl
     have x11 : w.cell? ⟨b, o + j * 12 + 11, none⟩ = some (.slice Av pk.length qv) := hm.c 11 _ rfl
     have y0 : w.cell? ⟨b2, o2 + j * 12, none⟩ = some (.int .i64 k2) := hm2.c 0 _ rfl
     have y1 : w.cell? ⟨b2, o2 + j * 12 + 1, none⟩ = some (.int .i64 nd2) := hm2.c 1 _ rfl
     have y2 : w.cell? ⟨b2, o2 + j * 12 + 2, none⟩ = some (.int .i64 m2) := hm2.c 2 _ rfl
     have y3 : w.cell? ⟨b2, o2 + j * 12 + 3, none⟩ = some (.int .i64 ok2) := hm2.c 3 _ rfl
     have y4 : w.cell? ⟨b2, o2 + j * 12 + 4, none⟩ = some (.int .u64 ov2) := hm2.c 4 _ rfl
     have y5 : w.cell? ⟨b2, o2 + j * 12 + 5, none⟩ = some (.int .u64 ot2) := hm2.c 5 _ rfl
     have y6 : w.cell? ⟨b2, o2 + j * 12 + 6, none⟩ = some (.int .i64 os2) := hm2.c 6 _ rfl
     have y7 : w.cell? ⟨b2, o2 + j * 12 + 7, none⟩ = some (.int .i64 oa2) := hm2.c 7 _ rfl
     have y8 : w.cell? ⟨b2, o2 + j * 12 + 8, none⟩ = some (.int .i64 oc2) := hm2.c 8 _ rfl
     have y9 : w.cell? ⟨b2, o2 + j * 12 + 9, none⟩ = some (.slice Ad2 od2.length qd2) := hm2.c 9 _ rfl
     have y10 : w.cell? ⟨b2, o2 + j * 12 + 10, none⟩ = some (.bool f2) := hm2.c 10 _ rfl
     have y11 : w.cell? ⟨b2, o2 + j * 12 + 11, none⟩ = some (.slice Av2 pk2.length qv2) := hm2.c 11 _ rfl
     haveI : Old b w := ⟨hb⟩
     haveI : Old b2 w := ⟨hb2⟩
     have hji : (j : Int) < (n : Int) := by omega
     have HSA := Lib.hid (fun W (hW : Gr w W) => (show Calls Tryz.prog 21 #[.agg #[.int .i64 k, .int .i64 nd, .int .i64 m, .int .i64 ok, .int .u64 ov, .int .u64 ot, .int .i64 os, .int .i64 oa, .int .i64 oc, .slice Ad od.length qd, .bool f, .slice Av pk.length qv], .agg #[.int .i64 k2, .int .i64 nd2, .int .i64 m2, .int .i64 ok2, .int .u64 ov2, .int .u64 ot2, .int .i64 os2, .int .i64 oa2, .int .i64 oc2, .slice Ad2 od2.length qd2, .bool f2, .slice Av2 pk2.length qv2]] W (fun e w' => e = .returned (.bool (sameA ⟨k, nd, m, ⟨ok, ov, ot, os, oa, oc, od⟩, f, pk⟩ ⟨k2, nd2, m2, ⟨ok2, ov2, ot2, os2, oa2, oc2, od2⟩, f2, pk2⟩)) ∧ Gr W w') from sameAct26_any k nd m ok ov ot os oa oc k2 nd2 m2 ok2 ov2 ot2 os2 oa2 oc2 Ad Ad2 Av Av2 od.length qd od2.length qd2 pk.length qv pk2.length qv2 f f2 od od2 pk pk2 W rfl rfl (hm.d.gr hW) (hm2.d.gr hW) rfl rfl hm.bv (hm.v.gr hW) (hm2.v.gr hW)))
     clear hc hc2 hgj hrj hm hm2
     generalize sameA _ _ = bb at *
     go_wp2
     refine wp_region_grow (by kernel_rfl) (by kernel_rfl) ?_
     repeat (go_big_quiet_step ((go_at_call 21; with_reducible exact grow_call (HSA.out _ (HGW.out.trans gri)))))
     refine wpQuiet_nil ?_
     intro g9
     cases bb
     ·have e : sameL l r = false := zip_stop (j := j) (by rw [hta, Bool.and_false])
      have HE := Lib.hid e; clear e
      go_wp2
      go_ret
      exact ⟨by rw [HE.out]; rfl, gri⟩
     ·have e : ((List.zipWith sameA l r).take (j + 1)).all id = true := by rw [hta, HANY.out]; rfl
      have HE := Lib.hid e; clear e hta
      go_wp2
      go_roundw
      case rel => exact ⟨j + 1, by go_num, by omega, HE.out, gri⟩
      case measure => simp [intOf]; omega
    ·have e : sameL l r = true := by
      have h1 : (List.zipWith sameA l r).take j = List.zipWith sameA l r := List.take_of_length_le (by have := HL.out; have := HR.out; simp; omega)
      have h2 := HANY.out
      rw [h1] at h2
      rw [sameL, h2, HL.out, HR.out]; simp
     have HE := Lib.hid e; clear e
     have hji : ¬ (j : Int) < (n : Int) := by omega
     go_wp2
     go_ret
     exact ⟨by rw [HE.out]; rfl, gri⟩
  ·have e : sameL l r = false := by
    have h1 : (l.length == r.length) = false := by rw [HL.out, HR.out]; simpa using hnn
    rw [sameL, h1, Bool.false_and]
   have HE := Lib.hid e; clear e
   have hne : ((n : Int) == (n' : Int)) = false := by simp; omega
   have hne2 : ((n : Int) != (n' : Int)) = true := by simp; omega
   have hne3 : ¬ (n : Int) = (n' : Int) := by omega
   go_enter Tryz.func28, Tryz.ntmps28
   go_wp2
   go_ret
   exact ⟨by rw [HE.out]; rfl, gri⟩
 ·rw [hs, Bool.false_and]
  go_enter Tryz.func28, Tryz.ntmps28
  go_wp2
  go_ret
  exact ⟨rfl, gri⟩
theorem num26_any (n : Int) (w : World) : Calls Tryz.prog 13 #[.int .i64 n] w fun e w' => e = .returned (.int .i64 n) ∧ w = w' := by
 go_enter Tryz.func13, Tryz.ntmps13
 go_wp2
 go_ret
 exact ⟨rfl, rfl⟩
theorem dec_small (u : Nat) (h : u < 10) : Lib.decDigits u = [UInt8.ofNat (48 + u)] := by rw [Lib.decDigits, dif_pos h]
theorem itoa_small (u : Nat) (h : u < 10) : Lib.itoa (u : Int) = [UInt8.ofNat (48 + u)] := by rw [Lib.itoa_nonneg, dec_small u h]
theorem known_text1 : actTextL 4 1 0 0 0 0 0 0 0 false [] [0, 2] = [111, 102, 102, 32, 49, 32, 48, 44, 50] := by
 have e0 : Lib.itoa 0 = [48] := itoa_small 0 (by omega)
 have e1 : Lib.itoa 1 = [49] := itoa_small 1 (by omega)
 have e2 : Lib.itoa 2 = [50] := itoa_small 2 (by omega)
 simp [actTextL, actPieces, rowL, pickT, e0, e1, e2, Lib.join, List.intercalate]
def blk7 : List UInt8 := 7 :: List.replicate 127 0
theorem known_data : dataL blk7 = [48, 55, 44, 45] := by decide +kernel
theorem known_text2 : actTextL 1 0 0 5 3 0 0 5 0 false blk7 [] = [97, 115, 107, 32, 48, 32, 119, 114, 105, 116, 101, 32, 51, 32, 53, 32, 48, 55, 44, 45] := by
 have e0 : Lib.itoa 0 = [48] := itoa_small 0 (by omega)
 have e5 : Lib.itoa 5 = [53] := itoa_small 5 (by omega)
 have e3 : Lib.decDigits 3 = [51] := dec_small 3 (by omega)
 simp [actTextL, actPieces, opTextL, opPieces, known_data, e0, e3, e5, Lib.join, List.intercalate]
theorem known_may1 : mayActB 4 1 0 0 0 0 0 0 0 false 0 2 [] [0, 2] = true := by decide
theorem known_may2 : mayActB 1 0 0 5 3 0 0 5 0 false 128 0 blk7 [] = true := by decide +kernel
theorem bd0 : Bd 0 0 0 0 0 := ⟨by omega, by omega, by omega, by omega, by omega, by omega, by omega, by omega, by omega, by omega⟩
theorem bd1 : Bd 3 0 0 5 0 := ⟨by omega, by omega, by omega, by omega, by omega, by omega, by omega, by omega, by omega, by omega⟩
theorem known_call1 (b : Nat) (W : World) [hk : Tb W] (hb : b < W.heap.size) (c0 : W.cell? ⟨b, 0, none⟩ = some (.int .i64 0)) (c1 : W.cell? ⟨b, 1, none⟩ = some (.int .i64 2)) :
  Calls Tryz.prog 15 #[(Value.agg #[.int .i64 4, .int .i64 1, .int .i64 0, .int .i64 0, .int .u64 0, .int .u64 0, .int .i64 0, .int .i64 0, .int .i64 0, .slice none 0 0, .bool false, .slice (some ⟨b, 0, none⟩) 2 2])] W fun e w' => e = .returned (.tuple #[.string ⟨#[111, 102, 102, 32, 49, 32, 48, 44, 50]⟩, .int .i64 0]) ∧ Gr W w' := by
 have h := ActText_any 4 1 0 0 0 0 0 0 0 none (some ⟨b, 0, none⟩) 0 0 2 2 false [] [0, 2] W (by omega) (by omega) (by omega) (by omega) bd0 rfl (by omega) Row.nil rfl (by omega) ⟨by intro n hn; simp at hn; omega, by intro n hn; simp at hn; omega⟩ ⟨fun _ => ⟨b, 0, rfl, hb, fun j x hx => by
  match j, hx with
  | 0, hx => simp at hx; subst hx; exact c0
  | 1, hx => simp at hx; subst hx; exact c1⟩⟩ (by omega) (by omega)
 rw [known_may1, known_text1] at h
 exact h
theorem known_call2 (b : Nat) (W : World) [hk : Tb W] (hr : Row bv W (some ⟨b, 0, none⟩) blk7) :
  Calls Tryz.prog 15 #[(Value.agg #[.int .i64 1, .int .i64 0, .int .i64 0, .int .i64 5, .int .u64 3, .int .u64 0, .int .i64 0, .int .i64 5, .int .i64 0, .slice (some ⟨b, 0, none⟩) 128 128, .bool false, .slice none 0 0])] W fun e w' => e = .returned (.tuple #[.string ⟨#[97, 115, 107, 32, 48, 32, 119, 114, 105, 116, 101, 32, 51, 32, 53, 32, 48, 55, 44, 45]⟩, .int .i64 0]) ∧ Gr W w' := by
 have h := ActText_any 1 0 0 5 3 0 0 5 0 (some ⟨b, 0, none⟩) none 128 128 0 0 false blk7 [] W (by omega) (by omega) (by omega) (by omega) bd1 rfl (by omega) hr rfl (by omega) ⟨by intro n hn; simp at hn, by intro n hn; simp at hn⟩ Row.nil (by omega) (by omega)
 rw [known_may2, known_text2] at h
 exact h
def zeros128 : Array Value := Array.replicate 128 (.int .u8 0)
theorem make128 (W : World) : (Instr.makeSlice 24 (.int .i64 128) (.int .i64 128)).run Tryz.prog W = .ok (.slice (some ⟨W.heap.size, 0, none⟩) 128 128) (W.alloc (.cells zeros128 5)) := by kernel_rfl
theorem zeros128_at (j : Nat) (h : j < 128) : zeros128[j]? = some (.int .u8 0) := by
 unfold zeros128; rw [Array.getElem?_replicate, if_pos h]
theorem blk7_at (j : Nat) (x : UInt8) (h : blk7[j]? = some x) : j < 128 ∧ (j = 0 ∧ x = 7 ∨ j ≠ 0 ∧ x = 0) := by
 have hl : j < 128 := by
  have := (List.getElem?_eq_some_iff.1 h).1
  simpa [blk7] using this
 refine ⟨hl, ?_⟩
 cases j with
 | zero => left; simp [blk7] at h; exact ⟨rfl, h.symm⟩
 | succ j =>
  right
  have h2 : j < 127 := by omega
  have h3 : (List.replicate 127 (0 : UInt8))[j]? = some x := h
  rw [List.getElem?_replicate, if_pos h2] at h3
  exact ⟨by omega, (Option.some.inj h3).symm⟩
set_option maxRecDepth 100000 in
set_option maxHeartbeats 2000000 in
theorem known26_any (w : World) [hk : Tb w] : Calls Tryz.prog 9 #[] w fun e w' => e = .returned (.bool true) ∧ Gr w w' := by
 have C1 := Lib.hid (fun b W (_ : Tb W) hb c0 c1 => known_call1 b W hb c0 c1)
 have C2 := Lib.hid (fun b W (_ : Tb W) hr => known_call2 b W hr)
 go_enter Tryz.func9, Tryz.ntmps9
 go_wp2_with (go_at_call 15; ((with_reducible refine (C1.out w.heap.size _ inferInstance ?h1 ?h2 ?h3).mono ?_)))
 case h1 => exact (inferInstance : Old _ _).lt
 case h2 => simp [go_sem]
 case h3 => simp [go_sem]
 rintro _ _ ⟨rfl, g, rfl⟩
 clear C1
 have hmk := fun W => make128 W
 have z0 : ∀ W : World, (W.alloc (.cells zeros128 5)).cell? ⟨W.heap.size, 0, none⟩ = some (.int .u8 0) := fun W => by rw [World.cell?_alloc_new]; exact zeros128_at 0 (by omega)
 go_wp2_with (go_at_call 15; ((with_reducible refine (C2.out _ _ inferInstance ?h4).mono ?_)))
 case h4 =>
  refine ⟨fun _ => ⟨_, 0, rfl, (inferInstance : Old _ _).lt, fun j x hx => ?_⟩⟩
  obtain ⟨hj, h5⟩ := blk7_at j x hx
  have hs : zeros128.size = 128 := by unfold zeros128; simp
  rw [Nat.zero_add, World.cell?_alloc_new, Array.getElem?_setIfInBounds]
  rcases h5 with ⟨rfl, rfl⟩ | ⟨h6, rfl⟩
  ·simp [hs]; rfl
  ·rw [if_neg (fun e => h6 e.symm)]
   exact zeros128_at j hj
 rintro _ _ ⟨rfl, g2, rfl⟩
 go_wp2_with (go_at_call 13; ((with_reducible refine (num26_any _ _).mono ?_); rintro _ _ ⟨rfl, rfl⟩))
 go_ret
 exact ⟨rfl, gri⟩
theorem rowA_bd {W : World} {A : Option Addr} {l : List ActV} (h : RowA W A l) : ∀ a ∈ l, ABd a := by
 intro a ha
 obtain ⟨j, hj, he⟩ := List.getElem_of_mem ha
 obtain ⟨b, o, rfl, hb, hc⟩ := h.at_ (by rintro rfl; cases ha)
 obtain ⟨Ad, qd, Av, qv, hm⟩ := hc j a (by rw [List.getElem?_eq_getElem hj, he])
 exact ⟨hm.bd, hm.n0, hm.n1, hm.m0, hm.m1, hm.bq, hm.bv, hm.pk⟩
theorem much_no {l : List ActV} (h : muchB l = false) : l.length ≤ 30 := by
 unfold muchB at h
 have := (Bool.or_eq_false_iff.1 h).2
 simpa using this
theorem st5_refl (a b c d e : Int) : st5 a b c d e a b c d e = true := by simp [st5]
end Go.Proofs.YtgjdgafoidppaaaGreatDoor
