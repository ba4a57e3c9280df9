/- The reference's data: whole sectors that are read. Conditions: a text of at most 200000 bytes. The reference's OpText. Conditions: an operation that may be; what is read stands in memory. The reference of layer 13: Names, has, in, May, Same, Much. Conditions: what is read stands in memory. The reference's SameAct, Big. Conditions: what is read stands in memory. -/
import Derived.Test.YtgjdgafoidppaaaGreatDoorP13
import Derived.Test.YtgjdgafoidppaaaGreatDoorP05
import Derived.Test.YtgjdgafoidppaaaGreatDoorP09
namespace Go.Proofs.YtgjdgafoidppaaaGreatDoor
open Go.RowKit
set_option linter.unusedVariables false
set_option linter.unusedSimpArgs false
set_option linter.unnecessarySimpa false
def okR (x : ByteArray) : Bool := (unhexL x.data.toList).isSome && decide (((unhexL x.data.toList).getD []).length ≤ 64)
def secR (x : ByteArray) : List UInt8 := if okR x then padS ((unhexL x.data.toList).getD []) else List.replicate 64 0
def dataR (x : ByteArray) : List UInt8 := (wordsB 44 x).flatMap secR
theorem secR_len (x : ByteArray) : (secR x).length = 64 := by
 unfold secR
 split
 ·exact padS_len _
 ·simp
theorem flatR_len : ∀ l : List ByteArray, (l.flatMap secR).length = 64 * l.length
 | [] => rfl
 | x :: l => by rw [List.flatMap_cons, List.length_append, secR_len, flatR_len l, List.length_cons]; omega
theorem secR_ok (b : List UInt8) (h : b.length = 64) : secR ⟨(secL b).toArray⟩ = b := by
 have hp := trimZ_pad b
 unfold secL
 split
 ·rename_i h0
  rw [h0, h] at hp
  have e : okR ⟨([45] : List UInt8).toArray⟩ = false := by decide
  rw [secR, e, if_neg (by simp), hp]
  simp
 ·rename_i h0
  have h1 := trimZ_len b
  have e : okR ⟨(hexL (trimZ b)).toArray⟩ = true := by
   simp only [okR, unhexL_hex, Option.getD_some, Option.isSome_some]
   simp; omega
  rw [secR, e, if_pos rfl]
  simp only [unhexL_hex, Option.getD_some, padS]
  rw [List.take_of_length_le (by omega), ← h]
  exact hp.symm
theorem dataR_ok (l : List UInt8) (h : 64 ≤ l.length) : dataR ⟨(dataL l).toArray⟩ = l.take (64 * (l.length / 64)) := by
 have hl : ∀ j, j < l.length / 64 → ((l.drop (64 * j)).take 64).length = 64 := fun j hj => by simp; omega
 rw [dataR, data_words l h, ← drop_take_flat l _ (by omega), List.flatMap_def]
 congr 1
 simp only [secs, List.map_map]
 refine List.map_congr_left fun j hj => ?_
 exact secR_ok _ (hl j (by simpa using hj))
theorem copySrc2 (W : World) (b : List UInt8) (A : Option Addr) (h : Row bv W A b) (hc : 0 < (cs64 b).length) : ∃ ad, A = some ad ∧ ∀ j v, (cs64 b)[j]? = some v → W.cell? (ad.add j) = some v := by
 unfold cs64 at hc ⊢
 have hb : b ≠ [] := by rintro rfl; simp at hc
 obtain ⟨g, o, rfl, _, hcell⟩ := h.at_ hb
 refine ⟨_, rfl, fun j v hj => ?_⟩
 rw [List.getElem?_map, List.getElem?_take] at hj
 split at hj
 ·cases hy : b[j]? with
  | none => rw [hy] at hj; cases hj
  | some y =>
   rw [hy] at hj; cases hj
   rw [Go.WideShapes.add_plain]
   exact hcell j y hy
 ·cases hj
theorem mk64 (w : World) : (Instr.makeSlice 24 (.int .i64 64) (.int .i64 64)).run Tryz.prog w = .ok (.slice (some ⟨w.heap.size, 0, none⟩) 64 64) (w.alloc (.cells zs64 5)) := by kernel_rfl
set_option maxRecDepth 100000 in
set_option maxHeartbeats 4000000 in
theorem rdata26_any (x : ByteArray) (hx : x.size ≤ 200000) (W : World) :
  Calls Tryz.prog 91 #[.string x] W fun e W' => ∃ v, e = .returned v ∧ OwnR bv 5 W.heap.size W' v (dataR x) ∧ Below W.heap.size W W' := by
 have HWD := Lib.hid (fun V => (show Calls Tryz.prog 41 #[.string x, .int .u8 44] V (fun e w' => ∃ v, e = .returned v ∧ OwnS V.heap.size w' v (wordsB 44 x) ∧ Below V.heap.size V w') from words26_any x 44 (by omega) V))
 go_enter Tryz.func91, Tryz.ntmps91
 go_wp2_with ((go_at_call 41; ((with_reducible refine (HWD.out _).mono ?_))))
 rintro _ W1 ⟨vl, rfl, hol, hb1⟩
 obtain ⟨VA, vc, rfl, hvc, hrow⟩ := hol.form
 have hn := wordsB_le 44 x
 have hsh := Lib.hid (fun y hy => wordsB_each 44 x y hy)
 have hd : dataR x = (wordsB 44 x).flatMap secR := rfl
 have HD := Lib.hid hd; clear hd
 generalize hps : wordsB 44 x = ps at *
 have HROW := Lib.hid hrow; have HB1 := Lib.hid hb1; clear hrow hb1 hol hps
 have hsz1 := HB1.out.size
 go_wp2
 go_loopw [3, 5] (fun v i wr => ∃ k : Nat, i = .int .i64 k ∧ k ≤ ps.length ∧ OwnR bv 5 W1.heap.size wr v ((ps.take k).flatMap secR) ∧ Below W1.heap.size W1 wr) (fun _ i _ => ps.length - (intOf i).toNat)
 case atStart => exact ⟨0, rfl, Nat.zero_le _, OwnR.nil _ _, Below.refl _ _⟩
 case round =>
  obtain ⟨k, rfl, hk, hown, hbw⟩ := hrel
  have HOWN := Lib.hid hown; have HB := Lib.hid hbw; clear hown hbw
  have hsz := HB.out.size
  have hfl := flatR_len (ps.take k)
  have htl : (ps.take k).length ≤ k := List.length_take_le _ _
  by_cases hlt : k < ps.length
  ·obtain ⟨b, o, hA, hb, hc⟩ := (HROW.out.gr (Gr.of HB.out)).at_ (by rintro rfl; simp at hlt)
   subst hA
   obtain ⟨y, hy⟩ : ∃ y, ps[k]? = some y := ⟨ps[k], List.getElem?_eq_getElem hlt⟩
   have c1 := hc k y hy
   have hys : y.size ≤ x.size := hsh.out _ (List.mem_of_getElem? hy)
   have htk : ps.take (k + 1) = ps.take k ++ [y] := by rw [List.take_add_one, hy]; rfl
   have HT := Lib.hid htk; clear htk hc hy
   have HU := Lib.hid (fun V => runhex_any y (by omega) V)
   have hul : ((unhexL y.data.toList).getD []).length ≤ 200000 := by
    cases hu : unhexL y.data.toList with
    | none => simp
    | some o => have := unhexL_len _ _ hu; rw [← Lib.size_eq] at this; simp; omega
   have E1 := Lib.hid (show secR y = if (unhexL y.data.toList).isSome && decide (((unhexL y.data.toList).getD []).length ≤ 64) then padS ((unhexL y.data.toList).getD []) else List.replicate 64 0 from rfl)
   have hmk := mk64
   go_wp2_with ((go_at_call 109; ((with_reducible refine (HU.out _).mono ?_))))
   clear HU
   generalize (unhexL y.data.toList).getD [] = b at *
   generalize (unhexL y.data.toList).isSome = so at *
   rintro _ W2 ⟨vb, rfl, hob, hbB⟩
   have hsec : W2.heap[wr.heap.size]? = some (.cells zs64 5 (0, 0)) := (hbB.block _ (by simp)).trans (heap_alloc_new wr _)
   have hbA : Below wr.heap.size wr W2 := below_trans (below_alloc (Below.refl _ _) _) hbB
   have hob' : OwnR bv 5 wr.heap.size W2 vb b := OwnR.more hob (by simp)
   obtain ⟨Ab, cb, rfl, hcb, hrb⟩ := hob'.form
   have HSEC := Lib.hid hsec; have HBA := Lib.hid hbA; have HRB := Lib.hid hrb
   clear hsec hbA hob hob' hrb hbB
   by_cases hgood : so = true ∧ b.length ≤ 64
   ·obtain ⟨rfl, hbl⟩ := hgood
    have d1 : decide ((b.length : Int) ≤ 64) = true := decide_eq_true (by omega)
    have e2 : secR y = padS b := by rw [E1.out]; simp [hbl]
    have E2 := Lib.hid e2; clear e2
    go_wp2_with (with_reducible refine wpList_copy_splice rfl (.tmp 32) (.tmp 33) 24 24 rfl 5 Tryz.underlying24 ?hsz9 (some ⟨wr.heap.size, 0, none⟩) Ab 64 64 b.length cb ?hd9 ?hs9 wr.heap.size 0 zl64 5 ?hg9 (cs64 b) ?hn9 ?hpos9 ?hfit9 ?h19 wr.heap.size W2 ?hb9 ?hBg9 ?_)
    case hsz9 => kernel_rfl
    case hd9 => rfl
    case hs9 => rfl
    case hg9 => exact HSEC.out
    case hn9 => exact copyLen b
    case hpos9 =>
     intro hc
     first | exact copySrc2 _ _ _ HRB.out hc | exact ⟨rfl, copySrc2 _ _ _ HRB.out hc⟩
    case hfit9 => exact copyFit b
    case h19 => exact copyOne b
    case hb9 => exact Below.refl _ _
    case hBg9 => exact Nat.le_refl _
    intro W4 HG4 hB4
    have HBW := Lib.hid (HBA.out.trans hB4)
    have hcl : ∀ j z, (padS b)[j]? = some z → W4.cell? ⟨wr.heap.size, 0 + j, none⟩ = some (bv z) := by
     intro j z hj
     have := HG4.out
     rw [spliceS] at this
     rw [Nat.zero_add]
     simp only [World.cell?, this]
     simp [hj]
    have HCL := Lib.hid hcl; clear hcl HG4 hB4
    go_wp2_with (at_builtin; refine wp_append_byte rfl _ _ rfl W1.heap.size ?vv1 ((ps.take k).flatMap secR) ?hs1 ?own1 wr.heap.size 0 64 (padS b) 64 (padS_len b) rfl ?hc1 ?hl1 ?hb1 ?_)
    case hs1 => rfl
    case own1 => exact HOWN.out.gr (Gr.of HBW.out)
    case hc1 => exact HCL.out
    case hl1 => rw [padS_len]; omega
    case hb1 => exact Nat.le_trans hsz HBW.out.size
    intro v2 W5 a2
    have hown2 := a2.own
    have hb2 := Below.trans (below_trans HB.out HBW.out) a2.below
    clear a2
    go_wp2
    go_roundw
    case rel =>
     refine ⟨k + 1, by go_num, by omega, ?_, hb2⟩
     rw [HT.out, List.flatMap_append, List.flatMap_singleton, E2.out]
     exact hown2
    case measure => simp [intOf]; omega
   ·have e2 : secR y = List.replicate 64 0 := by
     rw [E1.out]
     cases so with
     | false => simp
     | true => have : ¬ b.length ≤ 64 := fun h => hgood ⟨rfl, h⟩; simp [this]
    have E2 := Lib.hid e2; clear e2
    have HBW := HBA
    have hcl : ∀ j z, (List.replicate 64 (0 : UInt8))[j]? = some z → W2.cell? ⟨wr.heap.size, 0 + j, none⟩ = some (bv z) := by
     intro j z hj
     rw [Nat.zero_add]
     simp only [World.cell?, HSEC.out]
     simp [z64_at j z hj]
    have HCL := Lib.hid hcl; clear hcl
    rcases Bool.eq_false_or_eq_true so with hso | hso
    ·subst hso
     have d1 : decide ((b.length : Int) ≤ 64) = false := decide_eq_false (by have h9 : ¬ b.length ≤ 64 := fun h => hgood ⟨rfl, h⟩; omega)
     go_wp2_with (at_builtin; refine wp_append_byte rfl _ _ rfl W1.heap.size ?vv2 ((ps.take k).flatMap secR) ?hs2 ?own2 wr.heap.size 0 64 (List.replicate 64 0) 64 (by simp) rfl ?hc2 ?hl2 ?hb2 ?_)
     case hs2 => rfl
     case own2 => exact HOWN.out.gr (Gr.of HBW.out)
     case hc2 => exact HCL.out
     case hl2 => simp only [List.length_replicate]; omega
     case hb2 => exact Nat.le_trans hsz HBW.out.size
     intro v2 W5 a2
     have hown2 := a2.own
     have hb2 := Below.trans (below_trans HB.out HBW.out) a2.below
     clear a2
     go_wp2
     go_roundw
     case rel =>
      refine ⟨k + 1, by go_num, by omega, ?_, hb2⟩
      rw [HT.out, List.flatMap_append, List.flatMap_singleton, E2.out]
      exact hown2
     case measure => simp [intOf]; omega
    ·subst hso
     go_wp2_with (at_builtin; refine wp_append_byte rfl _ _ rfl W1.heap.size ?vv3 ((ps.take k).flatMap secR) ?hs3 ?own3 wr.heap.size 0 64 (List.replicate 64 0) 64 (by simp) rfl ?hc3 ?hl3 ?hb3 ?_)
     case hs3 => rfl
     case own3 => exact HOWN.out.gr (Gr.of HBW.out)
     case hc3 => exact HCL.out
     case hl3 => simp only [List.length_replicate]; omega
     case hb3 => exact Nat.le_trans hsz HBW.out.size
     intro v2 W5 a2
     have hown2 := a2.own
     have hb2 := Below.trans (below_trans HB.out HBW.out) a2.below
     clear a2
     go_wp2
     go_roundw
     case rel =>
      refine ⟨k + 1, by go_num, by omega, ?_, hb2⟩
      rw [HT.out, List.flatMap_append, List.flatMap_singleton, E2.out]
      exact hown2
     case measure => simp [intOf]; omega
  ·have hkk : ps.take k = ps := List.take_of_length_le (by omega)
   have hown := HOWN.out
   rw [hkk] at hown
   clear hkk hfl htl
   go_wp2
   go_ret
   exact ⟨_, rfl, by rw [HD.out]; exact hown.more hsz1, HB1.out.trans (HB.out.mono hsz1)⟩
set_option maxRecDepth 100000 in
set_option maxHeartbeats 4000000 in
theorem ropText_1 (v s : Nat) (A : Option Addr) (q : Nat) (w : World) [hk : Tb w] (hv : v ≤ 4294967295) (hs : s ≤ 256) :
  Calls Tryz.prog 17 #[.agg #[.int .i64 1, .int .u64 v, .int .u64 0, .int .i64 s, .int .i64 0, .int .i64 0, .slice A 0 q]] w fun e w' => e = .returned (.string ⟨(opTextL 1 v 0 s 0 0 []).toArray⟩) ∧ Gr w w' := by
 have HTv := Lib.hid (fun W => text01_any v (by omega) W)
 have lv := dec_len v (by omega)
 have HTs := Lib.hid (fun W => text26_any s (by omega) W)
 have ls := dec_len s (by omega)
 go_enter Tryz.func17, Tryz.ntmps17
 go_upto_region 1 with fail
 go_cut [3] (fun u wx => u = .string ⟨#[99, 114, 101, 97, 116, 101]⟩ ∧ Gr w wx ∧ Tb wx ∧ BlockAt wx w.heap.size #[.int .i64 1, .int .u64 v, .int .u64 0, .int .i64 s, .int .i64 0, .int .i64 0, .slice A 0 q] 26)
 case first =>
  go_region_with ((go_at_call 45; refine (kinds_any _).mono ?_; rintro e w' ⟨rfl, rfl⟩))
  all_goals
   go_wp2_with fail
   go_meet
   case rel => exact ⟨rfl, gri, inferInstance, inferInstance⟩
 case rest =>
  obtain ⟨rfl, hg, htb, hblk⟩ := hcut
  have x0 : wc.cell? ⟨w.heap.size, 0, none⟩ = some (.int .i64 1) := (block_cells _ _ _ _ _).trans rfl
  have xv : wc.cell? ⟨w.heap.size, 1, none⟩ = some (.int .u64 v) := (block_cells _ _ _ _ _).trans rfl
  have xs : wc.cell? ⟨w.heap.size, 3, none⟩ = some (.int .i64 s) := (block_cells _ _ _ _ _).trans rfl
  have HG := Lib.hid hg; clear hg
  haveI : Old w.heap.size wc := hblk.old
  go_wp2_with (((first | (go_at_call 46; with_reducible refine (HTv.out _).mono ?_) | (go_at_call 47; with_reducible refine (HTs.out _).mono ?_)); rintro _ _ ⟨rfl, g, rfl⟩))
  go_ret
  have e : opPieces 1 v 0 s 0 0 [] = [⟨#[99, 114, 101, 97, 116, 101]⟩, ⟨(Lib.decDigits (v : Int).toNat).toArray⟩, ⟨(Lib.itoa (s : Int)).toArray⟩] := rfl
  have E : (⟨#[99, 114, 101, 97, 116, 101]⟩ ++ (⟨#[32]⟩ : ByteArray) ++ ⟨(Lib.decDigits v).toArray⟩ ++ (⟨#[32]⟩ : ByteArray) ++ ⟨(Lib.decDigits s).toArray⟩ : ByteArray) = ⟨(opTextL 1 v 0 s 0 0 []).toArray⟩ := by
   apply ByteArray.ext
   rw [opTextL, e]
   simp [join_two, join_one, Lib.itoa_nonneg]
  exact ⟨congrArg (fun z => Ending.returned (Value.string z)) E, HG.out.trans gri⟩
set_option maxRecDepth 100000 in
set_option maxHeartbeats 4000000 in
theorem ropText_2 (v : Nat) (A : Option Addr) (q : Nat) (w : World) [hk : Tb w] (hv : v ≤ 4294967295) :
  Calls Tryz.prog 17 #[.agg #[.int .i64 2, .int .u64 v, .int .u64 0, .int .i64 0, .int .i64 0, .int .i64 0, .slice A 0 q]] w fun e w' => e = .returned (.string ⟨(opTextL 2 v 0 0 0 0 []).toArray⟩) ∧ Gr w w' := by
 have HTv := Lib.hid (fun W => text01_any v (by omega) W)
 have lv := dec_len v (by omega)
 go_enter Tryz.func17, Tryz.ntmps17
 go_upto_region 1 with fail
 go_cut [3] (fun u wx => u = .string ⟨#[100, 101, 108, 101, 116, 101]⟩ ∧ Gr w wx ∧ Tb wx ∧ BlockAt wx w.heap.size #[.int .i64 2, .int .u64 v, .int .u64 0, .int .i64 0, .int .i64 0, .int .i64 0, .slice A 0 q] 26)
 case first =>
  go_region_with ((go_at_call 45; refine (kinds_any _).mono ?_; rintro e w' ⟨rfl, rfl⟩))
  all_goals
   go_wp2_with fail
   go_meet
   case rel => exact ⟨rfl, gri, inferInstance, inferInstance⟩
 case rest =>
  obtain ⟨rfl, hg, htb, hblk⟩ := hcut
  have x0 : wc.cell? ⟨w.heap.size, 0, none⟩ = some (.int .i64 2) := (block_cells _ _ _ _ _).trans rfl
  have xv : wc.cell? ⟨w.heap.size, 1, none⟩ = some (.int .u64 v) := (block_cells _ _ _ _ _).trans rfl
  have HG := Lib.hid hg; clear hg
  haveI : Old w.heap.size wc := hblk.old
  go_wp2_with ((go_at_call 46; ((with_reducible refine (HTv.out _).mono ?_); rintro _ _ ⟨rfl, g, rfl⟩)))
  go_ret
  have e : opPieces 2 v 0 0 0 0 [] = [⟨#[100, 101, 108, 101, 116, 101]⟩, ⟨(Lib.decDigits (v : Int).toNat).toArray⟩] := rfl
  have E : (⟨#[100, 101, 108, 101, 116, 101]⟩ ++ (⟨#[32]⟩ : ByteArray) ++ ⟨(Lib.decDigits v).toArray⟩ : ByteArray) = ⟨(opTextL 2 v 0 0 0 0 []).toArray⟩ := by
   apply ByteArray.ext
   rw [opTextL, e]
   simp [join_two, join_one, Lib.itoa_nonneg]
  exact ⟨congrArg (fun z => Ending.returned (Value.string z)) E, HG.out.trans gri⟩
set_option maxRecDepth 100000 in
set_option maxHeartbeats 4000000 in
theorem ropText_3 (v s : Nat) (A : Option Addr) (q : Nat) (w : World) [hk : Tb w] (hv : v ≤ 4294967295) (hs : s ≤ 256) :
  Calls Tryz.prog 17 #[.agg #[.int .i64 3, .int .u64 v, .int .u64 0, .int .i64 s, .int .i64 0, .int .i64 0, .slice A 0 q]] w fun e w' => e = .returned (.string ⟨(opTextL 3 v 0 s 0 0 []).toArray⟩) ∧ Gr w w' := by
 have HTv := Lib.hid (fun W => text01_any v (by omega) W)
 have lv := dec_len v (by omega)
 have HTs := Lib.hid (fun W => text26_any s (by omega) W)
 have ls := dec_len s (by omega)
 go_enter Tryz.func17, Tryz.ntmps17
 go_upto_region 1 with fail
 go_cut [3] (fun u wx => u = .string ⟨#[114, 101, 115, 105, 122, 101]⟩ ∧ Gr w wx ∧ Tb wx ∧ BlockAt wx w.heap.size #[.int .i64 3, .int .u64 v, .int .u64 0, .int .i64 s, .int .i64 0, .int .i64 0, .slice A 0 q] 26)
 case first =>
  go_region_with ((go_at_call 45; refine (kinds_any _).mono ?_; rintro e w' ⟨rfl, rfl⟩))
  all_goals
   go_wp2_with fail
   go_meet
   case rel => exact ⟨rfl, gri, inferInstance, inferInstance⟩
 case rest =>
  obtain ⟨rfl, hg, htb, hblk⟩ := hcut
  have x0 : wc.cell? ⟨w.heap.size, 0, none⟩ = some (.int .i64 3) := (block_cells _ _ _ _ _).trans rfl
  have xv : wc.cell? ⟨w.heap.size, 1, none⟩ = some (.int .u64 v) := (block_cells _ _ _ _ _).trans rfl
  have xs : wc.cell? ⟨w.heap.size, 3, none⟩ = some (.int .i64 s) := (block_cells _ _ _ _ _).trans rfl
  have HG := Lib.hid hg; clear hg
  haveI : Old w.heap.size wc := hblk.old
  go_wp2_with (((first | (go_at_call 46; with_reducible refine (HTv.out _).mono ?_) | (go_at_call 47; with_reducible refine (HTs.out _).mono ?_)); rintro _ _ ⟨rfl, g, rfl⟩))
  go_ret
  have e : opPieces 3 v 0 s 0 0 [] = [⟨#[114, 101, 115, 105, 122, 101]⟩, ⟨(Lib.decDigits (v : Int).toNat).toArray⟩, ⟨(Lib.itoa (s : Int)).toArray⟩] := rfl
  have E : (⟨#[114, 101, 115, 105, 122, 101]⟩ ++ (⟨#[32]⟩ : ByteArray) ++ ⟨(Lib.decDigits v).toArray⟩ ++ (⟨#[32]⟩ : ByteArray) ++ ⟨(Lib.decDigits s).toArray⟩ : ByteArray) = ⟨(opTextL 3 v 0 s 0 0 []).toArray⟩ := by
   apply ByteArray.ext
   rw [opTextL, e]
   simp [join_two, join_one, Lib.itoa_nonneg]
  exact ⟨congrArg (fun z => Ending.returned (Value.string z)) E, HG.out.trans gri⟩
set_option maxRecDepth 100000 in
set_option maxHeartbeats 4000000 in
theorem ropText_4 (v t : Nat) (A : Option Addr) (q : Nat) (w : World) [hk : Tb w] (hv : v ≤ 4294967295) (ht : t ≤ 4294967295) :
  Calls Tryz.prog 17 #[.agg #[.int .i64 4, .int .u64 v, .int .u64 t, .int .i64 0, .int .i64 0, .int .i64 0, .slice A 0 q]] w fun e w' => e = .returned (.string ⟨(opTextL 4 v t 0 0 0 []).toArray⟩) ∧ Gr w w' := by
 have HTv := Lib.hid (fun W => text01_any v (by omega) W)
 have lv := dec_len v (by omega)
 have HTt := Lib.hid (fun W => text01_any t (by omega) W)
 have lt := dec_len t (by omega)
 go_enter Tryz.func17, Tryz.ntmps17
 go_upto_region 1 with fail
 go_cut [3] (fun u wx => u = .string ⟨#[115, 110, 97, 112]⟩ ∧ Gr w wx ∧ Tb wx ∧ BlockAt wx w.heap.size #[.int .i64 4, .int .u64 v, .int .u64 t, .int .i64 0, .int .i64 0, .int .i64 0, .slice A 0 q] 26)
 case first =>
  go_region_with ((go_at_call 45; refine (kinds_any _).mono ?_; rintro e w' ⟨rfl, rfl⟩))
  all_goals
   go_wp2_with fail
   go_meet
   case rel => exact ⟨rfl, gri, inferInstance, inferInstance⟩
 case rest =>
  obtain ⟨rfl, hg, htb, hblk⟩ := hcut
  have x0 : wc.cell? ⟨w.heap.size, 0, none⟩ = some (.int .i64 4) := (block_cells _ _ _ _ _).trans rfl
  have xv : wc.cell? ⟨w.heap.size, 1, none⟩ = some (.int .u64 v) := (block_cells _ _ _ _ _).trans rfl
  have xt : wc.cell? ⟨w.heap.size, 2, none⟩ = some (.int .u64 t) := (block_cells _ _ _ _ _).trans rfl
  have HG := Lib.hid hg; clear hg
  haveI : Old w.heap.size wc := hblk.old
  go_wp2_with (((first | (go_at_call 46; with_reducible refine (HTv.out _).mono ?_) | (go_at_call 46; with_reducible refine (HTt.out _).mono ?_)); rintro _ _ ⟨rfl, g, rfl⟩))
  go_ret
  have e : opPieces 4 v t 0 0 0 [] = [⟨#[115, 110, 97, 112]⟩, ⟨(Lib.decDigits (v : Int).toNat).toArray⟩, ⟨(Lib.decDigits (t : Int).toNat).toArray⟩] := rfl
  have E : (⟨#[115, 110, 97, 112]⟩ ++ (⟨#[32]⟩ : ByteArray) ++ ⟨(Lib.decDigits v).toArray⟩ ++ (⟨#[32]⟩ : ByteArray) ++ ⟨(Lib.decDigits t).toArray⟩ : ByteArray) = ⟨(opTextL 4 v t 0 0 0 []).toArray⟩ := by
   apply ByteArray.ext
   rw [opTextL, e]
   simp [join_two, join_one, Lib.itoa_nonneg]
  exact ⟨congrArg (fun z => Ending.returned (Value.string z)) E, HG.out.trans gri⟩
set_option maxRecDepth 100000 in
set_option maxHeartbeats 4000000 in
theorem ropText_5 (v a : Nat) (A : Option Addr) (q : Nat) (d : List UInt8) (w : World) [hk : Tb w] (hv : v ≤ 4294967295) (ha : a ≤ 1048576) (hd : d.length ≤ 2048) (hq : d.length ≤ q) (hr : Row bv w A d) :
  Calls Tryz.prog 17 #[.agg #[.int .i64 5, .int .u64 v, .int .u64 0, .int .i64 0, .int .i64 a, .int .i64 0, .slice A d.length q]] w fun e w' => e = .returned (.string ⟨(opTextL 5 v 0 0 a 0 d).toArray⟩) ∧ Gr w w' := by
 have HTv := Lib.hid (fun W => text01_any v (by omega) W)
 have lv := dec_len v (by omega)
 have HTa := Lib.hid (fun W => text26_any a (by omega) W)
 have la := dec_len a (by omega)
 have HR := Lib.hid hr; clear hr
 have HTd := Lib.hid (fun W (hW : Gr w W) => rdata_any A d.length q d W rfl hq (by omega) (HR.out.gr hW))
 have ld := dataL_len d (by omega)
 go_enter Tryz.func17, Tryz.ntmps17
 go_upto_region 1 with fail
 go_cut [3] (fun u wx => u = .string ⟨#[119, 114, 105, 116, 101]⟩ ∧ Gr w wx ∧ Tb wx ∧ BlockAt wx w.heap.size #[.int .i64 5, .int .u64 v, .int .u64 0, .int .i64 0, .int .i64 a, .int .i64 0, .slice A d.length q] 26)
 case first =>
  go_region_with ((go_at_call 45; refine (kinds_any _).mono ?_; rintro e w' ⟨rfl, rfl⟩))
  all_goals
   go_wp2_with fail
   go_meet
   case rel => exact ⟨rfl, gri, inferInstance, inferInstance⟩
 case rest =>
  obtain ⟨rfl, hg, htb, hblk⟩ := hcut
  have x0 : wc.cell? ⟨w.heap.size, 0, none⟩ = some (.int .i64 5) := (block_cells _ _ _ _ _).trans rfl
  have xv : wc.cell? ⟨w.heap.size, 1, none⟩ = some (.int .u64 v) := (block_cells _ _ _ _ _).trans rfl
  have xa : wc.cell? ⟨w.heap.size, 4, none⟩ = some (.int .i64 a) := (block_cells _ _ _ _ _).trans rfl
  have xd : wc.cell? ⟨w.heap.size, 6, none⟩ = some (.slice A d.length q) := (block_cells _ _ _ _ _).trans rfl
  have HG := Lib.hid hg; clear hg
  haveI : Old w.heap.size wc := hblk.old
  haveI : GrC wc wc := inferInstance
  have HTe := Lib.hid (fun W (hW : GrC wc W) => HTd.out W (HG.out.trans (Gr.of hW.b)))
  go_wp2_with (((first | (go_at_call 46; with_reducible refine (HTv.out _).mono ?_) | (go_at_call 47; with_reducible refine (HTa.out _).mono ?_)); rintro _ _ ⟨rfl, g, rfl⟩))
  refine wp_region_grow (by kernel_rfl) (by kernel_rfl) ?_
  repeat (go_big_quiet_step ((first | (go_at_call 47; with_reducible exact grow_call (HTa.out _)) | (go_at_call 48; with_reducible exact grow_call (HTe.out _ inferInstance)))))
  refine wpQuiet_nil ?_
  intro g9
  go_wp2
  go_ret
  have e : opPieces 5 v 0 0 a 0 d = [⟨#[119, 114, 105, 116, 101]⟩, ⟨(Lib.decDigits (v : Int).toNat).toArray⟩, ⟨(Lib.itoa (a : Int)).toArray⟩, ⟨(dataL d).toArray⟩] := rfl
  have E : (⟨#[119, 114, 105, 116, 101]⟩ ++ (⟨#[32]⟩ : ByteArray) ++ ⟨(Lib.decDigits v).toArray⟩ ++ (⟨#[32]⟩ : ByteArray) ++ ⟨(Lib.decDigits a).toArray⟩ ++ (⟨#[32]⟩ : ByteArray) ++ ⟨(dataL d).toArray⟩ : ByteArray) = ⟨(opTextL 5 v 0 0 a 0 d).toArray⟩ := by
   apply ByteArray.ext
   rw [opTextL, e]
   simp [join_two, join_one, Lib.itoa_nonneg]
  exact ⟨congrArg (fun z => Ending.returned (Value.string z)) E, HG.out.trans gri⟩
set_option maxRecDepth 100000 in
set_option maxHeartbeats 4000000 in
theorem ropText_6 (v a c : Nat) (A : Option Addr) (q : Nat) (w : World) [hk : Tb w] (hv : v ≤ 4294967295) (ha : a ≤ 1048576) (hc : c ≤ 1024) :
  Calls Tryz.prog 17 #[.agg #[.int .i64 6, .int .u64 v, .int .u64 0, .int .i64 0, .int .i64 a, .int .i64 c, .slice A 0 q]] w fun e w' => e = .returned (.string ⟨(opTextL 6 v 0 0 a c []).toArray⟩) ∧ Gr w w' := by
 have HTv := Lib.hid (fun W => text01_any v (by omega) W)
 have lv := dec_len v (by omega)
 have HTa := Lib.hid (fun W => text26_any a (by omega) W)
 have la := dec_len a (by omega)
 have HTc := Lib.hid (fun W => text26_any c (by omega) W)
 have lc := dec_len c (by omega)
 go_enter Tryz.func17, Tryz.ntmps17
 go_upto_region 1 with fail
 go_cut [3] (fun u wx => u = .string ⟨#[122, 101, 114, 111]⟩ ∧ Gr w wx ∧ Tb wx ∧ BlockAt wx w.heap.size #[.int .i64 6, .int .u64 v, .int .u64 0, .int .i64 0, .int .i64 a, .int .i64 c, .slice A 0 q] 26)
 case first =>
  go_region_with ((go_at_call 45; refine (kinds_any _).mono ?_; rintro e w' ⟨rfl, rfl⟩))
  all_goals
   go_wp2_with fail
   go_meet
   case rel => exact ⟨rfl, gri, inferInstance, inferInstance⟩
 case rest =>
  obtain ⟨rfl, hg, htb, hblk⟩ := hcut
  have x0 : wc.cell? ⟨w.heap.size, 0, none⟩ = some (.int .i64 6) := (block_cells _ _ _ _ _).trans rfl
  have xv : wc.cell? ⟨w.heap.size, 1, none⟩ = some (.int .u64 v) := (block_cells _ _ _ _ _).trans rfl
  have xa : wc.cell? ⟨w.heap.size, 4, none⟩ = some (.int .i64 a) := (block_cells _ _ _ _ _).trans rfl
  have xc : wc.cell? ⟨w.heap.size, 5, none⟩ = some (.int .i64 c) := (block_cells _ _ _ _ _).trans rfl
  have HG := Lib.hid hg; clear hg
  haveI : Old w.heap.size wc := hblk.old
  go_wp2_with (((first | (go_at_call 46; with_reducible refine (HTv.out _).mono ?_) | (go_at_call 47; with_reducible refine (HTa.out _).mono ?_) | (go_at_call 47; with_reducible refine (HTc.out _).mono ?_)); rintro _ _ ⟨rfl, g, rfl⟩))
  refine wp_region_grow (by kernel_rfl) (by kernel_rfl) ?_
  repeat (go_big_quiet_step ((first | (go_at_call 47; with_reducible exact grow_call (HTa.out _)) | (go_at_call 47; with_reducible exact grow_call (HTc.out _)))))
  refine wpQuiet_nil ?_
  intro g9
  go_wp2
  go_ret
  have e : opPieces 6 v 0 0 a c [] = [⟨#[122, 101, 114, 111]⟩, ⟨(Lib.decDigits (v : Int).toNat).toArray⟩, ⟨(Lib.itoa (a : Int)).toArray⟩, ⟨(Lib.itoa (c : Int)).toArray⟩] := rfl
  have E : (⟨#[122, 101, 114, 111]⟩ ++ (⟨#[32]⟩ : ByteArray) ++ ⟨(Lib.decDigits v).toArray⟩ ++ (⟨#[32]⟩ : ByteArray) ++ ⟨(Lib.decDigits a).toArray⟩ ++ (⟨#[32]⟩ : ByteArray) ++ ⟨(Lib.decDigits c).toArray⟩ : ByteArray) = ⟨(opTextL 6 v 0 0 a c []).toArray⟩ := by
   apply ByteArray.ext
   rw [opTextL, e]
   simp [join_two, join_one, Lib.itoa_nonneg]
  exact ⟨congrArg (fun z => Ending.returned (Value.string z)) E, HG.out.trans gri⟩
set_option maxRecDepth 100000 in
set_option maxHeartbeats 4000000 in
theorem ropText_7 (v a c : Nat) (A : Option Addr) (q : Nat) (w : World) [hk : Tb w] (hv : v ≤ 4294967295) (ha : a ≤ 1048576) (hc : c ≤ 1024) :
  Calls Tryz.prog 17 #[.agg #[.int .i64 7, .int .u64 v, .int .u64 0, .int .i64 0, .int .i64 a, .int .i64 c, .slice A 0 q]] w fun e w' => e = .returned (.string ⟨(opTextL 7 v 0 0 a c []).toArray⟩) ∧ Gr w w' := by
 have HTv := Lib.hid (fun W => text01_any v (by omega) W)
 have lv := dec_len v (by omega)
 have HTa := Lib.hid (fun W => text26_any a (by omega) W)
 have la := dec_len a (by omega)
 have HTc := Lib.hid (fun W => text26_any c (by omega) W)
 have lc := dec_len c (by omega)
 go_enter Tryz.func17, Tryz.ntmps17
 go_upto_region 1 with fail
 go_cut [3] (fun u wx => u = .string ⟨#[100, 105, 115, 99, 97, 114, 100]⟩ ∧ Gr w wx ∧ Tb wx ∧ BlockAt wx w.heap.size #[.int .i64 7, .int .u64 v, .int .u64 0, .int .i64 0, .int .i64 a, .int .i64 c, .slice A 0 q] 26)
 case first =>
  go_region_with ((go_at_call 45; refine (kinds_any _).mono ?_; rintro e w' ⟨rfl, rfl⟩))
  all_goals
   go_wp2_with fail
   go_meet
   case rel => exact ⟨rfl, gri, inferInstance, inferInstance⟩
 case rest =>
  obtain ⟨rfl, hg, htb, hblk⟩ := hcut
  have x0 : wc.cell? ⟨w.heap.size, 0, none⟩ = some (.int .i64 7) := (block_cells _ _ _ _ _).trans rfl
  have xv : wc.cell? ⟨w.heap.size, 1, none⟩ = some (.int .u64 v) := (block_cells _ _ _ _ _).trans rfl
  have xa : wc.cell? ⟨w.heap.size, 4, none⟩ = some (.int .i64 a) := (block_cells _ _ _ _ _).trans rfl
  have xc : wc.cell? ⟨w.heap.size, 5, none⟩ = some (.int .i64 c) := (block_cells _ _ _ _ _).trans rfl
  have HG := Lib.hid hg; clear hg
  haveI : Old w.heap.size wc := hblk.old
  go_wp2_with (((first | (go_at_call 46; with_reducible refine (HTv.out _).mono ?_) | (go_at_call 47; with_reducible refine (HTa.out _).mono ?_) | (go_at_call 47; with_reducible refine (HTc.out _).mono ?_)); rintro _ _ ⟨rfl, g, rfl⟩))
  refine wp_region_grow (by kernel_rfl) (by kernel_rfl) ?_
  repeat (go_big_quiet_step ((first | (go_at_call 47; with_reducible exact grow_call (HTa.out _)) | (go_at_call 47; with_reducible exact grow_call (HTc.out _)))))
  refine wpQuiet_nil ?_
  intro g9
  go_wp2
  go_ret
  have e : opPieces 7 v 0 0 a c [] = [⟨#[100, 105, 115, 99, 97, 114, 100]⟩, ⟨(Lib.decDigits (v : Int).toNat).toArray⟩, ⟨(Lib.itoa (a : Int)).toArray⟩, ⟨(Lib.itoa (c : Int)).toArray⟩] := rfl
  have E : (⟨#[100, 105, 115, 99, 97, 114, 100]⟩ ++ (⟨#[32]⟩ : ByteArray) ++ ⟨(Lib.decDigits v).toArray⟩ ++ (⟨#[32]⟩ : ByteArray) ++ ⟨(Lib.decDigits a).toArray⟩ ++ (⟨#[32]⟩ : ByteArray) ++ ⟨(Lib.decDigits c).toArray⟩ : ByteArray) = ⟨(opTextL 7 v 0 0 a c []).toArray⟩ := by
   apply ByteArray.ext
   rw [opTextL, e]
   simp [join_two, join_one, Lib.itoa_nonneg]
  exact ⟨congrArg (fun z => Ending.returned (Value.string z)) E, HG.out.trans gri⟩
set_option maxRecDepth 100000 in
set_option maxHeartbeats 4000000 in
theorem ropText_8 (A : Option Addr) (q : Nat) (w : World) [hk : Tb w]  :
  Calls Tryz.prog 17 #[.agg #[.int .i64 8, .int .u64 0, .int .u64 0, .int .i64 0, .int .i64 0, .int .i64 0, .slice A 0 q]] w fun e w' => e = .returned (.string ⟨(opTextL 8 0 0 0 0 0 []).toArray⟩) ∧ Gr w w' := by
 go_enter Tryz.func17, Tryz.ntmps17
 go_upto_region 1 with fail
 go_cut [3] (fun u wx => u = .string ⟨#[102, 108, 117, 115, 104]⟩ ∧ Gr w wx ∧ Tb wx ∧ BlockAt wx w.heap.size #[.int .i64 8, .int .u64 0, .int .u64 0, .int .i64 0, .int .i64 0, .int .i64 0, .slice A 0 q] 26)
 case first =>
  go_region_with ((go_at_call 45; refine (kinds_any _).mono ?_; rintro e w' ⟨rfl, rfl⟩))
  all_goals
   go_wp2_with fail
   go_meet
   case rel => exact ⟨rfl, gri, inferInstance, inferInstance⟩
 case rest =>
  obtain ⟨rfl, hg, htb, hblk⟩ := hcut
  have x0 : wc.cell? ⟨w.heap.size, 0, none⟩ = some (.int .i64 8) := (block_cells _ _ _ _ _).trans rfl
  have HG := Lib.hid hg; clear hg
  haveI : Old w.heap.size wc := hblk.old
  go_wp2
  go_ret
  have e : opPieces 8 0 0 0 0 0 [] = [⟨#[102, 108, 117, 115, 104]⟩] := rfl
  have E : (⟨#[102, 108, 117, 115, 104]⟩ : ByteArray) = ⟨(opTextL 8 0 0 0 0 0 []).toArray⟩ := by
   apply ByteArray.ext
   rw [opTextL, e]
   simp [join_two, join_one, Lib.itoa_nonneg]
  exact ⟨congrArg (fun z => Ending.returned (Value.string z)) E, HG.out.trans gri⟩
set_option maxRecDepth 100000 in
set_option maxHeartbeats 4000000 in
theorem ropText_9 (v a c : Nat) (A : Option Addr) (q : Nat) (w : World) [hk : Tb w] (hv : v ≤ 4294967295) (ha : a ≤ 1048576) (hc : c ≤ 1024) :
  Calls Tryz.prog 17 #[.agg #[.int .i64 9, .int .u64 v, .int .u64 0, .int .i64 0, .int .i64 a, .int .i64 c, .slice A 0 q]] w fun e w' => e = .returned (.string ⟨(opTextL 9 v 0 0 a c []).toArray⟩) ∧ Gr w w' := by
 have HTv := Lib.hid (fun W => text01_any v (by omega) W)
 have lv := dec_len v (by omega)
 have HTa := Lib.hid (fun W => text26_any a (by omega) W)
 have la := dec_len a (by omega)
 have HTc := Lib.hid (fun W => text26_any c (by omega) W)
 have lc := dec_len c (by omega)
 go_enter Tryz.func17, Tryz.ntmps17
 go_upto_region 1 with fail
 go_cut [3] (fun u wx => u = .string ⟨#[114, 101, 97, 100]⟩ ∧ Gr w wx ∧ Tb wx ∧ BlockAt wx w.heap.size #[.int .i64 9, .int .u64 v, .int .u64 0, .int .i64 0, .int .i64 a, .int .i64 c, .slice A 0 q] 26)
 case first =>
  go_region_with ((go_at_call 45; refine (kinds_any _).mono ?_; rintro e w' ⟨rfl, rfl⟩))
  all_goals
   go_wp2_with fail
   go_meet
   case rel => exact ⟨rfl, gri, inferInstance, inferInstance⟩
 case rest =>
  obtain ⟨rfl, hg, htb, hblk⟩ := hcut
  have x0 : wc.cell? ⟨w.heap.size, 0, none⟩ = some (.int .i64 9) := (block_cells _ _ _ _ _).trans rfl
  have xv : wc.cell? ⟨w.heap.size, 1, none⟩ = some (.int .u64 v) := (block_cells _ _ _ _ _).trans rfl
  have xa : wc.cell? ⟨w.heap.size, 4, none⟩ = some (.int .i64 a) := (block_cells _ _ _ _ _).trans rfl
  have xc : wc.cell? ⟨w.heap.size, 5, none⟩ = some (.int .i64 c) := (block_cells _ _ _ _ _).trans rfl
  have HG := Lib.hid hg; clear hg
  haveI : Old w.heap.size wc := hblk.old
  go_wp2_with (((first | (go_at_call 46; with_reducible refine (HTv.out _).mono ?_) | (go_at_call 47; with_reducible refine (HTa.out _).mono ?_) | (go_at_call 47; with_reducible refine (HTc.out _).mono ?_)); rintro _ _ ⟨rfl, g, rfl⟩))
  refine wp_region_grow (by kernel_rfl) (by kernel_rfl) ?_
  repeat (go_big_quiet_step ((first | (go_at_call 47; with_reducible exact grow_call (HTa.out _)) | (go_at_call 47; with_reducible exact grow_call (HTc.out _)))))
  refine wpQuiet_nil ?_
  intro g9
  go_wp2
  go_ret
  have e : opPieces 9 v 0 0 a c [] = [⟨#[114, 101, 97, 100]⟩, ⟨(Lib.decDigits (v : Int).toNat).toArray⟩, ⟨(Lib.itoa (a : Int)).toArray⟩, ⟨(Lib.itoa (c : Int)).toArray⟩] := rfl
  have E : (⟨#[114, 101, 97, 100]⟩ ++ (⟨#[32]⟩ : ByteArray) ++ ⟨(Lib.decDigits v).toArray⟩ ++ (⟨#[32]⟩ : ByteArray) ++ ⟨(Lib.decDigits a).toArray⟩ ++ (⟨#[32]⟩ : ByteArray) ++ ⟨(Lib.decDigits c).toArray⟩ : ByteArray) = ⟨(opTextL 9 v 0 0 a c []).toArray⟩ := by
   apply ByteArray.ext
   rw [opTextL, e]
   simp [join_two, join_one, Lib.itoa_nonneg]
  exact ⟨congrArg (fun z => Ending.returned (Value.string z)) E, HG.out.trans gri⟩
theorem names13_any (k : Int) (w : World) : Calls Tryz.prog 93 #[.int .i64 k] w fun e w' => e = .returned (.string (namesB k)) ∧ Gr w w' := by
 by_cases h1 : k < 1 ∨ 9 < k
 ·have e0 := namesB_off k (by omega)
  have n1 : (k == 1) = false := by simp; omega
  have n2 : (k == 2) = false := by simp; omega
  have n3 : (k == 3) = false := by simp; omega
  have n4 : (k == 4) = false := by simp; omega
  have n5 : (k == 5) = false := by simp; omega
  have n6 : (k == 6) = false := by simp; omega
  have n7 : (k == 7) = false := by simp; omega
  have n9 : (k == 9) = false := by simp; omega
  have e := Lib.hid e0; clear e0 h1
  go_enter Tryz.func93, Tryz.ntmps93
  go_wp2
  go_ret
  exact ⟨by rw [e.out]; rfl, gri⟩
 have h3 : k = 1 ∨ k = 2 ∨ k = 3 ∨ k = 4 ∨ k = 5 ∨ k = 6 ∨ k = 7 ∨ k = 8 ∨ k = 9 := by omega
 clear h1
 rcases h3 with rfl | rfl | rfl | rfl | rfl | rfl | rfl | rfl | rfl
 all_goals
  go_enter Tryz.func93, Tryz.ntmps93
  go_wp2
  go_ret
  exact ⟨rfl, gri⟩
def hasB (k : Int) (c : UInt8) : Bool := (namesB k).data.toList.contains c
theorem any_take_no (l : List UInt8) (c : UInt8) (k : Nat) (hk : k = l.length) (h : ∀ j, j < k → l.getD j 0 ≠ c) : l.contains c = false := by
 subst hk
 rw [List.contains_eq_any_beq, List.any_eq_false]
 intro x hx
 obtain ⟨i, hi, rfl⟩ := List.mem_iff_getElem.1 hx
 have := h i hi
 rw [List.getD_eq_getElem?_getD, List.getElem?_eq_getElem hi] at this
 simpa using fun h => this h.symm
theorem namesB_len (k : Int) : (namesB k).size ≤ 3 := by
 unfold namesB
 repeat' split
 all_goals decide
set_option maxHeartbeats 2000000 in
theorem has13_any (k : Int) (c : UInt8) (w : World) : Calls Tryz.prog 44 #[.int .i64 k, .int .u8 c.toNat] w fun e w' => e = .returned (.bool (hasB k c)) ∧ Gr w w' := by
 have hlen := namesB_len k
 have HN := Lib.hid (fun W => names13_any k W)
 have hq : hasB k c = (namesB k).data.toList.contains c := rfl
 have HQ := Lib.hid hq; clear hq
 generalize namesB k = s at *
 have hL : s.data.toList.length = s.size := (Lib.size_eq s).symm
 have HL := Lib.hid hL; clear hL
 go_enter Tryz.func44, Tryz.ntmps44
 go_wp2_with ((go_at_call 93; ((with_reducible refine (HN.out _).mono ?_); rintro _ _ ⟨rfl, g, rfl⟩)))
 go_loopw [6] (fun i wr => ∃ j : Nat, i = .int .i64 j ∧ j ≤ s.size ∧ Hid (∀ i, i < j → s.data.toList.getD i 0 ≠ c) ∧ Gr w wr) (fun i _ => s.size - (intOf i).toNat)
 case atStart => exact ⟨0, rfl, Nat.zero_le _, Lib.hid (fun j hj => by omega), gri⟩
 case round =>
  obtain ⟨j, rfl, hj, hne, hg⟩ := hrel
  have HG := Lib.hid hg; clear hg
  by_cases hlt : j < s.size
  ·have hx : s.data.toList.getD j 0 = s[j]'hlt := by
    rw [List.getD_eq_getElem?_getD, List.getElem?_eq_getElem (by have := HL.out; omega)]; rfl
   have HX := Lib.hid hx; clear hx
   by_cases hc : (s[j]'hlt).toNat = c.toNat
   ·have h1 : (((s[j]'hlt).toNat : Int) == (c.toNat : Int)) = true := by simp [hc]
    have hcc : s.data.toList.contains c = true := by
     have e1 : s[j]'hlt = c := UInt8.toNat_inj.1 hc
     rw [List.contains_iff_mem, ← e1]
     exact List.getElem_mem (l := s.data.toList) (by have := HL.out; omega)
    have HC := Lib.hid hcc; clear hcc hc
    go_wp2
    go_ret
    exact ⟨ret_bool (by rw [HQ.out, HC.out]), HG.out⟩
   ·have h1 : (((s[j]'hlt).toNat : Int) == (c.toNat : Int)) = false := by simp; exact fun h => hc (by exact_mod_cast h)
    have hcc : s.data.toList.getD j 0 ≠ c := by rw [HX.out]; exact fun h => hc (by rw [h])
    have HC := Lib.hid hcc; clear hcc hc
    go_wp2
    go_roundw
    case rel => exact ⟨j + 1, by go_num, by omega, Lib.hid (fun i hi => by
     rcases Nat.lt_or_ge i j with h | h
     ·exact hne.out i h
     ·obtain rfl : i = j := by omega
      exact HC.out), HG.out⟩
    case measure => simp [intOf]; omega
  ·obtain rfl : j = s.size := by omega
   have hcc : s.data.toList.contains c = false := any_take_no _ _ _ HL.out.symm hne.out
   have HC := Lib.hid hcc; clear hcc
   go_wp2
   go_ret
   exact ⟨ret_bool (by rw [HQ.out, HC.out]), HG.out⟩
def inB (named : Bool) (least n most : Int) : Bool := if named then decide (least ≤ n) && decide (n ≤ most) else n == 0
theorem in13_any (named : Bool) (least n most : Int) (w : World) : Calls Tryz.prog 43 #[.bool named, .int .i64 least, .int .i64 n, .int .i64 most] w fun e w' => e = .returned (.bool (inB named least n most)) ∧ Gr w w' := by
 cases named
 ·go_enter Tryz.func43, Tryz.ntmps43
  go_wp2
  go_ret
  exact ⟨ret_bool (by simp [inB]), gri⟩
 ·rcases Bool.eq_false_or_eq_true (decide (least ≤ n)) with h | h
  ·go_enter Tryz.func43, Tryz.ntmps43
   go_wp2
   go_ret
   exact ⟨ret_bool (by simp [inB, h]), gri⟩
  ·go_enter Tryz.func43, Tryz.ntmps43
   go_wp2
   go_ret
   exact ⟨ret_bool (by simp [inB, h]), gri⟩
theorem much13_any (xk xv xt xs xa xc : Int) (xD : Option Addr) (xn xq : Nat) (w : World) : Calls Tryz.prog 8 #[(Value.agg #[.int .i64 xk, .int .u64 xv, .int .u64 xt, .int .i64 xs, .int .i64 xa, .int .i64 xc, .slice xD xn xq])] w fun e w' => e = .returned (.bool (decide (9000 < xn))) ∧ Gr w w' := by
 go_enter Tryz.func8, Tryz.ntmps8
 go_wp2
 go_ret
 exact ⟨ret_bool (by first | rfl | (rw [Bool.eq_iff_iff]; simp; omega)), gri⟩
theorem has13_v (k : Int) (w : World) : Calls Tryz.prog 44 #[.int .i64 k, .int .u8 118] w fun e w' => e = .returned (.bool (hasB k 118)) ∧ Gr w w' := has13_any k 118 w
theorem has13_t (k : Int) (w : World) : Calls Tryz.prog 44 #[.int .i64 k, .int .u8 116] w fun e w' => e = .returned (.bool (hasB k 116)) ∧ Gr w w' := has13_any k 116 w
theorem has13_s (k : Int) (w : World) : Calls Tryz.prog 44 #[.int .i64 k, .int .u8 115] w fun e w' => e = .returned (.bool (hasB k 115)) ∧ Gr w w' := has13_any k 115 w
theorem has13_a (k : Int) (w : World) : Calls Tryz.prog 44 #[.int .i64 k, .int .u8 97] w fun e w' => e = .returned (.bool (hasB k 97)) ∧ Gr w w' := has13_any k 97 w
theorem has13_c (k : Int) (w : World) : Calls Tryz.prog 44 #[.int .i64 k, .int .u8 99] w fun e w' => e = .returned (.bool (hasB k 99)) ∧ Gr w w' := has13_any k 99 w
theorem has13_d (k : Int) (w : World) : Calls Tryz.prog 44 #[.int .i64 k, .int .u8 100] w fun e w' => e = .returned (.bool (hasB k 100)) ∧ Gr w w' := has13_any k 100 w
structure HasC (k : Int) (c : Int) (p : Bool) : Prop where
 c : ∀ W, Calls Tryz.prog 44 #[.int .i64 k, .int .u8 c] W fun e w' => e = .returned (.bool p) ∧ Gr W w'
structure InC (p : Bool) (least n most : Int) (b : Bool) : Prop where
 c : ∀ W, Calls Tryz.prog 43 #[.bool p, .int .i64 least, .int .i64 n, .int .i64 most] W fun e w' => e = .returned (.bool b) ∧ Gr W w'
set_option maxRecDepth 100000 in
set_option maxHeartbeats 4000000 in
theorem may13_early (k v t s a c : Int) (D : Option Addr) (n q : Nat) (w : World) (h : k < 1 ∨ 9 < k ∨ 4294967295 < v ∨ 4294967295 < t) : Calls Tryz.prog 16 #[(Value.agg #[.int .i64 k, .int .u64 v, .int .u64 t, .int .i64 s, .int .i64 a, .int .i64 c, .slice D n q])] w fun e w' => e = .returned (.bool false) ∧ Gr w w' := by
 by_cases h1 : k < 1
 ·go_enter Tryz.func16, Tryz.ntmps16
  go_wp2
  go_ret
  exact ⟨rfl, gri⟩
 have b1 : decide (k < 1) = false := by simpa using h1
 by_cases h2 : 9 < k
 ·clear h1
  go_enter Tryz.func16, Tryz.ntmps16
  go_wp2
  go_ret
  exact ⟨rfl, gri⟩
 have b2 : decide (9 < k) = false := by simpa using h2
 by_cases h3 : 4294967295 < v
 ·clear h1 h2
  go_enter Tryz.func16, Tryz.ntmps16
  go_wp2
  go_ret
  exact ⟨rfl, gri⟩
 have b3 : decide (4294967295 < v) = false := by simpa using h3
 have h4 : 4294967295 < t := by omega
 clear h h1 h2 h3
 go_enter Tryz.func16, Tryz.ntmps16
 go_wp2
 go_ret
 exact ⟨rfl, gri⟩
set_option maxRecDepth 100000 in
set_option maxHeartbeats 8000000 in
theorem may13_core (k v t s a c : Int) (D : Option Addr) (n q : Nat) (w : World) (pv pt ps pa pc pd A1 A2 B1 B2 B3 C2 : Bool) (hv : HasC k 118 pv) (ht : HasC k 116 pt) (hs : HasC k 115 ps) (ha : HasC k 97 pa) (hc : HasC k 99 pc) (hd : HasC k 100 pd) (hA1 : InC pv 1 v 4294967295 A1) (hA2 : InC pt 1 t 4294967295 A2) (hB1 : InC ps 0 s 256 B1) (hB2 : InC pa 0 a 1048576 B2) (hB3 : InC pc 1 c 1024 B3) (hC2 : InC pd 1 ((n : Int) / 64) 32 C2) (k1 : 1 ≤ k) (k9 : k ≤ 9) (v0 : 0 ≤ v) (v1 : v ≤ 4294967295) (t0 : 0 ≤ t) (t1 : t ≤ 4294967295) (hn : n ≤ 9223372036854775807) : Calls Tryz.prog 16 #[(Value.agg #[.int .i64 k, .int .u64 v, .int .u64 t, .int .i64 s, .int .i64 a, .int .i64 c, .slice D n q])] w fun e w' => e = .returned (.bool (A1 && A2 && !(pt && t == v) && B1 && B2 && B3 && decide (n % 64 = 0) && C2)) ∧ Gr w w' := by
 have HV := Lib.hid hv; have HT := Lib.hid ht; have HS := Lib.hid hs; have HA := Lib.hid ha; have HC := Lib.hid hc; have HD := Lib.hid hd; clear hv ht hs ha hc hd
 have IA1 := Lib.hid hA1; have IA2 := Lib.hid hA2; have IB1 := Lib.hid hB1; have IB2 := Lib.hid hB2; have IB3 := Lib.hid hB3; have IC2 := Lib.hid hC2; clear hA1 hA2 hB1 hB2 hB3 hC2
 have c1 : decide (k < 1) = false := by simp; omega
 have c2 : decide (9 < k) = false := by simp; omega
 have c3 : decide (4294967295 < v) = false := by simp; omega
 have c4 : decide (4294967295 < t) = false := by simp; omega
 cases A1
 ·-- A1 false
  go_enter Tryz.func16, Tryz.ntmps16
  go_wp2
  refine wp_region_grow (by kernel_rfl) (by kernel_rfl) ?_
  repeat (go_big_quiet_step ((first | (go_at_call 44; with_reducible exact grow_call (HV.out.c _)) | (go_at_call 44; with_reducible exact grow_call (HT.out.c _)) | (go_at_call 44; with_reducible exact grow_call (HS.out.c _)) | (go_at_call 44; with_reducible exact grow_call (HA.out.c _)) | (go_at_call 44; with_reducible exact grow_call (HC.out.c _)) | (go_at_call 44; with_reducible exact grow_call (HD.out.c _)) | (go_at_call 43; with_reducible exact grow_call (IA1.out.c _)) | (go_at_call 43; with_reducible exact grow_call (IA2.out.c _)) | (go_at_call 43; with_reducible exact grow_call (IB1.out.c _)) | (go_at_call 43; with_reducible exact grow_call (IB2.out.c _)) | (go_at_call 43; with_reducible exact grow_call (IB3.out.c _)) | (go_at_call 43; with_reducible exact grow_call (IC2.out.c _)))))
  refine wpQuiet_nil ?_
  intro g0
  go_wp2
  go_ret
  exact ⟨ret_bool (by simp []), gri⟩
 cases A2
 ·-- A2 false
  go_enter Tryz.func16, Tryz.ntmps16
  go_wp2
  refine wp_region_grow (by kernel_rfl) (by kernel_rfl) ?_
  repeat (go_big_quiet_step ((first | (go_at_call 44; with_reducible exact grow_call (HV.out.c _)) | (go_at_call 44; with_reducible exact grow_call (HT.out.c _)) | (go_at_call 44; with_reducible exact grow_call (HS.out.c _)) | (go_at_call 44; with_reducible exact grow_call (HA.out.c _)) | (go_at_call 44; with_reducible exact grow_call (HC.out.c _)) | (go_at_call 44; with_reducible exact grow_call (HD.out.c _)) | (go_at_call 43; with_reducible exact grow_call (IA1.out.c _)) | (go_at_call 43; with_reducible exact grow_call (IA2.out.c _)) | (go_at_call 43; with_reducible exact grow_call (IB1.out.c _)) | (go_at_call 43; with_reducible exact grow_call (IB2.out.c _)) | (go_at_call 43; with_reducible exact grow_call (IB3.out.c _)) | (go_at_call 43; with_reducible exact grow_call (IC2.out.c _)))))
  refine wpQuiet_nil ?_
  intro g0
  go_wp2
  go_ret
  exact ⟨ret_bool (by simp []), gri⟩
 cases pt
 ·-- pt false
  cases B1
  ·-- B1 false
   go_enter Tryz.func16, Tryz.ntmps16
   go_wp2
   refine wp_region_grow (by kernel_rfl) (by kernel_rfl) ?_
   repeat (go_big_quiet_step ((first | (go_at_call 44; with_reducible exact grow_call (HV.out.c _)) | (go_at_call 44; with_reducible exact grow_call (HT.out.c _)) | (go_at_call 44; with_reducible exact grow_call (HS.out.c _)) | (go_at_call 44; with_reducible exact grow_call (HA.out.c _)) | (go_at_call 44; with_reducible exact grow_call (HC.out.c _)) | (go_at_call 44; with_reducible exact grow_call (HD.out.c _)) | (go_at_call 43; with_reducible exact grow_call (IA1.out.c _)) | (go_at_call 43; with_reducible exact grow_call (IA2.out.c _)) | (go_at_call 43; with_reducible exact grow_call (IB1.out.c _)) | (go_at_call 43; with_reducible exact grow_call (IB2.out.c _)) | (go_at_call 43; with_reducible exact grow_call (IB3.out.c _)) | (go_at_call 43; with_reducible exact grow_call (IC2.out.c _)))))
   refine wpQuiet_nil ?_
   intro g0
   go_wp2
   refine wp_region_grow (by kernel_rfl) (by kernel_rfl) ?_
   repeat (go_big_quiet_step ((first | (go_at_call 44; with_reducible exact grow_call (HV.out.c _)) | (go_at_call 44; with_reducible exact grow_call (HT.out.c _)) | (go_at_call 44; with_reducible exact grow_call (HS.out.c _)) | (go_at_call 44; with_reducible exact grow_call (HA.out.c _)) | (go_at_call 44; with_reducible exact grow_call (HC.out.c _)) | (go_at_call 44; with_reducible exact grow_call (HD.out.c _)) | (go_at_call 43; with_reducible exact grow_call (IA1.out.c _)) | (go_at_call 43; with_reducible exact grow_call (IA2.out.c _)) | (go_at_call 43; with_reducible exact grow_call (IB1.out.c _)) | (go_at_call 43; with_reducible exact grow_call (IB2.out.c _)) | (go_at_call 43; with_reducible exact grow_call (IB3.out.c _)) | (go_at_call 43; with_reducible exact grow_call (IC2.out.c _)))))
   refine wpQuiet_nil ?_
   intro g1
   go_wp2
   go_ret
   exact ⟨ret_bool (by simp []), gri⟩
  cases B2
  ·-- B2 false
   go_enter Tryz.func16, Tryz.ntmps16
   go_wp2
   refine wp_region_grow (by kernel_rfl) (by kernel_rfl) ?_
   repeat (go_big_quiet_step ((first | (go_at_call 44; with_reducible exact grow_call (HV.out.c _)) | (go_at_call 44; with_reducible exact grow_call (HT.out.c _)) | (go_at_call 44; with_reducible exact grow_call (HS.out.c _)) | (go_at_call 44; with_reducible exact grow_call (HA.out.c _)) | (go_at_call 44; with_reducible exact grow_call (HC.out.c _)) | (go_at_call 44; with_reducible exact grow_call (HD.out.c _)) | (go_at_call 43; with_reducible exact grow_call (IA1.out.c _)) | (go_at_call 43; with_reducible exact grow_call (IA2.out.c _)) | (go_at_call 43; with_reducible exact grow_call (IB1.out.c _)) | (go_at_call 43; with_reducible exact grow_call (IB2.out.c _)) | (go_at_call 43; with_reducible exact grow_call (IB3.out.c _)) | (go_at_call 43; with_reducible exact grow_call (IC2.out.c _)))))
   refine wpQuiet_nil ?_
   intro g0
   go_wp2
   refine wp_region_grow (by kernel_rfl) (by kernel_rfl) ?_
   repeat (go_big_quiet_step ((first | (go_at_call 44; with_reducible exact grow_call (HV.out.c _)) | (go_at_call 44; with_reducible exact grow_call (HT.out.c _)) | (go_at_call 44; with_reducible exact grow_call (HS.out.c _)) | (go_at_call 44; with_reducible exact grow_call (HA.out.c _)) | (go_at_call 44; with_reducible exact grow_call (HC.out.c _)) | (go_at_call 44; with_reducible exact grow_call (HD.out.c _)) | (go_at_call 43; with_reducible exact grow_call (IA1.out.c _)) | (go_at_call 43; with_reducible exact grow_call (IA2.out.c _)) | (go_at_call 43; with_reducible exact grow_call (IB1.out.c _)) | (go_at_call 43; with_reducible exact grow_call (IB2.out.c _)) | (go_at_call 43; with_reducible exact grow_call (IB3.out.c _)) | (go_at_call 43; with_reducible exact grow_call (IC2.out.c _)))))
   refine wpQuiet_nil ?_
   intro g1
   go_wp2
   go_ret
   exact ⟨ret_bool (by simp []), gri⟩
  cases B3
  ·-- B3 false
   go_enter Tryz.func16, Tryz.ntmps16
   go_wp2
   refine wp_region_grow (by kernel_rfl) (by kernel_rfl) ?_
   repeat (go_big_quiet_step ((first | (go_at_call 44; with_reducible exact grow_call (HV.out.c _)) | (go_at_call 44; with_reducible exact grow_call (HT.out.c _)) | (go_at_call 44; with_reducible exact grow_call (HS.out.c _)) | (go_at_call 44; with_reducible exact grow_call (HA.out.c _)) | (go_at_call 44; with_reducible exact grow_call (HC.out.c _)) | (go_at_call 44; with_reducible exact grow_call (HD.out.c _)) | (go_at_call 43; with_reducible exact grow_call (IA1.out.c _)) | (go_at_call 43; with_reducible exact grow_call (IA2.out.c _)) | (go_at_call 43; with_reducible exact grow_call (IB1.out.c _)) | (go_at_call 43; with_reducible exact grow_call (IB2.out.c _)) | (go_at_call 43; with_reducible exact grow_call (IB3.out.c _)) | (go_at_call 43; with_reducible exact grow_call (IC2.out.c _)))))
   refine wpQuiet_nil ?_
   intro g0
   go_wp2
   refine wp_region_grow (by kernel_rfl) (by kernel_rfl) ?_
   repeat (go_big_quiet_step ((first | (go_at_call 44; with_reducible exact grow_call (HV.out.c _)) | (go_at_call 44; with_reducible exact grow_call (HT.out.c _)) | (go_at_call 44; with_reducible exact grow_call (HS.out.c _)) | (go_at_call 44; with_reducible exact grow_call (HA.out.c _)) | (go_at_call 44; with_reducible exact grow_call (HC.out.c _)) | (go_at_call 44; with_reducible exact grow_call (HD.out.c _)) | (go_at_call 43; with_reducible exact grow_call (IA1.out.c _)) | (go_at_call 43; with_reducible exact grow_call (IA2.out.c _)) | (go_at_call 43; with_reducible exact grow_call (IB1.out.c _)) | (go_at_call 43; with_reducible exact grow_call (IB2.out.c _)) | (go_at_call 43; with_reducible exact grow_call (IB3.out.c _)) | (go_at_call 43; with_reducible exact grow_call (IC2.out.c _)))))
   refine wpQuiet_nil ?_
   intro g1
   go_wp2
   go_ret
   exact ⟨ret_bool (by simp []), gri⟩
  by_cases hm : n % 64 = 0
  ·have d1 : ((n : Int).tmod 64 == 0) = true := by simp [Int.tmod_eq_emod_of_nonneg]; omega
   have d2 : ((n : Int) % 64 == 0) = true := by simp; omega
   go_enter Tryz.func16, Tryz.ntmps16
   go_wp2
   refine wp_region_grow (by kernel_rfl) (by kernel_rfl) ?_
   repeat (go_big_quiet_step ((first | (go_at_call 44; with_reducible exact grow_call (HV.out.c _)) | (go_at_call 44; with_reducible exact grow_call (HT.out.c _)) | (go_at_call 44; with_reducible exact grow_call (HS.out.c _)) | (go_at_call 44; with_reducible exact grow_call (HA.out.c _)) | (go_at_call 44; with_reducible exact grow_call (HC.out.c _)) | (go_at_call 44; with_reducible exact grow_call (HD.out.c _)) | (go_at_call 43; with_reducible exact grow_call (IA1.out.c _)) | (go_at_call 43; with_reducible exact grow_call (IA2.out.c _)) | (go_at_call 43; with_reducible exact grow_call (IB1.out.c _)) | (go_at_call 43; with_reducible exact grow_call (IB2.out.c _)) | (go_at_call 43; with_reducible exact grow_call (IB3.out.c _)) | (go_at_call 43; with_reducible exact grow_call (IC2.out.c _)))))
   refine wpQuiet_nil ?_
   intro g0
   go_wp2
   refine wp_region_grow (by kernel_rfl) (by kernel_rfl) ?_
   repeat (go_big_quiet_step ((first | (go_at_call 44; with_reducible exact grow_call (HV.out.c _)) | (go_at_call 44; with_reducible exact grow_call (HT.out.c _)) | (go_at_call 44; with_reducible exact grow_call (HS.out.c _)) | (go_at_call 44; with_reducible exact grow_call (HA.out.c _)) | (go_at_call 44; with_reducible exact grow_call (HC.out.c _)) | (go_at_call 44; with_reducible exact grow_call (HD.out.c _)) | (go_at_call 43; with_reducible exact grow_call (IA1.out.c _)) | (go_at_call 43; with_reducible exact grow_call (IA2.out.c _)) | (go_at_call 43; with_reducible exact grow_call (IB1.out.c _)) | (go_at_call 43; with_reducible exact grow_call (IB2.out.c _)) | (go_at_call 43; with_reducible exact grow_call (IB3.out.c _)) | (go_at_call 43; with_reducible exact grow_call (IC2.out.c _)))))
   refine wpQuiet_nil ?_
   intro g1
   go_wp2
   refine wp_region_grow (by kernel_rfl) (by kernel_rfl) ?_
   repeat (go_big_quiet_step ((first | (go_at_call 44; with_reducible exact grow_call (HV.out.c _)) | (go_at_call 44; with_reducible exact grow_call (HT.out.c _)) | (go_at_call 44; with_reducible exact grow_call (HS.out.c _)) | (go_at_call 44; with_reducible exact grow_call (HA.out.c _)) | (go_at_call 44; with_reducible exact grow_call (HC.out.c _)) | (go_at_call 44; with_reducible exact grow_call (HD.out.c _)) | (go_at_call 43; with_reducible exact grow_call (IA1.out.c _)) | (go_at_call 43; with_reducible exact grow_call (IA2.out.c _)) | (go_at_call 43; with_reducible exact grow_call (IB1.out.c _)) | (go_at_call 43; with_reducible exact grow_call (IB2.out.c _)) | (go_at_call 43; with_reducible exact grow_call (IB3.out.c _)) | (go_at_call 43; with_reducible exact grow_call (IC2.out.c _)))))
   refine wpQuiet_nil ?_
   intro g2
   go_wp2
   go_ret
   exact ⟨ret_bool (by simp [hm]), gri⟩
  ·have d1 : ((n : Int).tmod 64 == 0) = false := by simp [Int.tmod_eq_emod_of_nonneg]; omega
   have d2 : ((n : Int) % 64 == 0) = false := by simp; omega
   go_enter Tryz.func16, Tryz.ntmps16
   go_wp2
   refine wp_region_grow (by kernel_rfl) (by kernel_rfl) ?_
   repeat (go_big_quiet_step ((first | (go_at_call 44; with_reducible exact grow_call (HV.out.c _)) | (go_at_call 44; with_reducible exact grow_call (HT.out.c _)) | (go_at_call 44; with_reducible exact grow_call (HS.out.c _)) | (go_at_call 44; with_reducible exact grow_call (HA.out.c _)) | (go_at_call 44; with_reducible exact grow_call (HC.out.c _)) | (go_at_call 44; with_reducible exact grow_call (HD.out.c _)) | (go_at_call 43; with_reducible exact grow_call (IA1.out.c _)) | (go_at_call 43; with_reducible exact grow_call (IA2.out.c _)) | (go_at_call 43; with_reducible exact grow_call (IB1.out.c _)) | (go_at_call 43; with_reducible exact grow_call (IB2.out.c _)) | (go_at_call 43; with_reducible exact grow_call (IB3.out.c _)) | (go_at_call 43; with_reducible exact grow_call (IC2.out.c _)))))
   refine wpQuiet_nil ?_
   intro g0
   go_wp2
   refine wp_region_grow (by kernel_rfl) (by kernel_rfl) ?_
   repeat (go_big_quiet_step ((first | (go_at_call 44; with_reducible exact grow_call (HV.out.c _)) | (go_at_call 44; with_reducible exact grow_call (HT.out.c _)) | (go_at_call 44; with_reducible exact grow_call (HS.out.c _)) | (go_at_call 44; with_reducible exact grow_call (HA.out.c _)) | (go_at_call 44; with_reducible exact grow_call (HC.out.c _)) | (go_at_call 44; with_reducible exact grow_call (HD.out.c _)) | (go_at_call 43; with_reducible exact grow_call (IA1.out.c _)) | (go_at_call 43; with_reducible exact grow_call (IA2.out.c _)) | (go_at_call 43; with_reducible exact grow_call (IB1.out.c _)) | (go_at_call 43; with_reducible exact grow_call (IB2.out.c _)) | (go_at_call 43; with_reducible exact grow_call (IB3.out.c _)) | (go_at_call 43; with_reducible exact grow_call (IC2.out.c _)))))
   refine wpQuiet_nil ?_
   intro g1
   go_wp2
   refine wp_region_grow (by kernel_rfl) (by kernel_rfl) ?_
   repeat (go_big_quiet_step ((first | (go_at_call 44; with_reducible exact grow_call (HV.out.c _)) | (go_at_call 44; with_reducible exact grow_call (HT.out.c _)) | (go_at_call 44; with_reducible exact grow_call (HS.out.c _)) | (go_at_call 44; with_reducible exact grow_call (HA.out.c _)) | (go_at_call 44; with_reducible exact grow_call (HC.out.c _)) | (go_at_call 44; with_reducible exact grow_call (HD.out.c _)) | (go_at_call 43; with_reducible exact grow_call (IA1.out.c _)) | (go_at_call 43; with_reducible exact grow_call (IA2.out.c _)) | (go_at_call 43; with_reducible exact grow_call (IB1.out.c _)) | (go_at_call 43; with_reducible exact grow_call (IB2.out.c _)) | (go_at_call 43; with_reducible exact grow_call (IB3.out.c _)) | (go_at_call 43; with_reducible exact grow_call (IC2.out.c _)))))
   refine wpQuiet_nil ?_
   intro g2
   go_wp2
   go_ret
   exact ⟨ret_bool (by simp [hm]), gri⟩
 rcases Bool.eq_false_or_eq_true (t == v) with ne | ne
 ·-- t = v
  go_enter Tryz.func16, Tryz.ntmps16
  go_wp2
  refine wp_region_grow (by kernel_rfl) (by kernel_rfl) ?_
  repeat (go_big_quiet_step ((first | (go_at_call 44; with_reducible exact grow_call (HV.out.c _)) | (go_at_call 44; with_reducible exact grow_call (HT.out.c _)) | (go_at_call 44; with_reducible exact grow_call (HS.out.c _)) | (go_at_call 44; with_reducible exact grow_call (HA.out.c _)) | (go_at_call 44; with_reducible exact grow_call (HC.out.c _)) | (go_at_call 44; with_reducible exact grow_call (HD.out.c _)) | (go_at_call 43; with_reducible exact grow_call (IA1.out.c _)) | (go_at_call 43; with_reducible exact grow_call (IA2.out.c _)) | (go_at_call 43; with_reducible exact grow_call (IB1.out.c _)) | (go_at_call 43; with_reducible exact grow_call (IB2.out.c _)) | (go_at_call 43; with_reducible exact grow_call (IB3.out.c _)) | (go_at_call 43; with_reducible exact grow_call (IC2.out.c _)))))
  refine wpQuiet_nil ?_
  intro g0
  go_wp2
  go_ret
  exact ⟨ret_bool (by simp [ne]), gri⟩
 cases B1
 ·-- B1 false
  go_enter Tryz.func16, Tryz.ntmps16
  go_wp2
  refine wp_region_grow (by kernel_rfl) (by kernel_rfl) ?_
  repeat (go_big_quiet_step ((first | (go_at_call 44; with_reducible exact grow_call (HV.out.c _)) | (go_at_call 44; with_reducible exact grow_call (HT.out.c _)) | (go_at_call 44; with_reducible exact grow_call (HS.out.c _)) | (go_at_call 44; with_reducible exact grow_call (HA.out.c _)) | (go_at_call 44; with_reducible exact grow_call (HC.out.c _)) | (go_at_call 44; with_reducible exact grow_call (HD.out.c _)) | (go_at_call 43; with_reducible exact grow_call (IA1.out.c _)) | (go_at_call 43; with_reducible exact grow_call (IA2.out.c _)) | (go_at_call 43; with_reducible exact grow_call (IB1.out.c _)) | (go_at_call 43; with_reducible exact grow_call (IB2.out.c _)) | (go_at_call 43; with_reducible exact grow_call (IB3.out.c _)) | (go_at_call 43; with_reducible exact grow_call (IC2.out.c _)))))
  refine wpQuiet_nil ?_
  intro g0
  go_wp2
  refine wp_region_grow (by kernel_rfl) (by kernel_rfl) ?_
  repeat (go_big_quiet_step ((first | (go_at_call 44; with_reducible exact grow_call (HV.out.c _)) | (go_at_call 44; with_reducible exact grow_call (HT.out.c _)) | (go_at_call 44; with_reducible exact grow_call (HS.out.c _)) | (go_at_call 44; with_reducible exact grow_call (HA.out.c _)) | (go_at_call 44; with_reducible exact grow_call (HC.out.c _)) | (go_at_call 44; with_reducible exact grow_call (HD.out.c _)) | (go_at_call 43; with_reducible exact grow_call (IA1.out.c _)) | (go_at_call 43; with_reducible exact grow_call (IA2.out.c _)) | (go_at_call 43; with_reducible exact grow_call (IB1.out.c _)) | (go_at_call 43; with_reducible exact grow_call (IB2.out.c _)) | (go_at_call 43; with_reducible exact grow_call (IB3.out.c _)) | (go_at_call 43; with_reducible exact grow_call (IC2.out.c _)))))
  refine wpQuiet_nil ?_
  intro g1
  go_wp2
  go_ret
  exact ⟨ret_bool (by simp []), gri⟩
 cases B2
 ·-- B2 false
  go_enter Tryz.func16, Tryz.ntmps16
  go_wp2
  refine wp_region_grow (by kernel_rfl) (by kernel_rfl) ?_
  repeat (go_big_quiet_step ((first | (go_at_call 44; with_reducible exact grow_call (HV.out.c _)) | (go_at_call 44; with_reducible exact grow_call (HT.out.c _)) | (go_at_call 44; with_reducible exact grow_call (HS.out.c _)) | (go_at_call 44; with_reducible exact grow_call (HA.out.c _)) | (go_at_call 44; with_reducible exact grow_call (HC.out.c _)) | (go_at_call 44; with_reducible exact grow_call (HD.out.c _)) | (go_at_call 43; with_reducible exact grow_call (IA1.out.c _)) | (go_at_call 43; with_reducible exact grow_call (IA2.out.c _)) | (go_at_call 43; with_reducible exact grow_call (IB1.out.c _)) | (go_at_call 43; with_reducible exact grow_call (IB2.out.c _)) | (go_at_call 43; with_reducible exact grow_call (IB3.out.c _)) | (go_at_call 43; with_reducible exact grow_call (IC2.out.c _)))))
  refine wpQuiet_nil ?_
  intro g0
  go_wp2
  refine wp_region_grow (by kernel_rfl) (by kernel_rfl) ?_
  repeat (go_big_quiet_step ((first | (go_at_call 44; with_reducible exact grow_call (HV.out.c _)) | (go_at_call 44; with_reducible exact grow_call (HT.out.c _)) | (go_at_call 44; with_reducible exact grow_call (HS.out.c _)) | (go_at_call 44; with_reducible exact grow_call (HA.out.c _)) | (go_at_call 44; with_reducible exact grow_call (HC.out.c _)) | (go_at_call 44; with_reducible exact grow_call (HD.out.c _)) | (go_at_call 43; with_reducible exact grow_call (IA1.out.c _)) | (go_at_call 43; with_reducible exact grow_call (IA2.out.c _)) | (go_at_call 43; with_reducible exact grow_call (IB1.out.c _)) | (go_at_call 43; with_reducible exact grow_call (IB2.out.c _)) | (go_at_call 43; with_reducible exact grow_call (IB3.out.c _)) | (go_at_call 43; with_reducible exact grow_call (IC2.out.c _)))))
  refine wpQuiet_nil ?_
  intro g1
  go_wp2
  go_ret
  exact ⟨ret_bool (by simp []), gri⟩
 cases B3
 ·-- B3 false
  go_enter Tryz.func16, Tryz.ntmps16
  go_wp2
  refine wp_region_grow (by kernel_rfl) (by kernel_rfl) ?_
  repeat (go_big_quiet_step ((first | (go_at_call 44; with_reducible exact grow_call (HV.out.c _)) | (go_at_call 44; with_reducible exact grow_call (HT.out.c _)) | (go_at_call 44; with_reducible exact grow_call (HS.out.c _)) | (go_at_call 44; with_reducible exact grow_call (HA.out.c _)) | (go_at_call 44; with_reducible exact grow_call (HC.out.c _)) | (go_at_call 44; with_reducible exact grow_call (HD.out.c _)) | (go_at_call 43; with_reducible exact grow_call (IA1.out.c _)) | (go_at_call 43; with_reducible exact grow_call (IA2.out.c _)) | (go_at_call 43; with_reducible exact grow_call (IB1.out.c _)) | (go_at_call 43; with_reducible exact grow_call (IB2.out.c _)) | (go_at_call 43; with_reducible exact grow_call (IB3.out.c _)) | (go_at_call 43; with_reducible exact grow_call (IC2.out.c _)))))
  refine wpQuiet_nil ?_
  intro g0
  go_wp2
  refine wp_region_grow (by kernel_rfl) (by kernel_rfl) ?_
  repeat (go_big_quiet_step ((first | (go_at_call 44; with_reducible exact grow_call (HV.out.c _)) | (go_at_call 44; with_reducible exact grow_call (HT.out.c _)) | (go_at_call 44; with_reducible exact grow_call (HS.out.c _)) | (go_at_call 44; with_reducible exact grow_call (HA.out.c _)) | (go_at_call 44; with_reducible exact grow_call (HC.out.c _)) | (go_at_call 44; with_reducible exact grow_call (HD.out.c _)) | (go_at_call 43; with_reducible exact grow_call (IA1.out.c _)) | (go_at_call 43; with_reducible exact grow_call (IA2.out.c _)) | (go_at_call 43; with_reducible exact grow_call (IB1.out.c _)) | (go_at_call 43; with_reducible exact grow_call (IB2.out.c _)) | (go_at_call 43; with_reducible exact grow_call (IB3.out.c _)) | (go_at_call 43; with_reducible exact grow_call (IC2.out.c _)))))
  refine wpQuiet_nil ?_
  intro g1
  go_wp2
  go_ret
  exact ⟨ret_bool (by simp []), gri⟩
 by_cases hm : n % 64 = 0
 ·have d1 : ((n : Int).tmod 64 == 0) = true := by simp [Int.tmod_eq_emod_of_nonneg]; omega
  have d2 : ((n : Int) % 64 == 0) = true := by simp; omega
  go_enter Tryz.func16, Tryz.ntmps16
  go_wp2
  refine wp_region_grow (by kernel_rfl) (by kernel_rfl) ?_
  repeat (go_big_quiet_step ((first | (go_at_call 44; with_reducible exact grow_call (HV.out.c _)) | (go_at_call 44; with_reducible exact grow_call (HT.out.c _)) | (go_at_call 44; with_reducible exact grow_call (HS.out.c _)) | (go_at_call 44; with_reducible exact grow_call (HA.out.c _)) | (go_at_call 44; with_reducible exact grow_call (HC.out.c _)) | (go_at_call 44; with_reducible exact grow_call (HD.out.c _)) | (go_at_call 43; with_reducible exact grow_call (IA1.out.c _)) | (go_at_call 43; with_reducible exact grow_call (IA2.out.c _)) | (go_at_call 43; with_reducible exact grow_call (IB1.out.c _)) | (go_at_call 43; with_reducible exact grow_call (IB2.out.c _)) | (go_at_call 43; with_reducible exact grow_call (IB3.out.c _)) | (go_at_call 43; with_reducible exact grow_call (IC2.out.c _)))))
  refine wpQuiet_nil ?_
  intro g0
  go_wp2
  refine wp_region_grow (by kernel_rfl) (by kernel_rfl) ?_
  repeat (go_big_quiet_step ((first | (go_at_call 44; with_reducible exact grow_call (HV.out.c _)) | (go_at_call 44; with_reducible exact grow_call (HT.out.c _)) | (go_at_call 44; with_reducible exact grow_call (HS.out.c _)) | (go_at_call 44; with_reducible exact grow_call (HA.out.c _)) | (go_at_call 44; with_reducible exact grow_call (HC.out.c _)) | (go_at_call 44; with_reducible exact grow_call (HD.out.c _)) | (go_at_call 43; with_reducible exact grow_call (IA1.out.c _)) | (go_at_call 43; with_reducible exact grow_call (IA2.out.c _)) | (go_at_call 43; with_reducible exact grow_call (IB1.out.c _)) | (go_at_call 43; with_reducible exact grow_call (IB2.out.c _)) | (go_at_call 43; with_reducible exact grow_call (IB3.out.c _)) | (go_at_call 43; with_reducible exact grow_call (IC2.out.c _)))))
  refine wpQuiet_nil ?_
  intro g1
  go_wp2
  refine wp_region_grow (by kernel_rfl) (by kernel_rfl) ?_
  repeat (go_big_quiet_step ((first | (go_at_call 44; with_reducible exact grow_call (HV.out.c _)) | (go_at_call 44; with_reducible exact grow_call (HT.out.c _)) | (go_at_call 44; with_reducible exact grow_call (HS.out.c _)) | (go_at_call 44; with_reducible exact grow_call (HA.out.c _)) | (go_at_call 44; with_reducible exact grow_call (HC.out.c _)) | (go_at_call 44; with_reducible exact grow_call (HD.out.c _)) | (go_at_call 43; with_reducible exact grow_call (IA1.out.c _)) | (go_at_call 43; with_reducible exact grow_call (IA2.out.c _)) | (go_at_call 43; with_reducible exact grow_call (IB1.out.c _)) | (go_at_call 43; with_reducible exact grow_call (IB2.out.c _)) | (go_at_call 43; with_reducible exact grow_call (IB3.out.c _)) | (go_at_call 43; with_reducible exact grow_call (IC2.out.c _)))))
  refine wpQuiet_nil ?_
  intro g2
  go_wp2
  go_ret
  exact ⟨ret_bool (by simp [hm, ne]), gri⟩
 ·have d1 : ((n : Int).tmod 64 == 0) = false := by simp [Int.tmod_eq_emod_of_nonneg]; omega
  have d2 : ((n : Int) % 64 == 0) = false := by simp; omega
  go_enter Tryz.func16, Tryz.ntmps16
  go_wp2
  refine wp_region_grow (by kernel_rfl) (by kernel_rfl) ?_
  repeat (go_big_quiet_step ((first | (go_at_call 44; with_reducible exact grow_call (HV.out.c _)) | (go_at_call 44; with_reducible exact grow_call (HT.out.c _)) | (go_at_call 44; with_reducible exact grow_call (HS.out.c _)) | (go_at_call 44; with_reducible exact grow_call (HA.out.c _)) | (go_at_call 44; with_reducible exact grow_call (HC.out.c _)) | (go_at_call 44; with_reducible exact grow_call (HD.out.c _)) | (go_at_call 43; with_reducible exact grow_call (IA1.out.c _)) | (go_at_call 43; with_reducible exact grow_call (IA2.out.c _)) | (go_at_call 43; with_reducible exact grow_call (IB1.out.c _)) | (go_at_call 43; with_reducible exact grow_call (IB2.out.c _)) | (go_at_call 43; with_reducible exact grow_call (IB3.out.c _)) | (go_at_call 43; with_reducible exact grow_call (IC2.out.c _)))))
  refine wpQuiet_nil ?_
  intro g0
  go_wp2
  refine wp_region_grow (by kernel_rfl) (by kernel_rfl) ?_
  repeat (go_big_quiet_step ((first | (go_at_call 44; with_reducible exact grow_call (HV.out.c _)) | (go_at_call 44; with_reducible exact grow_call (HT.out.c _)) | (go_at_call 44; with_reducible exact grow_call (HS.out.c _)) | (go_at_call 44; with_reducible exact grow_call (HA.out.c _)) | (go_at_call 44; with_reducible exact grow_call (HC.out.c _)) | (go_at_call 44; with_reducible exact grow_call (HD.out.c _)) | (go_at_call 43; with_reducible exact grow_call (IA1.out.c _)) | (go_at_call 43; with_reducible exact grow_call (IA2.out.c _)) | (go_at_call 43; with_reducible exact grow_call (IB1.out.c _)) | (go_at_call 43; with_reducible exact grow_call (IB2.out.c _)) | (go_at_call 43; with_reducible exact grow_call (IB3.out.c _)) | (go_at_call 43; with_reducible exact grow_call (IC2.out.c _)))))
  refine wpQuiet_nil ?_
  intro g1
  go_wp2
  refine wp_region_grow (by kernel_rfl) (by kernel_rfl) ?_
  repeat (go_big_quiet_step ((first | (go_at_call 44; with_reducible exact grow_call (HV.out.c _)) | (go_at_call 44; with_reducible exact grow_call (HT.out.c _)) | (go_at_call 44; with_reducible exact grow_call (HS.out.c _)) | (go_at_call 44; with_reducible exact grow_call (HA.out.c _)) | (go_at_call 44; with_reducible exact grow_call (HC.out.c _)) | (go_at_call 44; with_reducible exact grow_call (HD.out.c _)) | (go_at_call 43; with_reducible exact grow_call (IA1.out.c _)) | (go_at_call 43; with_reducible exact grow_call (IA2.out.c _)) | (go_at_call 43; with_reducible exact grow_call (IB1.out.c _)) | (go_at_call 43; with_reducible exact grow_call (IB2.out.c _)) | (go_at_call 43; with_reducible exact grow_call (IB3.out.c _)) | (go_at_call 43; with_reducible exact grow_call (IC2.out.c _)))))
  refine wpQuiet_nil ?_
  intro g2
  go_wp2
  go_ret
  exact ⟨ret_bool (by simp [hm]), gri⟩
theorem may13_any (k v t s a c : Int) (D : Option Addr) (n q : Nat) (l : List UInt8) (w : World) (hl : l.length = n) (hn : n ≤ 9223372036854775807) (v0 : 0 ≤ v) (t0 : 0 ≤ t) : Calls Tryz.prog 16 #[(Value.agg #[.int .i64 k, .int .u64 v, .int .u64 t, .int .i64 s, .int .i64 a, .int .i64 c, .slice D n q])] w fun e w' => e = .returned (.bool (mayOpB k v t s a c n l)) ∧ Gr w w' := by
 by_cases h : k < 1 ∨ 9 < k ∨ 4294967295 < v ∨ 4294967295 < t
 ·have e : mayOpB k v t s a c n l = false := by
   cases hm : mayOpB k v t s a c n l with
   | false => rfl
   | true =>
    have h1 := mayOpB_kind hm hl
    have h2 : v ≤ 4294967295 ∧ t ≤ 4294967295 := by
     have hk3 : k = 1 ∨ k = 2 ∨ k = 3 ∨ k = 4 ∨ k = 5 ∨ k = 6 ∨ k = 7 ∨ k = 8 ∨ k = 9 := by omega
     rcases hk3 with rfl | rfl | rfl | rfl | rfl | rfl | rfl | rfl | rfl <;> simp [mayOpB, wVol, wTo] at hm <;> omega
    omega
  rw [e]
  exact may13_early k v t s a c D n q w h
 ·have e : mayOpB k v t s a c n l = (inB (hasB k 118) 1 v 4294967295 && inB (hasB k 116) 1 t 4294967295 && !(hasB k 116 && t == v) && inB (hasB k 115) 0 s 256 && inB (hasB k 97) 0 a 1048576 && inB (hasB k 99) 1 c 1024 && decide (n % 64 = 0) && inB (hasB k 100) 1 ((n : Int) / 64) 32) := by
   have hle : (l == []) = decide (n = 0) := by cases l <;> simp_all <;> omega
   have hk3 : k = 1 ∨ k = 2 ∨ k = 3 ∨ k = 4 ∨ k = 5 ∨ k = 6 ∨ k = 7 ∨ k = 8 ∨ k = 9 := by omega
   rcases hk3 with rfl | rfl | rfl | rfl | rfl | rfl | rfl | rfl | rfl
   all_goals
    simp only [mayOpB, hle, wVol, wTo, wSize, wAt, wCount, wData, inB]
    simp only [show (hasB 1 118) = true from by decide, show (hasB 1 116) = false from by decide, show (hasB 1 115) = true from by decide, show (hasB 1 97) = false from by decide, show (hasB 1 99) = false from by decide, show (hasB 1 100) = false from by decide, show (hasB 2 118) = true from by decide, show (hasB 2 116) = false from by decide, show (hasB 2 115) = false from by decide, show (hasB 2 97) = false from by decide, show (hasB 2 99) = false from by decide, show (hasB 2 100) = false from by decide, show (hasB 3 118) = true from by decide, show (hasB 3 116) = false from by decide, show (hasB 3 115) = true from by decide, show (hasB 3 97) = false from by decide, show (hasB 3 99) = false from by decide, show (hasB 3 100) = false from by decide, show (hasB 4 118) = true from by decide, show (hasB 4 116) = true from by decide, show (hasB 4 115) = false from by decide, show (hasB 4 97) = false from by decide, show (hasB 4 99) = false from by decide, show (hasB 4 100) = false from by decide, show (hasB 5 118) = true from by decide, show (hasB 5 116) = false from by decide, show (hasB 5 115) = false from by decide, show (hasB 5 97) = true from by decide, show (hasB 5 99) = false from by decide, show (hasB 5 100) = true from by decide, show (hasB 6 118) = true from by decide, show (hasB 6 116) = false from by decide, show (hasB 6 115) = false from by decide, show (hasB 6 97) = true from by decide, show (hasB 6 99) = true from by decide, show (hasB 6 100) = false from by decide, show (hasB 7 118) = true from by decide, show (hasB 7 116) = false from by decide, show (hasB 7 115) = false from by decide, show (hasB 7 97) = true from by decide, show (hasB 7 99) = true from by decide, show (hasB 7 100) = false from by decide, show (hasB 8 118) = false from by decide, show (hasB 8 116) = false from by decide, show (hasB 8 115) = false from by decide, show (hasB 8 97) = false from by decide, show (hasB 8 99) = false from by decide, show (hasB 8 100) = false from by decide, show (hasB 9 118) = true from by decide, show (hasB 9 116) = false from by decide, show (hasB 9 115) = false from by decide, show (hasB 9 97) = true from by decide, show (hasB 9 99) = true from by decide, show (hasB 9 100) = false from by decide]
    rw [Bool.eq_iff_iff]
    simp
    omega
  rw [e]
  refine may13_core k v t s a c D n q w _ _ _ _ _ _ _ _ _ _ _ _ ⟨fun W => has13_v k W⟩ ⟨fun W => has13_t k W⟩ ⟨fun W => has13_s k W⟩ ⟨fun W => has13_a k W⟩ ⟨fun W => has13_c k W⟩ ⟨fun W => has13_d k W⟩ ⟨fun W => in13_any _ _ _ _ W⟩ ⟨fun W => in13_any _ _ _ _ W⟩ ⟨fun W => in13_any _ _ _ _ W⟩ ⟨fun W => in13_any _ _ _ _ W⟩ ⟨fun W => in13_any _ _ _ _ W⟩ ⟨fun W => in13_any _ _ _ _ W⟩ ?_ ?_ v0 ?_ t0 ?_ hn <;> omega
set_option maxHeartbeats 2000000 in
theorem big26_any (xk xn xm xOk xOv xOt xOs xOa xOc : Int) (xOD xP : Option Addr) (xOn xOq xpn xpq : Nat) (xf : Bool) (w : World) :
  Calls Tryz.prog 18 #[(Value.agg #[.int .i64 xk, .int .i64 xn, .int .i64 xm, .int .i64 xOk, .int .u64 xOv, .int .u64 xOt, .int .i64 xOs, .int .i64 xOa, .int .i64 xOc, .slice xOD xOn xOq, .bool xf, .slice xP xpn xpq])] w fun e w' => e = .returned (.bool (decide (300 < xpn) || decide (9000 < xOn))) ∧ Gr w w' := by
 have HU := Lib.hid (fun W => much13_any xOk xOv xOt xOs xOa xOc xOD xOn xOq W)
 by_cases h : 300 < xpn
 ·have h2 : (300 : Int) < (xpn : Int) := by omega
  have HH := Lib.hid h; clear h
  go_enter Tryz.func18, Tryz.ntmps18
  go_wp2
  go_ret
  exact ⟨ret_bool (by have := HH.out; simp [this]), gri⟩
 ·have h2 : ¬ (300 : Int) < (xpn : Int) := by omega
  have HH := Lib.hid h; clear h
  go_enter Tryz.func18, Tryz.ntmps18
  go_wp2_with ((go_at_call 8; ((with_reducible refine (HU.out _).mono ?_); rintro _ _ ⟨rfl, gu, rfl⟩)))
  go_ret
  exact ⟨ret_bool (by have := HH.out; simp [this]), gri⟩
theorem list_ne_of_len {α : Type} [BEq α] [LawfulBEq α] {a b : List α} (h : a.length ≠ b.length) : (a == b) = false := by
 rw [beq_eq_false_iff_ne]; exact fun e => h (by rw [e])
theorem beq_snocI {xs ys : List Int} {k : Nat} (hx : k < xs.length) (hy : k < ys.length) (h : xs.take k = ys.take k) (he : xs[k] = ys[k]) : xs.take (k + 1) = ys.take (k + 1) := by
 rw [List.take_succ_eq_append_getElem hx, List.take_succ_eq_append_getElem hy, h, he]
theorem beq_getI {xs ys : List Int} {k : Nat} (hx : k < xs.length) (hy : k < ys.length) (he : xs[k] ≠ ys[k]) : (xs == ys) = false := by
 rw [beq_eq_false_iff_ne]
 rintro rfl
 exact he rfl
set_option maxRecDepth 100000 in
set_option maxHeartbeats 8000000 in
theorem sameAct26_any (xk xn xm xOk xOv xOt xOs xOa xOc yk yn ym yOk yOv yOt yOs yOa yOc : Int) (xOD yOD xP yP : Option Addr) (xOn xOq yOn yOq xpn xpq ypn ypq : Nat) (xf yf : Bool) (lx ly : List UInt8) (px py : List Int) (w : World) (hx : lx.length = xOn) (hy : ly.length = yOn) (h1 : Row bv w xOD lx) (h2 : Row bv w yOD ly) (hpx : px.length = xpn) (hpy : py.length = ypn) (hpn : xpn ≤ 9223372036854775807) (h3 : Row (Value.int .i64) w xP px) (h4 : Row (Value.int .i64) w yP py) :
  Calls Tryz.prog 21 #[(Value.agg #[.int .i64 xk, .int .i64 xn, .int .i64 xm, .int .i64 xOk, .int .u64 xOv, .int .u64 xOt, .int .i64 xOs, .int .i64 xOa, .int .i64 xOc, .slice xOD xOn xOq, .bool xf, .slice xP xpn xpq]), (Value.agg #[.int .i64 yk, .int .i64 yn, .int .i64 ym, .int .i64 yOk, .int .u64 yOv, .int .u64 yOt, .int .i64 yOs, .int .i64 yOa, .int .i64 yOc, .slice yOD yOn yOq, .bool yf, .slice yP ypn ypq])] w fun e w' => e = .returned (.bool (sameActB xk xn xm xOk xOv xOt xOs xOa xOc yk yn ym yOk yOv yOt yOs yOa yOc xf yf lx ly px py)) ∧ Gr w w' := by
 have HS := Lib.hid (fun W (g : GrC w W) => same13r_any xOk xOv xOt xOs xOa xOc yOk yOv yOt yOs yOa yOc xOD yOD xOn xOq yOn yOq lx ly W hx hy (h1.gr (Gr.of g.b)) (h2.gr (Gr.of g.b)))
 clear hx hy h1 h2
 rcases Bool.eq_false_or_eq_true (xk == yk) with k0 | k0
 rotate_left
 ·have n0 : (xk != yk) = true := by simp [bne, k0]
  go_enter Tryz.func21, Tryz.ntmps21
  go_wp2
  go_ret
  exact ⟨ret_bool (by simp [sameActB, k0]), gri⟩
 have n0 : (xk != yk) = false := by simp [bne, k0]
 rcases Bool.eq_false_or_eq_true (xn == yn) with k1 | k1
 rotate_left
 ·have n1 : (xn != yn) = true := by simp [bne, k1]
  go_enter Tryz.func21, Tryz.ntmps21
  go_wp2
  go_ret
  exact ⟨ret_bool (by simp [sameActB, k1]), gri⟩
 have n1 : (xn != yn) = false := by simp [bne, k1]
 rcases Bool.eq_false_or_eq_true (xm == ym) with k2 | k2
 rotate_left
 ·have n2 : (xm != ym) = true := by simp [bne, k2]
  go_enter Tryz.func21, Tryz.ntmps21
  go_wp2
  go_ret
  exact ⟨ret_bool (by simp [sameActB, k2]), gri⟩
 have n2 : (xm != ym) = false := by simp [bne, k2]
 rcases Bool.eq_false_or_eq_true (sameB xOk xOv xOt xOs xOa xOc yOk yOv yOt yOs yOa yOc lx ly) with k3 | k3
 rotate_left
 ·rw [k3] at HS
  go_enter Tryz.func21, Tryz.ntmps21
  go_wp2_with ((go_at_call 12; ((with_reducible refine (HS.out _ inferInstance).mono ?_); rintro _ _ ⟨rfl, g, rfl⟩)))
  go_ret
  exact ⟨ret_bool (by simp [sameActB, k3]), gri⟩
 rw [k3] at HS
 by_cases hf : xf = yf
 rotate_left
 ·have ef : (xf == yf) = false := by simpa using hf
  have K3 := Lib.hid k3; clear k3
  cases xf <;> cases yf <;> first | exact absurd rfl hf | skip
  all_goals
   go_enter Tryz.func21, Tryz.ntmps21
   go_wp2_with ((go_at_call 12; ((with_reducible refine (HS.out _ inferInstance).mono ?_); rintro _ _ ⟨rfl, g, rfl⟩)))
   go_ret
   exact ⟨ret_bool (by simp [sameActB]), gri⟩
 subst hf
 have HALL := Lib.hid (show sameActB xk xn xm xOk xOv xOt xOs xOa xOc yk yn ym yOk yOv yOt yOs yOa yOc xf xf lx ly px py = (px == py) by simp [sameActB, k0, k1, k2, k3])
 clear k0 k1 k2 k3
 by_cases hlen : xpn = ypn
 rotate_left
 ·have hl : ((xpn : Int) != (ypn : Int)) = true := by simp; omega
  have hpp : (px == py) = false := list_ne_of_len (by omega)
  have HPP := Lib.hid hpp; clear hpp hlen
  cases xf
  all_goals
   go_enter Tryz.func21, Tryz.ntmps21
   go_wp2_with ((go_at_call 12; ((with_reducible refine (HS.out _ inferInstance).mono ?_); rintro _ _ ⟨rfl, g, rfl⟩)))
   go_ret
   exact ⟨ret_bool (by rw [HALL.out, HPP.out]), gri⟩
 subst hlen
 have HPX := Lib.hid hpx; have HPY := Lib.hid hpy; have H3 := Lib.hid h3; have H4 := Lib.hid h4; clear hpx hpy h3 h4
 cases xf
 all_goals
  go_enter Tryz.func21, Tryz.ntmps21
  go_wp2_with ((go_at_call 12; ((with_reducible refine (HS.out _ inferInstance).mono ?_); rintro _ _ ⟨rfl, g, rfl⟩)))
  go_loopw [5] (fun i wr => ∃ j : Nat, i = .int .i64 j ∧ j ≤ xpn ∧ Hid (px.take j = py.take j) ∧ Gr w wr ∧ wr.cell? ⟨w.heap.size, 11, none⟩ = some (.slice xP xpn xpq) ∧ wr.cell? ⟨w.heap.size + 1, 11, none⟩ = some (.slice yP xpn ypq)) (fun i _ => xpn - (intOf i).toNat)
  case atStart => exact ⟨0, rfl, Nat.zero_le _, Lib.hid rfl, gri, (block_cells _ _ _ _ _).trans rfl, (block_cells _ _ _ _ _).trans rfl⟩
  case round =>
   obtain ⟨j, rfl, hj, ht, hg, cx, cy⟩ := hrel
   have HG := Lib.hid hg; clear hg
   haveI : Old w.heap.size wr := old_of_cell cx
   haveI : Old (w.heap.size + 1) wr := old_of_cell cy
   by_cases hlt : j < xpn
   ·have hjx : j < px.length := by have := HPX.out; omega
    have hjy : j < py.length := by have := HPY.out; omega
    obtain ⟨bx, ox, rfl, hbx, hcx⟩ := (H3.out.gr HG.out).at_ (by rintro rfl; simp at hjx)
    obtain ⟨by', oy, rfl, hby, hcy⟩ := (H4.out.gr HG.out).at_ (by rintro rfl; simp at hjy)
    have ex := hcx j px[j] (List.getElem?_eq_getElem hjx)
    have ey := hcy j py[j] (List.getElem?_eq_getElem hjy)
    haveI : Old bx wr := ⟨hbx⟩
    haveI : Old by' wr := ⟨hby⟩
    have hjl : (j : Int) < (xpn : Int) := by omega
    clear hcx hcy hbx hby
    by_cases hpp : px[j] = py[j]
    ·have HN := Lib.hid (beq_snocI hjx hjy ht.out hpp)
     have hq : (px[j] != py[j]) = false := by simp [hpp]
     clear ht hpp
     generalize px[j] = u at *
     generalize py[j] = v at *
     go_wp2
     refine wp_region_grow (by kernel_rfl) (by kernel_rfl) ?_
     repeat (go_big_quiet_step (fail))
     refine wpQuiet_nil ?_
     intro g1
     go_wp2
     go_roundw
     case rel => exact ⟨j + 1, by go_num, by omega, HN, HG.out.trans (Gr.of (grown_below _ _)), by go_simp, by go_simp⟩
     case measure => simp [intOf]; omega
    ·have HN := Lib.hid (beq_getI hjx hjy hpp)
     have hq : (px[j] != py[j]) = true := by simp [hpp]
     clear ht hpp
     generalize px[j] = u at *
     generalize py[j] = v at *
     go_wp2
     refine wp_region_grow (by kernel_rfl) (by kernel_rfl) ?_
     repeat (go_big_quiet_step (fail))
     refine wpQuiet_nil ?_
     intro g1
     go_wp2
     go_ret
     exact ⟨ret_bool (by rw [HALL.out, HN.out]), HG.out.trans (Gr.of (grown_below _ _))⟩
   ·obtain rfl : j = xpn := by omega
    have hpp : (px == py) = true := by
     have h9 := ht.out
     rw [List.take_of_length_le (by have := HPX.out; omega), List.take_of_length_le (by have := HPY.out; omega)] at h9
     simp [h9]
    have HPP := Lib.hid hpp; clear hpp ht
    go_wp2
    go_ret
    exact ⟨ret_bool (by rw [HALL.out, HPP.out]), HG.out⟩
end Go.Proofs.YtgjdgafoidppaaaGreatDoor
