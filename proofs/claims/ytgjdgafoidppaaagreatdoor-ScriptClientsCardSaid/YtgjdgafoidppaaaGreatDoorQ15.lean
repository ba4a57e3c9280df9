/- The reference's data: whole sectors that are read. Conditions: a text of at most 200000 bytes. The reference's OpText. Conditions: an operation that may be; what is read stands in memory. -/
import Derived.Test.YtgjdgafoidppaaaGreatDoorQ14
import Derived.Test.YtgjdgafoidppaaaGreatDoorQ07
namespace Go.Proofs.YtgjdgafoidppaaaGreatDoor
open Go.RowKit
set_option linter.unusedVariables false
set_option linter.unusedSimpArgs false
set_option linter.unnecessarySimpa false
def okR (x : ByteArray) : Bool := (unhexL x.data.toList).isSome && decide (((unhexL x.data.toList).getD []).length ≤ 64)
def secR (x : ByteArray) : List UInt8 := if okR x then padS ((unhexL x.data.toList).getD []) else List.replicate 64 0
def dataR (x : ByteArray) : List UInt8 := (wordsB 44 x).flatMap secR
theorem secR_len (x : ByteArray) : (secR x).length = 64 := by
  unfold secR
  split
  · exact padS_len _
  · simp
theorem flatR_len : ∀ l : List ByteArray, (l.flatMap secR).length = 64 * l.length
  | [] => rfl
  | x :: l => by rw [List.flatMap_cons, List.length_append, secR_len, flatR_len l, List.length_cons]; omega
theorem secR_ok (b : List UInt8) (h : b.length = 64) : secR ⟨(secL b).toArray⟩ = b := by
  have hp := trimZ_pad b
  unfold secL
  split
  · rename_i h0
    rw [h0, h] at hp
    have e : okR ⟨([45] : List UInt8).toArray⟩ = false := by decide
    rw [secR, e, if_neg (by simp), hp]
    simp
  · rename_i h0
    have h1 := trimZ_len b
    have e : okR ⟨(hexL (trimZ b)).toArray⟩ = true := by
      simp only [okR, unhexL_hex, Option.getD_some, Option.isSome_some]
      simp; omega
    rw [secR, e, if_pos rfl]
    simp only [unhexL_hex, Option.getD_some, padS]
    rw [List.take_of_length_le (by omega), ← h]
    exact hp.symm
theorem dataR_ok (l : List UInt8) (h : 64 ≤ l.length) : dataR ⟨(dataL l).toArray⟩ = l.take (64 * (l.length / 64)) := by
  have hl : ∀ j, j < l.length / 64 → ((l.drop (64 * j)).take 64).length = 64 := fun j hj => by simp; omega
  rw [dataR, data_words l h, ← drop_take_flat l _ (by omega), List.flatMap_def]
  congr 1
  simp only [secs, List.map_map]
  refine List.map_congr_left fun j hj => ?_
  exact secR_ok _ (hl j (by simpa using hj))
theorem copySrc2 (W : World) (b : List UInt8) (A : Option Addr) (h : Row bv W A b) (hc : 0 < (cs64 b).length) : ∃ ad, A = some ad ∧ ∀ j v, (cs64 b)[j]? = some v → W.cell? (ad.add j) = some v := by
  unfold cs64 at hc ⊢
  have hb : b ≠ [] := by rintro rfl; simp at hc
  obtain ⟨g, o, rfl, _, hcell⟩ := h.at_ hb
  refine ⟨_, rfl, fun j v hj => ?_⟩
  rw [List.getElem?_map, List.getElem?_take] at hj
  split at hj
  · cases hy : b[j]? with
    | none => rw [hy] at hj; cases hj
    | some y =>
      rw [hy] at hj; cases hj
      rw [Go.WideShapes.add_plain]
      exact hcell j y hy
  · cases hj
theorem mk64 (w : World) : (Instr.makeSlice 24 (.int .i64 64) (.int .i64 64)).run Tryz.prog w = .ok (.slice (some ⟨w.heap.size, 0, none⟩) 64 64) (w.alloc (.cells zs64 5)) := by kernel_rfl
set_option maxRecDepth 100000 in
set_option maxHeartbeats 4000000 in
theorem rdata26_any (x : ByteArray) (hx : x.size ≤ 200000) (W : World) :
    Calls Tryz.prog 91 #[.string x] W fun e W' => ∃ v, e = .returned v ∧ OwnR bv 5 W.heap.size W' v (dataR x) ∧ Below W.heap.size W W' := by
  have HWD := Lib.hid (fun V => (show Calls Tryz.prog 41 #[.string x, .int .u8 44] V (fun e w' => ∃ v, e = .returned v ∧ OwnS V.heap.size w' v (wordsB 44 x) ∧ Below V.heap.size V w') from words26_any x 44 (by omega) V))
  go_enter Tryz.func91, Tryz.ntmps91
  go_wp2_with ((go_at_call 41; ((with_reducible refine (HWD.out _).mono ?_))))
  rintro _ W1 ⟨vl, rfl, hol, hb1⟩
  obtain ⟨VA, vc, rfl, hvc, hrow⟩ := hol.form
  have hn := wordsB_le 44 x
  have hsh := Lib.hid (fun y hy => wordsB_each 44 x y hy)
  have hd : dataR x = (wordsB 44 x).flatMap secR := rfl
  have HD := Lib.hid hd; clear hd
  generalize hps : wordsB 44 x = ps at *
  have HROW := Lib.hid hrow; have HB1 := Lib.hid hb1; clear hrow hb1 hol hps
  have hsz1 := HB1.out.size
  go_wp2
  go_loopw [3, 5] (fun v i wr => ∃ k : Nat, i = .int .i64 k ∧ k ≤ ps.length ∧ OwnR bv 5 W1.heap.size wr v ((ps.take k).flatMap secR) ∧ Below W1.heap.size W1 wr) (fun _ i _ => ps.length - (intOf i).toNat)
  case atStart => exact ⟨0, rfl, Nat.zero_le _, OwnR.nil _ _, Below.refl _ _⟩
  case round =>
    obtain ⟨k, rfl, hk, hown, hbw⟩ := hrel
    have HOWN := Lib.hid hown; have HB := Lib.hid hbw; clear hown hbw
    have hsz := HB.out.size
    have hfl := flatR_len (ps.take k)
    have htl : (ps.take k).length ≤ k := List.length_take_le _ _
    by_cases hlt : k < ps.length
    · obtain ⟨b, o, hA, hb, hc⟩ := (HROW.out.gr (Gr.of HB.out)).at_ (by rintro rfl; simp at hlt)
      subst hA
      obtain ⟨y, hy⟩ : ∃ y, ps[k]? = some y := ⟨ps[k], List.getElem?_eq_getElem hlt⟩
      have c1 := hc k y hy
      have hys : y.size ≤ x.size := hsh.out _ (List.mem_of_getElem? hy)
      have htk : ps.take (k + 1) = ps.take k ++ [y] := by rw [List.take_add_one, hy]; rfl
      have HT := Lib.hid htk; clear htk hc hy
      have HU := Lib.hid (fun V => runhex_any y (by omega) V)
      have hul : ((unhexL y.data.toList).getD []).length ≤ 200000 := by
        cases hu : unhexL y.data.toList with
        | none => simp
        | some o => have := unhexL_len _ _ hu; rw [← Lib.size_eq] at this; simp; omega
      have E1 := Lib.hid (show secR y = if (unhexL y.data.toList).isSome && decide (((unhexL y.data.toList).getD []).length ≤ 64) then padS ((unhexL y.data.toList).getD []) else List.replicate 64 0 from rfl)
      have hmk := mk64
      go_wp2_with ((go_at_call 109; ((with_reducible refine (HU.out _).mono ?_))))
      -- TAIL
      clear HU
      generalize (unhexL y.data.toList).getD [] = b at *
      generalize (unhexL y.data.toList).isSome = so at *
      rintro _ W2 ⟨vb, rfl, hob, hbB⟩
      have hsec : W2.heap[wr.heap.size]? = some (.cells zs64 5 (0, 0)) := (hbB.block _ (by simp)).trans (heap_alloc_new wr _)
      have hbA : Below wr.heap.size wr W2 := below_trans (below_alloc (Below.refl _ _) _) hbB
      have hob' : OwnR bv 5 wr.heap.size W2 vb b := OwnR.more hob (by simp)
      obtain ⟨Ab, cb, rfl, hcb, hrb⟩ := hob'.form
      have HSEC := Lib.hid hsec; have HBA := Lib.hid hbA; have HRB := Lib.hid hrb
      clear hsec hbA hob hob' hrb hbB
      by_cases hgood : so = true ∧ b.length ≤ 64
      · obtain ⟨rfl, hbl⟩ := hgood
        have d1 : decide ((b.length : Int) ≤ 64) = true := decide_eq_true (by omega)
        have e2 : secR y = padS b := by rw [E1.out]; simp [hbl]
        have E2 := Lib.hid e2; clear e2
        go_wp2_with (with_reducible refine wpList_copy_splice rfl (.tmp 32) (.tmp 33) 24 24 rfl 5 Tryz.underlying24 ?hsz9 (some ⟨wr.heap.size, 0, none⟩) Ab 64 64 b.length cb ?hd9 ?hs9 wr.heap.size 0 zl64 5 ?hg9 (cs64 b) ?hn9 ?hpos9 ?hfit9 ?h19 wr.heap.size W2 ?hb9 ?hBg9 ?_)
        case hsz9 => kernel_rfl
        case hd9 => rfl
        case hs9 => rfl
        case hg9 => exact HSEC.out
        case hn9 => exact copyLen b
        case hpos9 =>
          intro hc
          first | exact copySrc2 _ _ _ HRB.out hc | exact ⟨rfl, copySrc2 _ _ _ HRB.out hc⟩
        case hfit9 => exact copyFit b
        case h19 => exact copyOne b
        case hb9 => exact Below.refl _ _
        case hBg9 => exact Nat.le_refl _
        intro W4 HG4 hB4
        have HBW := Lib.hid (HBA.out.trans hB4)
        have hcl : ∀ j z, (padS b)[j]? = some z → W4.cell? ⟨wr.heap.size, 0 + j, none⟩ = some (bv z) := by
          intro j z hj
          have := HG4.out
          rw [spliceS] at this
          rw [Nat.zero_add]
          simp only [World.cell?, this]
          simp [hj]
        have HCL := Lib.hid hcl; clear hcl HG4 hB4
        go_wp2_with (at_builtin; refine wp_append_byte rfl _ _ rfl W1.heap.size ?vv1 ((ps.take k).flatMap secR) ?hs1 ?own1 wr.heap.size 0 64 (padS b) 64 (padS_len b) rfl ?hc1 ?hl1 ?hb1 ?_)
        case hs1 => rfl
        case own1 => exact HOWN.out.gr (Gr.of HBW.out)
        case hc1 => exact HCL.out
        case hl1 => rw [padS_len]; omega
        case hb1 => exact Nat.le_trans hsz HBW.out.size
        intro v2 W5 a2
        have hown2 := a2.own
        have hb2 := Below.trans (below_trans HB.out HBW.out) a2.below
        clear a2
        go_wp2
        go_roundw
        case rel =>
          refine ⟨k + 1, by go_num, by omega, ?_, hb2⟩
          rw [HT.out, List.flatMap_append, List.flatMap_singleton, E2.out]
          exact hown2
        case measure => simp [intOf]; omega
      · have e2 : secR y = List.replicate 64 0 := by
          rw [E1.out]
          cases so with
          | false => simp
          | true => have : ¬ b.length ≤ 64 := fun h => hgood ⟨rfl, h⟩; simp [this]
        have E2 := Lib.hid e2; clear e2
        have HBW := HBA
        have hcl : ∀ j z, (List.replicate 64 (0 : UInt8))[j]? = some z → W2.cell? ⟨wr.heap.size, 0 + j, none⟩ = some (bv z) := by
          intro j z hj
          rw [Nat.zero_add]
          simp only [World.cell?, HSEC.out]
          simp [z64_at j z hj]
        have HCL := Lib.hid hcl; clear hcl
        rcases Bool.eq_false_or_eq_true so with hso | hso
        · subst hso
          have d1 : decide ((b.length : Int) ≤ 64) = false := decide_eq_false (by have h9 : ¬ b.length ≤ 64 := fun h => hgood ⟨rfl, h⟩; omega)
          go_wp2_with (at_builtin; refine wp_append_byte rfl _ _ rfl W1.heap.size ?vv2 ((ps.take k).flatMap secR) ?hs2 ?own2 wr.heap.size 0 64 (List.replicate 64 0) 64 (by simp) rfl ?hc2 ?hl2 ?hb2 ?_)
          case hs2 => rfl
          case own2 => exact HOWN.out.gr (Gr.of HBW.out)
          case hc2 => exact HCL.out
          case hl2 => simp only [List.length_replicate]; omega
          case hb2 => exact Nat.le_trans hsz HBW.out.size
          intro v2 W5 a2
          have hown2 := a2.own
          have hb2 := Below.trans (below_trans HB.out HBW.out) a2.below
          clear a2
          go_wp2
          go_roundw
          case rel =>
            refine ⟨k + 1, by go_num, by omega, ?_, hb2⟩
            rw [HT.out, List.flatMap_append, List.flatMap_singleton, E2.out]
            exact hown2
          case measure => simp [intOf]; omega
        · subst hso
          go_wp2_with (at_builtin; refine wp_append_byte rfl _ _ rfl W1.heap.size ?vv3 ((ps.take k).flatMap secR) ?hs3 ?own3 wr.heap.size 0 64 (List.replicate 64 0) 64 (by simp) rfl ?hc3 ?hl3 ?hb3 ?_)
          case hs3 => rfl
          case own3 => exact HOWN.out.gr (Gr.of HBW.out)
          case hc3 => exact HCL.out
          case hl3 => simp only [List.length_replicate]; omega
          case hb3 => exact Nat.le_trans hsz HBW.out.size
          intro v2 W5 a2
          have hown2 := a2.own
          have hb2 := Below.trans (below_trans HB.out HBW.out) a2.below
          clear a2
          go_wp2
          go_roundw
          case rel =>
            refine ⟨k + 1, by go_num, by omega, ?_, hb2⟩
            rw [HT.out, List.flatMap_append, List.flatMap_singleton, E2.out]
            exact hown2
          case measure => simp [intOf]; omega
    · have hkk : ps.take k = ps := List.take_of_length_le (by omega)
      have hown := HOWN.out
      rw [hkk] at hown
      clear hkk hfl htl
      go_wp2
      go_ret
      exact ⟨_, rfl, by rw [HD.out]; exact hown.more hsz1, HB1.out.trans (HB.out.mono hsz1)⟩
end Go.Proofs.YtgjdgafoidppaaaGreatDoor
namespace Go.Proofs.YtgjdgafoidppaaaGreatDoor
open Go.RowKit
set_option linter.unusedVariables false
set_option linter.unusedSimpArgs false
set_option linter.unnecessarySimpa false
set_option maxRecDepth 100000 in
set_option maxHeartbeats 4000000 in
theorem ropText_1 (v s : Nat) (A : Option Addr) (q : Nat) (w : World) [hk : Tb w] (hv : v ≤ 4294967295) (hs : s ≤ 256) :
    Calls Tryz.prog 17 #[.agg #[.int .i64 1, .int .u64 v, .int .u64 0, .int .i64 s, .int .i64 0, .int .i64 0, .slice A 0 q]] w fun e w' => e = .returned (.string ⟨(opTextL 1 v 0 s 0 0 []).toArray⟩) ∧ Gr w w' := by
  have HTv := Lib.hid (fun W => text01_any v (by omega) W)
  have lv := dec_len v (by omega)
  have HTs := Lib.hid (fun W => text26_any s (by omega) W)
  have ls := dec_len s (by omega)
  go_enter Tryz.func17, Tryz.ntmps17
  go_upto_region 1 with fail
  go_cut [3] (fun u wx => u = .string ⟨#[99, 114, 101, 97, 116, 101]⟩ ∧ Gr w wx ∧ Tb wx ∧ BlockAt wx w.heap.size #[.int .i64 1, .int .u64 v, .int .u64 0, .int .i64 s, .int .i64 0, .int .i64 0, .slice A 0 q] 26)
  case first =>
    go_region_with ((go_at_call 45; refine (kinds_any _).mono ?_; rintro e w' ⟨rfl, rfl⟩))
    all_goals
      go_wp2_with fail
      go_meet
      case rel => exact ⟨rfl, gri, inferInstance, inferInstance⟩
  case rest =>
    obtain ⟨rfl, hg, htb, hblk⟩ := hcut
    have x0 : wc.cell? ⟨w.heap.size, 0, none⟩ = some (.int .i64 1) := (block_cells _ _ _ _ _).trans rfl
    have xv : wc.cell? ⟨w.heap.size, 1, none⟩ = some (.int .u64 v) := (block_cells _ _ _ _ _).trans rfl
    have xs : wc.cell? ⟨w.heap.size, 3, none⟩ = some (.int .i64 s) := (block_cells _ _ _ _ _).trans rfl
    have HG := Lib.hid hg; clear hg
    haveI : Old w.heap.size wc := hblk.old
    go_wp2_with (first | (go_at_call 46; ((with_reducible refine (HTv.out _).mono ?_); rintro _ _ ⟨rfl, g, rfl⟩)) | (go_at_call 47; ((with_reducible refine (HTs.out _).mono ?_); rintro _ _ ⟨rfl, g, rfl⟩)))
    go_ret
    have e : opPieces 1 v 0 s 0 0 [] = [⟨#[99, 114, 101, 97, 116, 101]⟩, ⟨(Lib.decDigits (v : Int).toNat).toArray⟩, ⟨(Lib.itoa (s : Int)).toArray⟩] := rfl
    have E : (⟨#[99, 114, 101, 97, 116, 101]⟩ ++ (⟨#[32]⟩ : ByteArray) ++ ⟨(Lib.decDigits v).toArray⟩ ++ (⟨#[32]⟩ : ByteArray) ++ ⟨(Lib.decDigits s).toArray⟩ : ByteArray) = ⟨(opTextL 1 v 0 s 0 0 []).toArray⟩ := by
      apply ByteArray.ext
      rw [opTextL, e]
      simp [join_two, join_one, Lib.itoa_nonneg]
    exact ⟨congrArg (fun z => Ending.returned (Value.string z)) E, HG.out.trans gri⟩
set_option maxRecDepth 100000 in
set_option maxHeartbeats 4000000 in
theorem ropText_2 (v : Nat) (A : Option Addr) (q : Nat) (w : World) [hk : Tb w] (hv : v ≤ 4294967295) :
    Calls Tryz.prog 17 #[.agg #[.int .i64 2, .int .u64 v, .int .u64 0, .int .i64 0, .int .i64 0, .int .i64 0, .slice A 0 q]] w fun e w' => e = .returned (.string ⟨(opTextL 2 v 0 0 0 0 []).toArray⟩) ∧ Gr w w' := by
  have HTv := Lib.hid (fun W => text01_any v (by omega) W)
  have lv := dec_len v (by omega)
  go_enter Tryz.func17, Tryz.ntmps17
  go_upto_region 1 with fail
  go_cut [3] (fun u wx => u = .string ⟨#[100, 101, 108, 101, 116, 101]⟩ ∧ Gr w wx ∧ Tb wx ∧ BlockAt wx w.heap.size #[.int .i64 2, .int .u64 v, .int .u64 0, .int .i64 0, .int .i64 0, .int .i64 0, .slice A 0 q] 26)
  case first =>
    go_region_with ((go_at_call 45; refine (kinds_any _).mono ?_; rintro e w' ⟨rfl, rfl⟩))
    all_goals
      go_wp2_with fail
      go_meet
      case rel => exact ⟨rfl, gri, inferInstance, inferInstance⟩
  case rest =>
    obtain ⟨rfl, hg, htb, hblk⟩ := hcut
    have x0 : wc.cell? ⟨w.heap.size, 0, none⟩ = some (.int .i64 2) := (block_cells _ _ _ _ _).trans rfl
    have xv : wc.cell? ⟨w.heap.size, 1, none⟩ = some (.int .u64 v) := (block_cells _ _ _ _ _).trans rfl
    have HG := Lib.hid hg; clear hg
    haveI : Old w.heap.size wc := hblk.old
    go_wp2_with (first | (go_at_call 46; ((with_reducible refine (HTv.out _).mono ?_); rintro _ _ ⟨rfl, g, rfl⟩)))
    go_ret
    have e : opPieces 2 v 0 0 0 0 [] = [⟨#[100, 101, 108, 101, 116, 101]⟩, ⟨(Lib.decDigits (v : Int).toNat).toArray⟩] := rfl
    have E : (⟨#[100, 101, 108, 101, 116, 101]⟩ ++ (⟨#[32]⟩ : ByteArray) ++ ⟨(Lib.decDigits v).toArray⟩ : ByteArray) = ⟨(opTextL 2 v 0 0 0 0 []).toArray⟩ := by
      apply ByteArray.ext
      rw [opTextL, e]
      simp [join_two, join_one, Lib.itoa_nonneg]
    exact ⟨congrArg (fun z => Ending.returned (Value.string z)) E, HG.out.trans gri⟩
set_option maxRecDepth 100000 in
set_option maxHeartbeats 4000000 in
theorem ropText_3 (v s : Nat) (A : Option Addr) (q : Nat) (w : World) [hk : Tb w] (hv : v ≤ 4294967295) (hs : s ≤ 256) :
    Calls Tryz.prog 17 #[.agg #[.int .i64 3, .int .u64 v, .int .u64 0, .int .i64 s, .int .i64 0, .int .i64 0, .slice A 0 q]] w fun e w' => e = .returned (.string ⟨(opTextL 3 v 0 s 0 0 []).toArray⟩) ∧ Gr w w' := by
  have HTv := Lib.hid (fun W => text01_any v (by omega) W)
  have lv := dec_len v (by omega)
  have HTs := Lib.hid (fun W => text26_any s (by omega) W)
  have ls := dec_len s (by omega)
  go_enter Tryz.func17, Tryz.ntmps17
  go_upto_region 1 with fail
  go_cut [3] (fun u wx => u = .string ⟨#[114, 101, 115, 105, 122, 101]⟩ ∧ Gr w wx ∧ Tb wx ∧ BlockAt wx w.heap.size #[.int .i64 3, .int .u64 v, .int .u64 0, .int .i64 s, .int .i64 0, .int .i64 0, .slice A 0 q] 26)
  case first =>
    go_region_with ((go_at_call 45; refine (kinds_any _).mono ?_; rintro e w' ⟨rfl, rfl⟩))
    all_goals
      go_wp2_with fail
      go_meet
      case rel => exact ⟨rfl, gri, inferInstance, inferInstance⟩
  case rest =>
    obtain ⟨rfl, hg, htb, hblk⟩ := hcut
    have x0 : wc.cell? ⟨w.heap.size, 0, none⟩ = some (.int .i64 3) := (block_cells _ _ _ _ _).trans rfl
    have xv : wc.cell? ⟨w.heap.size, 1, none⟩ = some (.int .u64 v) := (block_cells _ _ _ _ _).trans rfl
    have xs : wc.cell? ⟨w.heap.size, 3, none⟩ = some (.int .i64 s) := (block_cells _ _ _ _ _).trans rfl
    have HG := Lib.hid hg; clear hg
    haveI : Old w.heap.size wc := hblk.old
    go_wp2_with (first | (go_at_call 46; ((with_reducible refine (HTv.out _).mono ?_); rintro _ _ ⟨rfl, g, rfl⟩)) | (go_at_call 47; ((with_reducible refine (HTs.out _).mono ?_); rintro _ _ ⟨rfl, g, rfl⟩)))
    go_ret
    have e : opPieces 3 v 0 s 0 0 [] = [⟨#[114, 101, 115, 105, 122, 101]⟩, ⟨(Lib.decDigits (v : Int).toNat).toArray⟩, ⟨(Lib.itoa (s : Int)).toArray⟩] := rfl
    have E : (⟨#[114, 101, 115, 105, 122, 101]⟩ ++ (⟨#[32]⟩ : ByteArray) ++ ⟨(Lib.decDigits v).toArray⟩ ++ (⟨#[32]⟩ : ByteArray) ++ ⟨(Lib.decDigits s).toArray⟩ : ByteArray) = ⟨(opTextL 3 v 0 s 0 0 []).toArray⟩ := by
      apply ByteArray.ext
      rw [opTextL, e]
      simp [join_two, join_one, Lib.itoa_nonneg]
    exact ⟨congrArg (fun z => Ending.returned (Value.string z)) E, HG.out.trans gri⟩
set_option maxRecDepth 100000 in
set_option maxHeartbeats 4000000 in
theorem ropText_4 (v t : Nat) (A : Option Addr) (q : Nat) (w : World) [hk : Tb w] (hv : v ≤ 4294967295) (ht : t ≤ 4294967295) :
    Calls Tryz.prog 17 #[.agg #[.int .i64 4, .int .u64 v, .int .u64 t, .int .i64 0, .int .i64 0, .int .i64 0, .slice A 0 q]] w fun e w' => e = .returned (.string ⟨(opTextL 4 v t 0 0 0 []).toArray⟩) ∧ Gr w w' := by
  have HTv := Lib.hid (fun W => text01_any v (by omega) W)
  have lv := dec_len v (by omega)
  have HTt := Lib.hid (fun W => text01_any t (by omega) W)
  have lt := dec_len t (by omega)
  go_enter Tryz.func17, Tryz.ntmps17
  go_upto_region 1 with fail
  go_cut [3] (fun u wx => u = .string ⟨#[115, 110, 97, 112]⟩ ∧ Gr w wx ∧ Tb wx ∧ BlockAt wx w.heap.size #[.int .i64 4, .int .u64 v, .int .u64 t, .int .i64 0, .int .i64 0, .int .i64 0, .slice A 0 q] 26)
  case first =>
    go_region_with ((go_at_call 45; refine (kinds_any _).mono ?_; rintro e w' ⟨rfl, rfl⟩))
    all_goals
      go_wp2_with fail
      go_meet
      case rel => exact ⟨rfl, gri, inferInstance, inferInstance⟩
  case rest =>
    obtain ⟨rfl, hg, htb, hblk⟩ := hcut
    have x0 : wc.cell? ⟨w.heap.size, 0, none⟩ = some (.int .i64 4) := (block_cells _ _ _ _ _).trans rfl
    have xv : wc.cell? ⟨w.heap.size, 1, none⟩ = some (.int .u64 v) := (block_cells _ _ _ _ _).trans rfl
    have xt : wc.cell? ⟨w.heap.size, 2, none⟩ = some (.int .u64 t) := (block_cells _ _ _ _ _).trans rfl
    have HG := Lib.hid hg; clear hg
    haveI : Old w.heap.size wc := hblk.old
    go_wp2_with (first | (go_at_call 46; ((with_reducible refine (HTv.out _).mono ?_); rintro _ _ ⟨rfl, g, rfl⟩)) | (go_at_call 46; ((with_reducible refine (HTt.out _).mono ?_); rintro _ _ ⟨rfl, g, rfl⟩)))
    go_ret
    have e : opPieces 4 v t 0 0 0 [] = [⟨#[115, 110, 97, 112]⟩, ⟨(Lib.decDigits (v : Int).toNat).toArray⟩, ⟨(Lib.decDigits (t : Int).toNat).toArray⟩] := rfl
    have E : (⟨#[115, 110, 97, 112]⟩ ++ (⟨#[32]⟩ : ByteArray) ++ ⟨(Lib.decDigits v).toArray⟩ ++ (⟨#[32]⟩ : ByteArray) ++ ⟨(Lib.decDigits t).toArray⟩ : ByteArray) = ⟨(opTextL 4 v t 0 0 0 []).toArray⟩ := by
      apply ByteArray.ext
      rw [opTextL, e]
      simp [join_two, join_one, Lib.itoa_nonneg]
    exact ⟨congrArg (fun z => Ending.returned (Value.string z)) E, HG.out.trans gri⟩
set_option maxRecDepth 100000 in
set_option maxHeartbeats 4000000 in
theorem ropText_5 (v a : Nat) (A : Option Addr) (q : Nat) (d : List UInt8) (w : World) [hk : Tb w] (hv : v ≤ 4294967295) (ha : a ≤ 1048576) (hd : d.length ≤ 2048) (hq : d.length ≤ q) (hr : Row bv w A d) :
    Calls Tryz.prog 17 #[.agg #[.int .i64 5, .int .u64 v, .int .u64 0, .int .i64 0, .int .i64 a, .int .i64 0, .slice A d.length q]] w fun e w' => e = .returned (.string ⟨(opTextL 5 v 0 0 a 0 d).toArray⟩) ∧ Gr w w' := by
  have HTv := Lib.hid (fun W => text01_any v (by omega) W)
  have lv := dec_len v (by omega)
  have HTa := Lib.hid (fun W => text26_any a (by omega) W)
  have la := dec_len a (by omega)
  have HR := Lib.hid hr; clear hr
  have HTd := Lib.hid (fun W (hW : Gr w W) => rdata_any A d.length q d W rfl hq (by omega) (HR.out.gr hW))
  have ld := dataL_len d (by omega)
  go_enter Tryz.func17, Tryz.ntmps17
  go_upto_region 1 with fail
  go_cut [3] (fun u wx => u = .string ⟨#[119, 114, 105, 116, 101]⟩ ∧ Gr w wx ∧ Tb wx ∧ BlockAt wx w.heap.size #[.int .i64 5, .int .u64 v, .int .u64 0, .int .i64 0, .int .i64 a, .int .i64 0, .slice A d.length q] 26)
  case first =>
    go_region_with ((go_at_call 45; refine (kinds_any _).mono ?_; rintro e w' ⟨rfl, rfl⟩))
    all_goals
      go_wp2_with fail
      go_meet
      case rel => exact ⟨rfl, gri, inferInstance, inferInstance⟩
  case rest =>
    obtain ⟨rfl, hg, htb, hblk⟩ := hcut
    have x0 : wc.cell? ⟨w.heap.size, 0, none⟩ = some (.int .i64 5) := (block_cells _ _ _ _ _).trans rfl
    have xv : wc.cell? ⟨w.heap.size, 1, none⟩ = some (.int .u64 v) := (block_cells _ _ _ _ _).trans rfl
    have xa : wc.cell? ⟨w.heap.size, 4, none⟩ = some (.int .i64 a) := (block_cells _ _ _ _ _).trans rfl
    have xd : wc.cell? ⟨w.heap.size, 6, none⟩ = some (.slice A d.length q) := (block_cells _ _ _ _ _).trans rfl
    have HG := Lib.hid hg; clear hg
    haveI : Old w.heap.size wc := hblk.old
    haveI : GrC wc wc := inferInstance
    have HTe := Lib.hid (fun W (hW : GrC wc W) => HTd.out W (HG.out.trans (Gr.of hW.b)))
    go_wp2_with (first | (go_at_call 46; ((with_reducible refine (HTv.out _).mono ?_); rintro _ _ ⟨rfl, g, rfl⟩)) | (go_at_call 47; ((with_reducible refine (HTa.out _).mono ?_); rintro _ _ ⟨rfl, g, rfl⟩)))
    refine wp_region_grow (by kernel_rfl) (by kernel_rfl) ?_
    repeat (go_big_quiet_step ((first | (go_at_call 47; with_reducible exact grow_call (HTa.out _)) | (go_at_call 48; with_reducible exact grow_call (HTe.out _ inferInstance)))))
    refine wpQuiet_nil ?_
    intro g9
    go_wp2
    go_ret
    have e : opPieces 5 v 0 0 a 0 d = [⟨#[119, 114, 105, 116, 101]⟩, ⟨(Lib.decDigits (v : Int).toNat).toArray⟩, ⟨(Lib.itoa (a : Int)).toArray⟩, ⟨(dataL d).toArray⟩] := rfl
    have E : (⟨#[119, 114, 105, 116, 101]⟩ ++ (⟨#[32]⟩ : ByteArray) ++ ⟨(Lib.decDigits v).toArray⟩ ++ (⟨#[32]⟩ : ByteArray) ++ ⟨(Lib.decDigits a).toArray⟩ ++ (⟨#[32]⟩ : ByteArray) ++ ⟨(dataL d).toArray⟩ : ByteArray) = ⟨(opTextL 5 v 0 0 a 0 d).toArray⟩ := by
      apply ByteArray.ext
      rw [opTextL, e]
      simp [join_two, join_one, Lib.itoa_nonneg]
    exact ⟨congrArg (fun z => Ending.returned (Value.string z)) E, HG.out.trans gri⟩
set_option maxRecDepth 100000 in
set_option maxHeartbeats 4000000 in
theorem ropText_6 (v a c : Nat) (A : Option Addr) (q : Nat) (w : World) [hk : Tb w] (hv : v ≤ 4294967295) (ha : a ≤ 1048576) (hc : c ≤ 1024) :
    Calls Tryz.prog 17 #[.agg #[.int .i64 6, .int .u64 v, .int .u64 0, .int .i64 0, .int .i64 a, .int .i64 c, .slice A 0 q]] w fun e w' => e = .returned (.string ⟨(opTextL 6 v 0 0 a c []).toArray⟩) ∧ Gr w w' := by
  have HTv := Lib.hid (fun W => text01_any v (by omega) W)
  have lv := dec_len v (by omega)
  have HTa := Lib.hid (fun W => text26_any a (by omega) W)
  have la := dec_len a (by omega)
  have HTc := Lib.hid (fun W => text26_any c (by omega) W)
  have lc := dec_len c (by omega)
  go_enter Tryz.func17, Tryz.ntmps17
  go_upto_region 1 with fail
  go_cut [3] (fun u wx => u = .string ⟨#[122, 101, 114, 111]⟩ ∧ Gr w wx ∧ Tb wx ∧ BlockAt wx w.heap.size #[.int .i64 6, .int .u64 v, .int .u64 0, .int .i64 0, .int .i64 a, .int .i64 c, .slice A 0 q] 26)
  case first =>
    go_region_with ((go_at_call 45; refine (kinds_any _).mono ?_; rintro e w' ⟨rfl, rfl⟩))
    all_goals
      go_wp2_with fail
      go_meet
      case rel => exact ⟨rfl, gri, inferInstance, inferInstance⟩
  case rest =>
    obtain ⟨rfl, hg, htb, hblk⟩ := hcut
    have x0 : wc.cell? ⟨w.heap.size, 0, none⟩ = some (.int .i64 6) := (block_cells _ _ _ _ _).trans rfl
    have xv : wc.cell? ⟨w.heap.size, 1, none⟩ = some (.int .u64 v) := (block_cells _ _ _ _ _).trans rfl
    have xa : wc.cell? ⟨w.heap.size, 4, none⟩ = some (.int .i64 a) := (block_cells _ _ _ _ _).trans rfl
    have xc : wc.cell? ⟨w.heap.size, 5, none⟩ = some (.int .i64 c) := (block_cells _ _ _ _ _).trans rfl
    have HG := Lib.hid hg; clear hg
    haveI : Old w.heap.size wc := hblk.old
    go_wp2_with (first | (go_at_call 46; ((with_reducible refine (HTv.out _).mono ?_); rintro _ _ ⟨rfl, g, rfl⟩)) | (go_at_call 47; ((with_reducible refine (HTa.out _).mono ?_); rintro _ _ ⟨rfl, g, rfl⟩)) | (go_at_call 47; ((with_reducible refine (HTc.out _).mono ?_); rintro _ _ ⟨rfl, g, rfl⟩)))
    refine wp_region_grow (by kernel_rfl) (by kernel_rfl) ?_
    repeat (go_big_quiet_step ((first | (go_at_call 47; with_reducible exact grow_call (HTa.out _)) | (go_at_call 47; with_reducible exact grow_call (HTc.out _)))))
    refine wpQuiet_nil ?_
    intro g9
    go_wp2
    go_ret
    have e : opPieces 6 v 0 0 a c [] = [⟨#[122, 101, 114, 111]⟩, ⟨(Lib.decDigits (v : Int).toNat).toArray⟩, ⟨(Lib.itoa (a : Int)).toArray⟩, ⟨(Lib.itoa (c : Int)).toArray⟩] := rfl
    have E : (⟨#[122, 101, 114, 111]⟩ ++ (⟨#[32]⟩ : ByteArray) ++ ⟨(Lib.decDigits v).toArray⟩ ++ (⟨#[32]⟩ : ByteArray) ++ ⟨(Lib.decDigits a).toArray⟩ ++ (⟨#[32]⟩ : ByteArray) ++ ⟨(Lib.decDigits c).toArray⟩ : ByteArray) = ⟨(opTextL 6 v 0 0 a c []).toArray⟩ := by
      apply ByteArray.ext
      rw [opTextL, e]
      simp [join_two, join_one, Lib.itoa_nonneg]
    exact ⟨congrArg (fun z => Ending.returned (Value.string z)) E, HG.out.trans gri⟩
set_option maxRecDepth 100000 in
set_option maxHeartbeats 4000000 in
theorem ropText_7 (v a c : Nat) (A : Option Addr) (q : Nat) (w : World) [hk : Tb w] (hv : v ≤ 4294967295) (ha : a ≤ 1048576) (hc : c ≤ 1024) :
    Calls Tryz.prog 17 #[.agg #[.int .i64 7, .int .u64 v, .int .u64 0, .int .i64 0, .int .i64 a, .int .i64 c, .slice A 0 q]] w fun e w' => e = .returned (.string ⟨(opTextL 7 v 0 0 a c []).toArray⟩) ∧ Gr w w' := by
  have HTv := Lib.hid (fun W => text01_any v (by omega) W)
  have lv := dec_len v (by omega)
  have HTa := Lib.hid (fun W => text26_any a (by omega) W)
  have la := dec_len a (by omega)
  have HTc := Lib.hid (fun W => text26_any c (by omega) W)
  have lc := dec_len c (by omega)
  go_enter Tryz.func17, Tryz.ntmps17
  go_upto_region 1 with fail
  go_cut [3] (fun u wx => u = .string ⟨#[100, 105, 115, 99, 97, 114, 100]⟩ ∧ Gr w wx ∧ Tb wx ∧ BlockAt wx w.heap.size #[.int .i64 7, .int .u64 v, .int .u64 0, .int .i64 0, .int .i64 a, .int .i64 c, .slice A 0 q] 26)
  case first =>
    go_region_with ((go_at_call 45; refine (kinds_any _).mono ?_; rintro e w' ⟨rfl, rfl⟩))
    all_goals
      go_wp2_with fail
      go_meet
      case rel => exact ⟨rfl, gri, inferInstance, inferInstance⟩
  case rest =>
    obtain ⟨rfl, hg, htb, hblk⟩ := hcut
    have x0 : wc.cell? ⟨w.heap.size, 0, none⟩ = some (.int .i64 7) := (block_cells _ _ _ _ _).trans rfl
    have xv : wc.cell? ⟨w.heap.size, 1, none⟩ = some (.int .u64 v) := (block_cells _ _ _ _ _).trans rfl
    have xa : wc.cell? ⟨w.heap.size, 4, none⟩ = some (.int .i64 a) := (block_cells _ _ _ _ _).trans rfl
    have xc : wc.cell? ⟨w.heap.size, 5, none⟩ = some (.int .i64 c) := (block_cells _ _ _ _ _).trans rfl
    have HG := Lib.hid hg; clear hg
    haveI : Old w.heap.size wc := hblk.old
    go_wp2_with (first | (go_at_call 46; ((with_reducible refine (HTv.out _).mono ?_); rintro _ _ ⟨rfl, g, rfl⟩)) | (go_at_call 47; ((with_reducible refine (HTa.out _).mono ?_); rintro _ _ ⟨rfl, g, rfl⟩)) | (go_at_call 47; ((with_reducible refine (HTc.out _).mono ?_); rintro _ _ ⟨rfl, g, rfl⟩)))
    refine wp_region_grow (by kernel_rfl) (by kernel_rfl) ?_
    repeat (go_big_quiet_step ((first | (go_at_call 47; with_reducible exact grow_call (HTa.out _)) | (go_at_call 47; with_reducible exact grow_call (HTc.out _)))))
    refine wpQuiet_nil ?_
    intro g9
    go_wp2
    go_ret
    have e : opPieces 7 v 0 0 a c [] = [⟨#[100, 105, 115, 99, 97, 114, 100]⟩, ⟨(Lib.decDigits (v : Int).toNat).toArray⟩, ⟨(Lib.itoa (a : Int)).toArray⟩, ⟨(Lib.itoa (c : Int)).toArray⟩] := rfl
    have E : (⟨#[100, 105, 115, 99, 97, 114, 100]⟩ ++ (⟨#[32]⟩ : ByteArray) ++ ⟨(Lib.decDigits v).toArray⟩ ++ (⟨#[32]⟩ : ByteArray) ++ ⟨(Lib.decDigits a).toArray⟩ ++ (⟨#[32]⟩ : ByteArray) ++ ⟨(Lib.decDigits c).toArray⟩ : ByteArray) = ⟨(opTextL 7 v 0 0 a c []).toArray⟩ := by
      apply ByteArray.ext
      rw [opTextL, e]
      simp [join_two, join_one, Lib.itoa_nonneg]
    exact ⟨congrArg (fun z => Ending.returned (Value.string z)) E, HG.out.trans gri⟩
set_option maxRecDepth 100000 in
set_option maxHeartbeats 4000000 in
theorem ropText_8 (A : Option Addr) (q : Nat) (w : World) [hk : Tb w]  :
    Calls Tryz.prog 17 #[.agg #[.int .i64 8, .int .u64 0, .int .u64 0, .int .i64 0, .int .i64 0, .int .i64 0, .slice A 0 q]] w fun e w' => e = .returned (.string ⟨(opTextL 8 0 0 0 0 0 []).toArray⟩) ∧ Gr w w' := by
  go_enter Tryz.func17, Tryz.ntmps17
  go_upto_region 1 with fail
  go_cut [3] (fun u wx => u = .string ⟨#[102, 108, 117, 115, 104]⟩ ∧ Gr w wx ∧ Tb wx ∧ BlockAt wx w.heap.size #[.int .i64 8, .int .u64 0, .int .u64 0, .int .i64 0, .int .i64 0, .int .i64 0, .slice A 0 q] 26)
  case first =>
    go_region_with ((go_at_call 45; refine (kinds_any _).mono ?_; rintro e w' ⟨rfl, rfl⟩))
    all_goals
      go_wp2_with fail
      go_meet
      case rel => exact ⟨rfl, gri, inferInstance, inferInstance⟩
  case rest =>
    obtain ⟨rfl, hg, htb, hblk⟩ := hcut
    have x0 : wc.cell? ⟨w.heap.size, 0, none⟩ = some (.int .i64 8) := (block_cells _ _ _ _ _).trans rfl
    have HG := Lib.hid hg; clear hg
    haveI : Old w.heap.size wc := hblk.old
    go_wp2
    go_ret
    have e : opPieces 8 0 0 0 0 0 [] = [⟨#[102, 108, 117, 115, 104]⟩] := rfl
    have E : (⟨#[102, 108, 117, 115, 104]⟩ : ByteArray) = ⟨(opTextL 8 0 0 0 0 0 []).toArray⟩ := by
      apply ByteArray.ext
      rw [opTextL, e]
      simp [join_two, join_one, Lib.itoa_nonneg]
    exact ⟨congrArg (fun z => Ending.returned (Value.string z)) E, HG.out.trans gri⟩
set_option maxRecDepth 100000 in
set_option maxHeartbeats 4000000 in
theorem ropText_9 (v a c : Nat) (A : Option Addr) (q : Nat) (w : World) [hk : Tb w] (hv : v ≤ 4294967295) (ha : a ≤ 1048576) (hc : c ≤ 1024) :
    Calls Tryz.prog 17 #[.agg #[.int .i64 9, .int .u64 v, .int .u64 0, .int .i64 0, .int .i64 a, .int .i64 c, .slice A 0 q]] w fun e w' => e = .returned (.string ⟨(opTextL 9 v 0 0 a c []).toArray⟩) ∧ Gr w w' := by
  have HTv := Lib.hid (fun W => text01_any v (by omega) W)
  have lv := dec_len v (by omega)
  have HTa := Lib.hid (fun W => text26_any a (by omega) W)
  have la := dec_len a (by omega)
  have HTc := Lib.hid (fun W => text26_any c (by omega) W)
  have lc := dec_len c (by omega)
  go_enter Tryz.func17, Tryz.ntmps17
  go_upto_region 1 with fail
  go_cut [3] (fun u wx => u = .string ⟨#[114, 101, 97, 100]⟩ ∧ Gr w wx ∧ Tb wx ∧ BlockAt wx w.heap.size #[.int .i64 9, .int .u64 v, .int .u64 0, .int .i64 0, .int .i64 a, .int .i64 c, .slice A 0 q] 26)
  case first =>
    go_region_with ((go_at_call 45; refine (kinds_any _).mono ?_; rintro e w' ⟨rfl, rfl⟩))
    all_goals
      go_wp2_with fail
      go_meet
      case rel => exact ⟨rfl, gri, inferInstance, inferInstance⟩
  case rest =>
    obtain ⟨rfl, hg, htb, hblk⟩ := hcut
    have x0 : wc.cell? ⟨w.heap.size, 0, none⟩ = some (.int .i64 9) := (block_cells _ _ _ _ _).trans rfl
    have xv : wc.cell? ⟨w.heap.size, 1, none⟩ = some (.int .u64 v) := (block_cells _ _ _ _ _).trans rfl
    have xa : wc.cell? ⟨w.heap.size, 4, none⟩ = some (.int .i64 a) := (block_cells _ _ _ _ _).trans rfl
    have xc : wc.cell? ⟨w.heap.size, 5, none⟩ = some (.int .i64 c) := (block_cells _ _ _ _ _).trans rfl
    have HG := Lib.hid hg; clear hg
    haveI : Old w.heap.size wc := hblk.old
    go_wp2_with (first | (go_at_call 46; ((with_reducible refine (HTv.out _).mono ?_); rintro _ _ ⟨rfl, g, rfl⟩)) | (go_at_call 47; ((with_reducible refine (HTa.out _).mono ?_); rintro _ _ ⟨rfl, g, rfl⟩)) | (go_at_call 47; ((with_reducible refine (HTc.out _).mono ?_); rintro _ _ ⟨rfl, g, rfl⟩)))
    refine wp_region_grow (by kernel_rfl) (by kernel_rfl) ?_
    repeat (go_big_quiet_step ((first | (go_at_call 47; with_reducible exact grow_call (HTa.out _)) | (go_at_call 47; with_reducible exact grow_call (HTc.out _)))))
    refine wpQuiet_nil ?_
    intro g9
    go_wp2
    go_ret
    have e : opPieces 9 v 0 0 a c [] = [⟨#[114, 101, 97, 100]⟩, ⟨(Lib.decDigits (v : Int).toNat).toArray⟩, ⟨(Lib.itoa (a : Int)).toArray⟩, ⟨(Lib.itoa (c : Int)).toArray⟩] := rfl
    have E : (⟨#[114, 101, 97, 100]⟩ ++ (⟨#[32]⟩ : ByteArray) ++ ⟨(Lib.decDigits v).toArray⟩ ++ (⟨#[32]⟩ : ByteArray) ++ ⟨(Lib.decDigits a).toArray⟩ ++ (⟨#[32]⟩ : ByteArray) ++ ⟨(Lib.decDigits c).toArray⟩ : ByteArray) = ⟨(opTextL 9 v 0 0 a c []).toArray⟩ := by
      apply ByteArray.ext
      rw [opTextL, e]
      simp [join_two, join_one, Lib.itoa_nonneg]
    exact ⟨congrArg (fun z => Ending.returned (Value.string z)) E, HG.out.trans gri⟩
end Go.Proofs.YtgjdgafoidppaaaGreatDoor
