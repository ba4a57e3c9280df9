/- The reference's Hex, digit, Unhex, row, DataText, data. Conditions: what is read stands in memory; at most 10^6 bytes. The reference's DataText. Conditions: what is read stands in memory; at most 60000 bytes. The reference's digit, Unhex. Conditions: a text of at most 10^6 bytes. The reference's place, Kinds. Conditions: the words stand in memory. The reference's data: whole sectors that are read. Conditions: a text of at most 200000 bytes. The reference's OpText. Conditions: an operation that may be; what is read stands in memory. -/
import Derived.Test.YtgjdgafoidppaaaGreatDoorQ11
import Derived.Test.YtgjdgafoidppaaaGreatDoorQ05
namespace Go.Proofs.YtgjdgafoidppaaaGreatDoor
open Go.RowKit
set_option linter.unusedVariables false
set_option linter.unusedSimpArgs false
set_option linter.unnecessarySimpa false
theorem hexcut_fin : ∀ i : Fin 16, (⟨#[48, 49, 50, 51, 52, 53, 54, 55, 56, 57, 97, 98, 99, 100, 101, 102]⟩ : ByteArray).extract i.val (i.val + 1) = ⟨#[hexd i.val]⟩ := by decide +kernel
theorem hexcut (i : Nat) (h : i < 16) : (⟨#[48, 49, 50, 51, 52, 53, 54, 55, 56, 57, 97, 98, 99, 100, 101, 102]⟩ : ByteArray).extract i (i + 1) = ⟨#[hexd i]⟩ := hexcut_fin ⟨i, h⟩
theorem u8_wrap (n : Int) : IntKind.u8.wrap n = n % 256 := by simp [IntKind.wrap, IntKind.bits, IntKind.signed]
set_option maxRecDepth 100000 in
set_option maxHeartbeats 2000000 in
theorem rhex_any (A : Option Addr) (n c : Nat) (l : List UInt8) (w : World) (hl : l.length = n) (hnc : n ≤ c) (hn : n ≤ 1000000) (h : Row bv w A l) :
    Calls Tryz.prog 94 #[.slice A n c] w fun e w' => e = .returned (.string ⟨(hexL l).toArray⟩) ∧ Gr w w' := by
  have HL := Lib.hid hl; clear hl
  have H := Lib.hid h; clear h
  go_enter Tryz.func94, Tryz.ntmps94
  go_wp2
  go_loopw [4, 5] (fun v i wr => ∃ k : Nat, i = .int .i64 k ∧ k ≤ n ∧ v = .string ⟨(hexL (l.take k)).toArray⟩ ∧ Gr w wr) (fun _ i _ => n - (intOf i).toNat)
  case atStart => exact ⟨0, rfl, Nat.zero_le _, rfl, Gr.refl _⟩
  case round =>
    obtain ⟨k, rfl, hk, rfl, hg⟩ := hrel
    have HG := Lib.hid hg; clear hg
    by_cases hlt : k < n
    · have hkx : k < l.length := by have := HL.out; omega
      obtain ⟨x, hx⟩ : ∃ x, l[k]? = some x := ⟨l[k], List.getElem?_eq_getElem hkx⟩
      obtain ⟨b, o, rfl, hb, hc⟩ := (H.out.gr HG.out).at_ (by intro e; subst e; simp at hkx)
      have c1 := hc k x hx
      clear hc
      simp only [bv] at c1
      have HX := Lib.hid hx; clear hx hkx
      have hu := x.toNat_lt
      generalize hxu : x.toNat = u at c1 hu
      have HU := Lib.hid hxu; clear hxu
      have hu2 : u < 256 := by omega
      have hsl : (hexL (l.take k)).length ≤ 2000000 := by rw [hexL_len, List.length_take]; omega
      generalize hhs : hexL (l.take k) = hs at *
      have HHS := Lib.hid hhs; clear hhs
      have q1 : IntKind.u8.wrap ((u : Int) / 16) = ((u / 16 : Nat) : Int) := by rw [u8_wrap]; omega
      have q2 : IntKind.u8.wrap (((u / 16 : Nat) : Int) + 1) = ((u / 16 + 1 : Nat) : Int) := by rw [u8_wrap]; omega
      have r1 : IntKind.u8.wrap ((u : Int) % 16) = ((u % 16 : Nat) : Int) := by rw [u8_wrap]; omega
      have r2 : IntKind.u8.wrap (((u % 16 : Nat) : Int) + 1) = ((u % 16 + 1 : Nat) : Int) := by rw [u8_wrap]; omega
      have x1 := hexcut (u / 16) (by omega)
      have x2 := hexcut (u % 16) (by omega)
      have d1 : u / 16 < 16 := by omega
      have d2 : u % 16 < 16 := by omega
      generalize hua : u / 16 = ua at *
      have HUA := Lib.hid hua; clear hua
      have X2 := Lib.hid x2
      go_wp2
      go_region
      go_wp2
      go_roundw
      case rel =>
        refine ⟨k + 1, by go_num, by omega, ?_, HG.out.trans (Gr.of (Below.refl _ _).drew)⟩
        have e1 : l.take (k + 1) = l.take k ++ [x] := by rw [List.take_add_one, HX.out]; rfl
        rw [e1, hexL_snoc, HHS.out, HU.out, HUA.out]
        have := X2.out
        try simp only [this]
        apply congrArg
        apply ByteArray.ext
        simp
      case measure => simp [intOf]; omega
    · have hkn : k = n := by omega
      have e1 : l.take k = l := List.take_of_length_le (by have := HL.out; omega)
      rw [e1]
      go_wp2
      go_ret
      exact ⟨rfl, HG.out⟩
theorem join_snoc44 (ls : List (List UInt8)) (hne : ls ≠ []) (x : List UInt8) : Lib.join (ls ++ [x]) [44] = Lib.join ls [44] ++ [44] ++ x := by
  induction ls with
  | nil => exact absurd rfl hne
  | cons a ls ih =>
    cases ls with
    | nil => simp [join_one, join_two]
    | cons b ls =>
      have := ih (by simp)
      rw [List.cons_append, List.cons_append, join_two, ← List.cons_append, this, join_two]
      simp [List.append_assoc]
theorem join_take_le (ls : List (List UInt8)) (k : Nat) : (Lib.join (ls.take k) [44]).length ≤ (Lib.join ls [44]).length := by
  induction ls generalizing k with
  | nil => simp
  | cons a ls ih =>
    cases k with
    | zero => simp [Lib.join]
    | succ k =>
      cases ls with
      | nil => simp
      | cons b ls =>
        cases k with
        | zero => simp [join_one, join_two]
        | succ k =>
          have := ih (k + 1)
          rw [List.take_succ_cons, List.take_succ_cons, join_two, join_two, ← List.take_succ_cons]
          simp only [List.length_append]
          omega
set_option maxRecDepth 100000 in
set_option maxHeartbeats 2000000 in
theorem rrow_any (A : Option Addr) (n c : Nat) (xs : List ByteArray) (w : World) (hl : xs.length = n) (hnc : n ≤ c) (hn : n ≤ 1000000) (hj : (Lib.join (xs.map (·.data.toList)) [44]).length ≤ 1000000000) (h : Row Value.string w A xs) :
    Calls Tryz.prog 63 #[.slice A n c] w fun e w' => e = .returned (.string ⟨(rowL xs).toArray⟩) ∧ Gr w w' := by
  rcases Nat.eq_zero_or_pos n with h0 | h0
  · subst h0
    obtain rfl : xs = [] := List.eq_nil_of_length_eq_zero hl
    go_enter Tryz.func63, Tryz.ntmps63
    go_wp2
    go_ret
    exact ⟨rfl, Gr.refl _⟩
  · have hx0 : xs ≠ [] := by rintro rfl; simp at hl; omega
    obtain ⟨b, o, rfl, hb, hc⟩ := h.at_ hx0
    obtain ⟨x0, hx⟩ : ∃ x, xs[0]? = some x := ⟨xs[0]'(by omega), List.getElem?_eq_getElem _⟩
    have c0 : w.cell? ⟨b, o, none⟩ = some (.string x0) := hc 0 x0 hx
    have HC := Lib.hid hc; have HL := Lib.hid hl; have HJ := Lib.hid hj; have HX0 := Lib.hid hx; have HNE := Lib.hid hx0
    clear hc hl hj h hx hx0
    have f0 : ((n : Int) == 0) = false := by simp; omega
    have f1 : (0 : Int) < (n : Int) := by omega
    go_enter Tryz.func63, Tryz.ntmps63
    go_wp2
    go_loopw [3, 4] (fun v i wr => ∃ k : Nat, i = .int .i64 k ∧ 1 ≤ k ∧ k ≤ n ∧ v = .string ⟨(Lib.join ((xs.take k).map (·.data.toList)) [44]).toArray⟩ ∧ Gr w wr) (fun _ i _ => n - (intOf i).toNat)
    case atStart =>
      refine ⟨1, rfl, Nat.le_refl _, h0, ?_, Gr.refl _⟩
      have : xs.take 1 = [x0] := by
        have := HX0.out
        cases xs with
        | nil => cases this
        | cons y r => simp at this; subst this; rfl
      rw [this]
      simp [join_one]
    case round =>
      obtain ⟨k, rfl, hk1, hk, rfl, hg⟩ := hrel
      by_cases hlt : k < n
      · have hkx : k < xs.length := by have := HL.out; omega
        obtain ⟨x, hx⟩ : ∃ x, xs[k]? = some x := ⟨xs[k], List.getElem?_eq_getElem hkx⟩
        have c1 := (hg.below.cell (p := ⟨b, o + k, none⟩) hb).trans (HC.out k x hx)
        have e1 : (xs.take (k + 1)).map (·.data.toList) = (xs.take k).map (·.data.toList) ++ [x.data.toList] := by rw [List.take_add_one, hx]; simp
        have hne : (xs.take k).map (·.data.toList) ≠ [] := by
          intro e
          have := congrArg List.length e
          rw [List.length_map, List.length_take, List.length_nil] at this
          omega
        have e2 := join_snoc44 _ hne x.data.toList
        rw [← e1] at e2
        have hle := join_take_le (xs.map (·.data.toList)) (k + 1)
        rw [← List.map_take, e2] at hle
        have hj2 := HJ.out
        simp only [List.length_append, List.length_singleton] at hle
        have E2 := Lib.hid e2; clear e2 e1 hne hx hkx
        have hxs : x.data.toList.length = x.size := (Lib.size_eq x).symm
        rw [hxs] at hle
        have HG := Lib.hid hg; clear hg
        generalize hJ : Lib.join ((xs.take k).map (·.data.toList)) [44] = js at *
        have hjs : js.length ≤ 1000000000 := by omega
        have hxz : x.size ≤ 1000000000 := by omega
        clear hle hj2 hxs
        go_wp2
        go_roundw
        case rel =>
          refine ⟨k + 1, by go_num, by omega, by omega, ?_, HG.out⟩
          rw [E2.out]
          apply congrArg
          apply ByteArray.ext
          simp
        case measure => simp [intOf]; omega
      · have hkn : k = n := by omega
        have e1 : xs.take k = xs := List.take_of_length_le (by have := HL.out; omega)
        rw [e1]
        have HG := Lib.hid hg; clear hg
        go_wp2
        go_ret
        exact ⟨by rw [rowL, if_neg HNE.out]; rfl, HG.out⟩
end Go.Proofs.YtgjdgafoidppaaaGreatDoor
namespace Go.Proofs.YtgjdgafoidppaaaGreatDoor
open Go.RowKit
set_option linter.unusedVariables false
set_option linter.unusedSimpArgs false
set_option linter.unnecessarySimpa false
set_option maxRecDepth 100000 in
set_option maxHeartbeats 4000000 in
theorem rdata_any (A : Option Addr) (n c : Nat) (l : List UInt8) (w : World) (hl : l.length = n) (hnc : n ≤ c) (hn : n ≤ 60000) (hr : Row bv w A l) :
    Calls Tryz.prog 48 #[.slice A n c] w fun e w' => e = .returned (.string ⟨(dataL l).toArray⟩) ∧ Gr w w' := by
  have HR := Lib.hid hr; clear hr
  have HL := Lib.hid hl; clear hl
  go_enter Tryz.func48, Tryz.ntmps48
  go_wp2
  go_loopw [3, 4] (fun v i wr => ∃ k : Nat, i = .int .i64 k ∧ k ≤ n / 64 ∧ OwnS w.heap.size wr v (secs l k) ∧ Below w.heap.size w wr) (fun _ i _ => n - (intOf i).toNat)
  case atStart => exact ⟨0, rfl, Nat.zero_le _, OwnS.nil _ _, Below.refl _ _⟩
  case round =>
    obtain ⟨k, rfl, hk, hown, hbw⟩ := hrel
    have hq0 : Int.tdiv (n : Int) 64 = ((n / 64 : Nat) : Int) := by rw [Int.tdiv_eq_ediv_of_nonneg (by omega)]; omega
    have HOWN := Lib.hid hown; have HB := Lib.hid hbw; clear hown hbw
    have hszw := HB.out.size
    generalize hqq : n / 64 = q at *
    by_cases hlt : k < q
    · have hlen : ((l.drop (64 * k)).take 64).length = 64 := by
        have := HL.out; rw [List.length_take, List.length_drop]; omega
      have hcut : Row bv w (A.map (·.add (64 * k))) ((l.drop (64 * k)).take 64) := HR.out.cut _ _
      obtain ⟨b, o, hA, hb, hc⟩ := HR.out.at_ (by intro e; have := HL.out; rw [e] at this; simp at this; omega)
      subst hA
      have hcell : ∀ (j : Nat) (x : UInt8), ((l.drop (64 * k)).take 64)[j]? = some x → w.cell? ⟨b, o + (64 * k + j), none⟩ = some (bv x) := by
        intro j x hj
        rw [List.getElem?_take] at hj
        split at hj
        · rw [List.getElem?_drop] at hj
          exact hc _ _ hj
        · cases hj
      have hcut2 : ∀ m, Row bv w (some ⟨b, o + 64 * k, none⟩) (((l.drop (64 * k)).take 64).take m) := fun m => by
        have := hcut.cut 0 m
        rw [List.drop_zero] at this
        simpa only [Option.map_some, Go.WideShapes.add_plain, Nat.add_zero] using this
      have hsec : secs l (k + 1) = secs l k ++ [⟨(secL ((l.drop (64 * k)).take 64)).toArray⟩] := secs_succ l k
      have HSEC := Lib.hid hsec; clear hsec
      generalize (l.drop (64 * k)).take 64 = sl at *
      have HC := Lib.hid hcell; have HCUT := Lib.hid hcut2; have HLEN := Lib.hid hlen
      clear hcell hcut2 hlen hcut hc
      go_wp2
      go_loopw [5] (fun i wx => ∃ m : Nat, i = .int .i64 m ∧ m ≤ 64 ∧ Hid (trimZ (sl.take m) = trimZ sl) ∧ wx = wr) (fun i _ => (intOf i).toNat)
      case atStart => exact ⟨64, rfl, Nat.le_refl _, by rw [List.take_of_length_le (by have := HLEN.out; omega)]; exact Lib.hid rfl, rfl⟩
      case round =>
        obtain ⟨m, rfl, hm, hT, rfl⟩ := hrel
        rcases Nat.eq_zero_or_pos m with h0 | h0
        · subst h0
          have e0 : (⟨(secL sl).toArray⟩ : ByteArray) = ⟨#[45]⟩ := by
            have := hT.out
            have e1 : trimZ sl = [] := by rw [← this]; rfl
            simp [secL, e1]
          have E := Lib.hid e0; clear e0
          go_wp2_with (at_builtin; refine wp_append_str rfl _ _ rfl w.heap.size ?vv1 (secs l k) ?hs1 ?own1 _ ⟨#[45]⟩ rfl ?hc1 (by rw [secs_len]; omega) ?hb1 ?_)
          case hs1 => rfl
          case own1 => first | exact HOWN.out.alloc_ _ | exact (HOWN.out.grown_ _).alloc_ _
          case hc1 => simp [go_sem]
          case hb1 => simp; omega
          intro v2 W2 a2
          have hown2 := a2.own
          have hb2 := Below.trans (by repeat (first | with_reducible exact HB.out | with_reducible apply below_alloc | with_reducible refine below_trans ?_ (grown_below _ _))) a2.below
          clear a2
          go_wp2
          go_roundw
          case rel =>
            refine ⟨k + 1, by go_num, by omega, ?_, hb2⟩
            rw [HSEC.out, E.out]
            exact hown2
          case measure => simp [intOf]; omega
        · obtain ⟨q2, rfl⟩ : ∃ q, m = q + 1 := ⟨m - 1, by omega⟩
          have hqx : q2 < sl.length := by have := HLEN.out; omega
          obtain ⟨x, hx⟩ : ∃ x, sl[q2]? = some x := ⟨sl[q2], List.getElem?_eq_getElem hqx⟩
          have c1 := (HB.out.cell (p := ⟨b, o + (64 * k + q2), none⟩) hb).trans (HC.out q2 x hx)
          simp only [bv] at c1
          have HX := Lib.hid hx; clear hx hqx h0
          have i1 : 64 * (k : Int) + ((q2 + 1 : Nat) : Int) - 1 = ((64 * k + q2 : Nat) : Int) := by omega
          by_cases hz : x = 0
          · have hxu : x.toNat = 0 := by rw [hz]; rfl
            have hb0 : ((x.toNat : Int) == 0) = true := by simp [hxu]
            have HZ := Lib.hid hz; clear hz hxu
            go_wp2
            go_roundw
            case rel => exact ⟨q2, by go_num, by omega, by
              have := hT.out
              rw [take_snoc1 HX.out, HZ.out, trimZ_zero] at this
              exact Lib.hid this, trivial⟩
            case measure => simp [intOf]
          · have hxu : x.toNat ≠ 0 := fun h => hz (UInt8.toNat_inj.1 (by simpa using h))
            have hb0 : ((x.toNat : Int) == 0) = false := by simp; omega
            have e1 : trimZ sl = sl.take (q2 + 1) := by
              have := hT.out
              rw [take_snoc1 HX.out, trimZ_ne _ _ hz] at this
              rw [take_snoc1 HX.out]; exact this.symm
            have e2 : (⟨(secL sl).toArray⟩ : ByteArray) = ⟨(hexL (sl.take (q2 + 1))).toArray⟩ := by
              have hne : sl.take (q2 + 1) ≠ [] := by rw [take_snoc1 HX.out]; simp
              rw [secL, e1, if_neg hne]
            have E := Lib.hid e2; clear e2 e1 hz hxu hT
            have hlt2 : (sl.take (q2 + 1)).length = q2 + 1 := by
              have := HLEN.out; rw [List.length_take]; omega
            have HT := Lib.hid hlt2; clear hlt2
            have hHX : ∀ c', q2 + 1 ≤ c' → Calls Tryz.prog 94 #[.slice (some ⟨b, o + 64 * k, none⟩) (q2 + 1) c'] wr fun e w' => e = .returned (.string ⟨(hexL (sl.take (q2 + 1))).toArray⟩) ∧ Gr wr w' :=
              fun c' hc' => rhex_any _ _ _ _ wr HT.out hc' (by omega) ((HCUT.out (q2 + 1)).gr (Gr.of HB.out))
            have HHX := Lib.hid (hHX (c - 64 * k) (by omega)); clear hHX
            go_wp2_with ((go_at_call 94; ((with_reducible refine HHX.out.mono ?_))))
            rintro _ W1 ⟨rfl, hg⟩
            have hg1 := hg.below.size
            go_wp2_with (at_builtin; refine wp_append_str rfl _ _ rfl w.heap.size ?vv2 (secs l k) ?hs2 ?own2 _ ⟨(hexL (sl.take (q2 + 1))).toArray⟩ rfl ?hc2 (by rw [secs_len]; omega) ?hb2 ?_)
            case hs2 => rfl
            case own2 => first | exact HOWN.out.alloc_ _ | exact (HOWN.out.gr hg).alloc_ _
            case hc2 => simp [go_sem]
            case hb2 => simp; omega
            intro v2 W2 a2
            have hown2 := a2.own
            have hb2 := Below.trans (below_alloc (below_trans HB.out hg.below) _) a2.below
            clear a2
            go_wp2
            go_roundw
            case rel =>
              refine ⟨k + 1, by go_num, by omega, ?_, hb2⟩
              rw [HSEC.out, E.out]
              exact hown2
            case measure => simp [intOf]; omega
    · obtain rfl : k = q := by omega
      have e0 : dataL l = rowL (secs l k) := by rw [dataL, HL.out, hqq]
      have E := Lib.hid e0; clear e0
      have hJ := Lib.hid (secs_join l k)
      have hSL := Lib.hid (secs_len l k)
      obtain ⟨VA, vc, hv, hvc, hrow⟩ := HOWN.out.form
      rw [secs_len] at hvc hv
      subst hv
      have HROW := Lib.hid hrow; clear hrow
      have HRW := Lib.hid (rrow_any VA k vc (secs l k) wr hSL.out hvc (by omega) (by have := hJ.out; omega) HROW.out)
      go_wp2_with ((go_at_call 63; ((with_reducible refine HRW.out.mono ?_))))
      rintro _ W1 ⟨rfl, hg⟩
      go_wp2
      go_ret
      exact ⟨by rw [E.out]; rfl, Gr.of (below_trans HB.out hg.below)⟩
end Go.Proofs.YtgjdgafoidppaaaGreatDoor
namespace Go.Proofs.YtgjdgafoidppaaaGreatDoor
open Go.RowKit
set_option linter.unusedVariables false
set_option linter.unusedSimpArgs false
set_option linter.unnecessarySimpa false
def hexw (u : Nat) : Int := if hexv u < 0 then 16 else hexv u
theorem digit_any (u : Nat) (hu : u < 256) (w : World) : Calls Tryz.prog 123 #[.int .u8 u] w fun e w' => e = .returned (.int .i64 (hexw u)) ∧ Gr w w' := by
  by_cases h1 : 48 ≤ u
  · by_cases h2 : u ≤ 57
    · have e : hexw u = (u : Int) - 48 := by have hv : hexv u = (u : Int) - 48 := by { unfold hexv; rw [if_pos ⟨h1, h2⟩] }; rw [hexw, hv, if_neg (by omega)]
      rw [e]
      have d1 : decide ((48 : Int) ≤ (u : Int)) = true := decide_eq_true (by omega)
      have d2 : decide ((u : Int) ≤ 57) = true := decide_eq_true (by omega)
      have q1 : IntKind.u8.wrap ((u : Int) - 48) = (u : Int) - 48 := by rw [u8_wrap]; omega
      have q2 : IntKind.i64.wrap ((u : Int) - 48) = (u : Int) - 48 := by rw [IntKind.wrap_i64]; omega
      go_enter Tryz.func123, Tryz.ntmps123
      go_wp2
      go_ret
      exact ⟨rfl, Gr.refl _⟩
    · have d1 : decide ((48 : Int) ≤ (u : Int)) = true := decide_eq_true (by omega)
      have d2 : decide ((u : Int) ≤ 57) = false := decide_eq_false (by omega)
      by_cases h3 : 97 ≤ u
      · have d3 : decide ((97 : Int) ≤ (u : Int)) = true := decide_eq_true (by omega)
        by_cases h4 : u ≤ 102
        · have d4 : decide ((u : Int) ≤ 102) = true := decide_eq_true (by omega)
          have e : hexw u = (u : Int) - 87 := by have hv : hexv u = (u : Int) - 87 := by { unfold hexv; rw [if_neg (by omega), if_pos ⟨h3, h4⟩] }; rw [hexw, hv, if_neg (by omega)]
          rw [e]
          have q1 : IntKind.u8.wrap ((u : Int) - 97) = (u : Int) - 97 := by rw [u8_wrap]; omega
          have q2 : IntKind.i64.wrap ((u : Int) - 97) = (u : Int) - 97 := by rw [IntKind.wrap_i64]; omega
          have q3 : (u : Int) - 97 + 10 = (u : Int) - 87 := by omega
          go_enter Tryz.func123, Tryz.ntmps123
          go_wp2
          go_ret
          exact ⟨by rw [← q3]; rfl, Gr.refl _⟩
        · have d4 : decide ((u : Int) ≤ 102) = false := decide_eq_false (by omega)
          have e : hexw u = 16 := by have hv : hexv u = -1 := by { unfold hexv; rw [if_neg (by omega), if_neg (by omega)] }; rw [hexw, hv, if_pos (by omega)]
          rw [e]
          go_enter Tryz.func123, Tryz.ntmps123
          go_wp2
          go_ret
          exact ⟨rfl, Gr.refl _⟩
      · have d3 : decide ((97 : Int) ≤ (u : Int)) = false := decide_eq_false (by omega)
        have e : hexw u = 16 := by have hv : hexv u = -1 := by { unfold hexv; rw [if_neg (by omega), if_neg (by omega)] }; rw [hexw, hv, if_pos (by omega)]
        rw [e]
        go_enter Tryz.func123, Tryz.ntmps123
        go_wp2
        go_ret
        exact ⟨rfl, Gr.refl _⟩
  · have d1 : decide ((48 : Int) ≤ (u : Int)) = false := decide_eq_false (by omega)
    have d3 : decide ((97 : Int) ≤ (u : Int)) = false := decide_eq_false (by omega)
    have e : hexw u = 16 := by have hv : hexv u = -1 := by { unfold hexv; rw [if_neg (by omega), if_neg (by omega)] }; rw [hexw, hv, if_pos (by omega)]
    rw [e]
    go_enter Tryz.func123, Tryz.ntmps123
    go_wp2
    go_ret
    exact ⟨rfl, Gr.refl _⟩
set_option maxRecDepth 100000 in
set_option maxHeartbeats 4000000 in
theorem runhex_any (x : ByteArray) (hx : x.size ≤ 1000000) (w : World) :
    Calls Tryz.prog 109 #[.string x] w fun e w' => ∃ v, e = .returned (.tuple #[v, .bool (unhexL x.data.toList).isSome]) ∧ OwnR bv 5 w.heap.size w' v ((unhexL x.data.toList).getD []) ∧ Below w.heap.size w w' := by
  have hL : x.data.toList.length = x.size := (Lib.size_eq x).symm
  by_cases ho : x.size % 2 = 1
  · have d1 : (((x.size : Int) % 2) == 1) = true := by simp; omega
    have hn := unhexL_odd x.data.toList (by omega)
    have HN := Lib.hid hn; clear hn
    go_enter Tryz.func109, Tryz.ntmps109
    go_wp2
    go_ret2
    exact ⟨.slice none 0 0, by rw [HN.out]; rfl, by rw [HN.out]; exact OwnR.nil _ _, Below.refl _ _⟩
  · have d1 : (((x.size : Int) % 2) == 1) = false := by simp; omega
    go_enter Tryz.func109, Tryz.ntmps109
    go_wp2
    go_loopw [4, 5] (fun v i wr => ∃ (k : Nat) (out : List UInt8), i = .int .i64 (2 * k : Nat) ∧ 2 * k ≤ x.size ∧ OwnR bv 5 w.heap.size wr v out ∧ unhexL (x.data.toList.take (2 * k)) = some out ∧ out.length ≤ k ∧ Below w.heap.size w wr) (fun _ i _ => x.size - (intOf i).toNat)
    case atStart => exact ⟨0, [], rfl, Nat.zero_le _, OwnR.nil _ _, rfl, Nat.le_refl _, Below.refl _ _⟩
    case round =>
      obtain ⟨k, out, rfl, hk, hown, hun, hol, hbw⟩ := hrel
      have hsz := hbw.size
      have HUN := Lib.hid hun; clear hun
      have HOL := Lib.hid hol
      generalize h2k : 2 * k = i at *
      have H2K := Lib.hid h2k; clear h2k
      by_cases hlt : i < x.size
      · have hlt2 : i + 1 < x.size := by have := H2K.out; omega
        have hA : (x[i]'hlt).toNat < 256 := (x[i]'hlt).toNat_lt
        have hB : (x[i + 1]'hlt2).toNat < 256 := (x[i + 1]'hlt2).toNat_lt
        -- ROUNDS
        have hj0 : (0 : Int) ≤ (i : Int) + 1 := by omega
        have hj1 : (i : Int) + 1 < (x.size : Int) := by omega
        have hj2 : ((i : Int) + 1).toNat = i + 1 := by omega
        have hl1 : i < x.data.toList.length := by omega
        have hl2 : i + 1 < x.data.toList.length := by omega
        have ea : x.data.toList[i] = x[i]'hlt := rfl
        have eb : x.data.toList[i + 1] = x[i + 1]'hlt2 := rfl
        have ra := hexv_range (x[i]'hlt).toNat
        have rb := hexv_range (x[i + 1]'hlt2).toNat
        have HB1 := Lib.hid (fun (h : hexv (x.data.toList[i]).toNat < 0) => unhexL_bad x.data.toList (x.data.toList[i]) (List.getElem_mem hl1) h)
        have HB2 := Lib.hid (fun (h : hexv (x.data.toList[i + 1]).toNat < 0) => unhexL_bad x.data.toList (x.data.toList[i + 1]) (List.getElem_mem hl2) h)
        have HS0 := Lib.hid (unhexL_snoc (x.data.toList.take (i)) out (x.data.toList[i]) (x.data.toList[i + 1]) HUN.out)
        have htk : x.data.toList.take (i + 2) = x.data.toList.take (i) ++ [x.data.toList[i], x.data.toList[i + 1]] := by
          rw [show i + 2 = i + 1 + 1 by omega, List.take_succ_eq_append_getElem hl2, List.take_succ_eq_append_getElem hl1, List.append_assoc]; rfl
        rw [← htk, ea, eb] at HS0
        rw [ea] at HB1
        rw [eb] at HB2
        clear htk ea eb
        rcases Int.lt_or_le (hexv (x[i]'hlt).toNat) 0 with hna | hna
        · have HN := Lib.hid (HB1.out hna)
          have HP := Lib.hid (show hexw (x[i]'hlt).toNat = 16 by rw [hexw, if_pos hna])
          obtain ⟨q, hq⟩ : ∃ q, hexw (x[i + 1]'hlt2).toNat = q := ⟨_, rfl⟩
          have HQ := Lib.hid hq; clear hq hna ra rb
          have HD1 := Lib.hid (fun W => digit_any (x[i]'hlt).toNat hA W)
          have HD2 := Lib.hid (fun W => digit_any (x[i + 1]'hlt2).toNat hB W)
          rw [HP.out] at HD1
          rw [HQ.out] at HD2
          go_wp2
          refine wp_region_grow (by kernel_rfl) (by kernel_rfl) ?_
          repeat (go_big_quiet_step ((first | (go_at_call 123; with_reducible exact grow_call (HD1.out _)) | (go_at_call 123; with_reducible exact grow_call (HD2.out _)))))
          refine wpQuiet_nil ?_
          intro g
          go_wp2
          go_ret2
          exact ⟨.slice none 0 0, by rw [HN.out]; rfl, by rw [HN.out]; exact OwnR.nil _ _, below_trans hbw (grown_below _ _)⟩
        · obtain ⟨p, hp⟩ : ∃ p, hexv (x[i]'hlt).toNat = p := ⟨_, rfl⟩
          have HP := Lib.hid (show hexw (x[i]'hlt).toNat = p by rw [hexw, if_neg (by omega), hp])
          have d1 : decide ((15 : Int) < p) = false := decide_eq_false (by omega)
          have hp0 : 0 ≤ p ∧ p ≤ 15 := by omega
          rcases Int.lt_or_le (hexv (x[i + 1]'hlt2).toNat) 0 with hnb | hnb
          · have HN := Lib.hid (HB2.out hnb)
            have HQ := Lib.hid (show hexw (x[i + 1]'hlt2).toNat = 16 by rw [hexw, if_pos hnb])
            clear hnb hna ra rb hp
            have HD1 := Lib.hid (fun W => digit_any (x[i]'hlt).toNat hA W)
            have HD2 := Lib.hid (fun W => digit_any (x[i + 1]'hlt2).toNat hB W)
            rw [HP.out] at HD1
            rw [HQ.out] at HD2
            go_wp2
            refine wp_region_grow (by kernel_rfl) (by kernel_rfl) ?_
            repeat (go_big_quiet_step ((first | (go_at_call 123; with_reducible exact grow_call (HD1.out _)) | (go_at_call 123; with_reducible exact grow_call (HD2.out _)))))
            refine wpQuiet_nil ?_
            intro g
            go_wp2
            go_ret2
            exact ⟨.slice none 0 0, by rw [HN.out]; rfl, by rw [HN.out]; exact OwnR.nil _ _, below_trans hbw (grown_below _ _)⟩
          · obtain ⟨q, hq⟩ : ∃ q, hexv (x[i + 1]'hlt2).toNat = q := ⟨_, rfl⟩
            have HQ := Lib.hid (show hexw (x[i + 1]'hlt2).toNat = q by rw [hexw, if_neg (by omega), hq])
            have d2 : decide ((15 : Int) < q) = false := decide_eq_false (by omega)
            have hq0 : 0 ≤ q ∧ q ≤ 15 := by omega
            have hS := HS0.out hna hnb
            rw [hp, hq] at hS
            have HS := Lib.hid hS
            have hwr : IntKind.u8.wrap (16 * p + q) = 16 * p + q := by rw [u8_wrap]; omega
            have hwi : IntKind.i64.wrap (16 * p) = 16 * p := by rw [IntKind.wrap_i64]; omega
            have hwj : IntKind.i64.wrap (16 * p + q) = 16 * p + q := by rw [IntKind.wrap_i64]; omega
            clear hS hnb hna ra rb hp hq
            have HD1 := Lib.hid (fun W => digit_any (x[i]'hlt).toNat hA W)
            have HD2 := Lib.hid (fun W => digit_any (x[i + 1]'hlt2).toNat hB W)
            rw [HP.out] at HD1
            rw [HQ.out] at HD2
            go_wp2
            refine wp_region_grow (by kernel_rfl) (by kernel_rfl) ?_
            repeat (go_big_quiet_step ((first | (go_at_call 123; with_reducible exact grow_call (HD1.out _)) | (go_at_call 123; with_reducible exact grow_call (HD2.out _)))))
            refine wpQuiet_nil ?_
            intro g
            go_wp2_with (at_builtin; refine wp_append_byte rfl _ _ rfl w.heap.size ?vv out ?hs1 ?own1 _ 0 1 [UInt8.ofNat (16 * p + q).toNat] 1 rfl rfl ?hc1 ?hl1 ?hb1 ?_)
            case hs1 => rfl
            case own1 => exact (hown.grown_ g).alloc_ _
            case hc1 =>
              intro j y hj
              match j, hj with
              | 0, hj =>
                simp only [List.getElem?_cons_zero, Option.some.injEq] at hj
                subst hj
                have e8 : ((UInt8.ofNat (16 * p + q).toNat).toNat : Int) = 16 * p + q := by
                  rw [UInt8.toNat_ofNat', Nat.mod_eq_of_lt (by omega)]; omega
                simp only [bv, e8]
                simp [go_sem]
            case hl1 =>
              have h9 := HOL.out
              have h7 := H2K.out
              have h8 : out.length + 1 ≤ 100000000 := by omega
              exact h8
            case hb1 => exact Nat.le_trans hsz (Nat.le_trans (grown_below _ g).size (by simp))
            intro v2 w2 a2
            have hown3 := a2.own
            have hbw3 : Below w.heap.size w w2 := Below.trans ((below_trans hbw (grown_below _ g)).alloc (Nat.le_trans hsz (grown_below _ g).size) _) a2.below
            clear a2
            go_wp2
            go_roundw
            case rel =>
              have e9 := H2K.out
              have e8 : 2 * (k + 1) = i + 2 := by omega
              refine ⟨k + 1, _, by rw [e8]; go_num, by omega, hown3, ?_, by have h9 := HOL.out; simp only [List.length_append, List.length_singleton]; omega, hbw3⟩
              rw [e8]; exact HS.out
            case measure => simp [intOf]; omega
      · have hkn : x.data.toList.take (i) = x.data.toList := List.take_of_length_le (by omega)
        have hun := HUN.out
        rw [hkn] at hun
        have HN := Lib.hid hun; clear hun hkn
        go_wp2
        go_ret2
        exact ⟨_, by rw [HN.out]; rfl, by rw [HN.out]; exact hown, hbw⟩
end Go.Proofs.YtgjdgafoidppaaaGreatDoor
namespace Go.Proofs.YtgjdgafoidppaaaGreatDoor
open Go.RowKit
set_option linter.unusedVariables false
set_option linter.unusedSimpArgs false
set_option linter.unnecessarySimpa false
theorem kinds_any (w : World) : Calls Tryz.prog 45 #[] w fun e w' => e = .returned (.slice (some ⟨w.heap.size, 0, none⟩) 9 9) ∧ w' = w.alloc (.cells #[.string ⟨#[99, 114, 101, 97, 116, 101]⟩, .string ⟨#[100, 101, 108, 101, 116, 101]⟩, .string ⟨#[114, 101, 115, 105, 122, 101]⟩, .string ⟨#[115, 110, 97, 112]⟩, .string ⟨#[119, 114, 105, 116, 101]⟩, .string ⟨#[122, 101, 114, 111]⟩, .string ⟨#[100, 105, 115, 99, 97, 114, 100]⟩, .string ⟨#[102, 108, 117, 115, 104]⟩, .string ⟨#[114, 101, 97, 100]⟩] 9) := by
  go_enter Tryz.func45, Tryz.ntmps45
  go_wp2
  go_ret
  exact ⟨rfl, rfl⟩
set_option maxHeartbeats 2000000 in
theorem place_any (b o c : Nat) (xs : List ByteArray) (n : Nat) (hn : xs.length = n) (y : ByteArray) (w : World) (hbig : n ≤ 1000000) (hc : ∀ j z, xs[j]? = some z → w.cell? ⟨b, o + j, none⟩ = some (.string z)) :
    Calls Tryz.prog 57 #[.slice (some ⟨b, o, none⟩) n c, .string y] w fun e w' => e = .returned (.int .i64 (Lib.idxOfS xs y + 1)) ∧ w = w' := by
  have HC := Lib.hid hc; clear hc
  have HN := Lib.hid hn; clear hn
  go_enter Tryz.func57, Tryz.ntmps57
  go_wp2
  go_loopw [5] (fun i wr => ∃ k : Nat, i = .int .i64 k ∧ k ≤ n ∧ Hid (∀ j, j < k → xs.getD j ByteArray.empty ≠ y) ∧ wr = w) (fun i _ => n - (intOf i).toNat)
  case atStart => exact ⟨0, rfl, Nat.zero_le _, Lib.hid (fun j hj => by omega), rfl⟩
  case round =>
    obtain ⟨k, rfl, hk, hne, rfl⟩ := hrel
    by_cases hlt : k < n
    · have hkx : k < xs.length := by have := HN.out; omega
      obtain ⟨z, hz⟩ : ∃ z, xs[k]? = some z := ⟨xs[k], List.getElem?_eq_getElem hkx⟩
      have c1 := HC.out k z hz
      have hzd : xs.getD k ByteArray.empty = z := by rw [List.getD_eq_getElem?_getD, hz]; rfl
      have HZ := Lib.hid hzd; clear hzd hz hkx
      rcases Bool.eq_false_or_eq_true (z.toList == y.toList) with hb | hb
      · have hzy : z = y := by
          have := eq_of_beq hb
          rw [Lib.toList_data, Lib.toList_data] at this
          exact ByteArray.ext (Array.ext' this)
        have e : Lib.idxOfS (xs.take n) y = k := Lib.idxOfS_hit xs n k y hlt (by have := HN.out; omega) (by rw [HZ.out, hzy]) hne.out
        rw [List.take_of_length_le (by have := HN.out; omega)] at e
        have E := Lib.hid e; clear e hzy
        go_wp2
        go_ret
        exact ⟨by rw [E.out]; rfl, rfl⟩
      · have hzy : z ≠ y := fun h => by rw [h] at hb; simp at hb
        have HZY := Lib.hid hzy; clear hzy
        go_wp2
        go_roundw
        case rel => exact ⟨k + 1, by go_num, by omega, Lib.hid (fun j hj => by
          rcases Nat.lt_or_ge j k with h | h
          · exact hne.out j h
          · obtain rfl : j = k := by omega
            rw [HZ.out]; exact HZY.out), trivial⟩
        case measure => simp [intOf]; omega
    · obtain rfl : k = n := by omega
      have e : Lib.idxOfS (xs.take k) y = -1 := Lib.idxOfS_miss xs k y hne.out
      rw [List.take_of_length_le (by have := HN.out; omega)] at e
      have E := Lib.hid e; clear e
      go_wp2
      go_ret
      exact ⟨by rw [E.out]; rfl, rfl⟩
end Go.Proofs.YtgjdgafoidppaaaGreatDoor
namespace Go.Proofs.YtgjdgafoidppaaaGreatDoor
open Go.RowKit
set_option linter.unusedVariables false
set_option linter.unusedSimpArgs false
set_option linter.unnecessarySimpa false
def okR (x : ByteArray) : Bool := (unhexL x.data.toList).isSome && decide (((unhexL x.data.toList).getD []).length ≤ 64)
def secR (x : ByteArray) : List UInt8 := if okR x then padS ((unhexL x.data.toList).getD []) else List.replicate 64 0
def dataR (x : ByteArray) : List UInt8 := (wordsB 44 x).flatMap secR
theorem secR_len (x : ByteArray) : (secR x).length = 64 := by
  unfold secR
  split
  · exact padS_len _
  · simp
theorem flatR_len : ∀ l : List ByteArray, (l.flatMap secR).length = 64 * l.length
  | [] => rfl
  | x :: l => by rw [List.flatMap_cons, List.length_append, secR_len, flatR_len l, List.length_cons]; omega
theorem secR_ok (b : List UInt8) (h : b.length = 64) : secR ⟨(secL b).toArray⟩ = b := by
  have hp := trimZ_pad b
  unfold secL
  split
  · rename_i h0
    rw [h0, h] at hp
    have e : okR ⟨([45] : List UInt8).toArray⟩ = false := by decide
    rw [secR, e, if_neg (by simp), hp]
    simp
  · rename_i h0
    have h1 := trimZ_len b
    have e : okR ⟨(hexL (trimZ b)).toArray⟩ = true := by
      simp only [okR, unhexL_hex, Option.getD_some, Option.isSome_some]
      simp; omega
    rw [secR, e, if_pos rfl]
    simp only [unhexL_hex, Option.getD_some, padS]
    rw [List.take_of_length_le (by omega), ← h]
    exact hp.symm
theorem dataR_ok (l : List UInt8) (h : 64 ≤ l.length) : dataR ⟨(dataL l).toArray⟩ = l.take (64 * (l.length / 64)) := by
  have hl : ∀ j, j < l.length / 64 → ((l.drop (64 * j)).take 64).length = 64 := fun j hj => by simp; omega
  rw [dataR, data_words l h, ← drop_take_flat l _ (by omega), List.flatMap_def]
  congr 1
  simp only [secs, List.map_map]
  refine List.map_congr_left fun j hj => ?_
  exact secR_ok _ (hl j (by simpa using hj))
theorem copySrc2 (W : World) (b : List UInt8) (A : Option Addr) (h : Row bv W A b) (hc : 0 < (cs64 b).length) : ∃ ad, A = some ad ∧ ∀ j v, (cs64 b)[j]? = some v → W.cell? (ad.add j) = some v := by
  unfold cs64 at hc ⊢
  have hb : b ≠ [] := by rintro rfl; simp at hc
  obtain ⟨g, o, rfl, _, hcell⟩ := h.at_ hb
  refine ⟨_, rfl, fun j v hj => ?_⟩
  rw [List.getElem?_map, List.getElem?_take] at hj
  split at hj
  · cases hy : b[j]? with
    | none => rw [hy] at hj; cases hj
    | some y =>
      rw [hy] at hj; cases hj
      rw [Go.WideShapes.add_plain]
      exact hcell j y hy
  · cases hj
theorem mk64 (w : World) : (Instr.makeSlice 24 (.int .i64 64) (.int .i64 64)).run Tryz.prog w = .ok (.slice (some ⟨w.heap.size, 0, none⟩) 64 64) (w.alloc (.cells zs64 5)) := by kernel_rfl
set_option maxRecDepth 100000 in
set_option maxHeartbeats 4000000 in
theorem rdata26_any (x : ByteArray) (hx : x.size ≤ 200000) (W : World) :
    Calls Tryz.prog 91 #[.string x] W fun e W' => ∃ v, e = .returned v ∧ OwnR bv 5 W.heap.size W' v (dataR x) ∧ Below W.heap.size W W' := by
  have HWD := Lib.hid (fun V => (show Calls Tryz.prog 41 #[.string x, .int .u8 44] V (fun e w' => ∃ v, e = .returned v ∧ OwnS V.heap.size w' v (wordsB 44 x) ∧ Below V.heap.size V w') from words26_any x 44 (by omega) V))
  go_enter Tryz.func91, Tryz.ntmps91
  go_wp2_with ((go_at_call 41; ((with_reducible refine (HWD.out _).mono ?_))))
  rintro _ W1 ⟨vl, rfl, hol, hb1⟩
  obtain ⟨VA, vc, rfl, hvc, hrow⟩ := hol.form
  have hn := wordsB_le 44 x
  have hsh := Lib.hid (fun y hy => wordsB_each 44 x y hy)
  have hd : dataR x = (wordsB 44 x).flatMap secR := rfl
  have HD := Lib.hid hd; clear hd
  generalize hps : wordsB 44 x = ps at *
  have HROW := Lib.hid hrow; have HB1 := Lib.hid hb1; clear hrow hb1 hol hps
  have hsz1 := HB1.out.size
  go_wp2
  go_loopw [3, 5] (fun v i wr => ∃ k : Nat, i = .int .i64 k ∧ k ≤ ps.length ∧ OwnR bv 5 W1.heap.size wr v ((ps.take k).flatMap secR) ∧ Below W1.heap.size W1 wr) (fun _ i _ => ps.length - (intOf i).toNat)
  case atStart => exact ⟨0, rfl, Nat.zero_le _, OwnR.nil _ _, Below.refl _ _⟩
  case round =>
    obtain ⟨k, rfl, hk, hown, hbw⟩ := hrel
    have HOWN := Lib.hid hown; have HB := Lib.hid hbw; clear hown hbw
    have hsz := HB.out.size
    have hfl := flatR_len (ps.take k)
    have htl : (ps.take k).length ≤ k := List.length_take_le _ _
    by_cases hlt : k < ps.length
    · obtain ⟨b, o, hA, hb, hc⟩ := (HROW.out.gr (Gr.of HB.out)).at_ (by rintro rfl; simp at hlt)
      subst hA
      obtain ⟨y, hy⟩ : ∃ y, ps[k]? = some y := ⟨ps[k], List.getElem?_eq_getElem hlt⟩
      have c1 := hc k y hy
      have hys : y.size ≤ x.size := hsh.out _ (List.mem_of_getElem? hy)
      have htk : ps.take (k + 1) = ps.take k ++ [y] := by rw [List.take_add_one, hy]; rfl
      have HT := Lib.hid htk; clear htk hc hy
      have HU := Lib.hid (fun V => runhex_any y (by omega) V)
      have hul : ((unhexL y.data.toList).getD []).length ≤ 200000 := by
        cases hu : unhexL y.data.toList with
        | none => simp
        | some o => have := unhexL_len _ _ hu; rw [← Lib.size_eq] at this; simp; omega
      have E1 := Lib.hid (show secR y = if (unhexL y.data.toList).isSome && decide (((unhexL y.data.toList).getD []).length ≤ 64) then padS ((unhexL y.data.toList).getD []) else List.replicate 64 0 from rfl)
      have hmk := mk64
      go_wp2_with ((go_at_call 109; ((with_reducible refine (HU.out _).mono ?_))))
      -- TAIL
      clear HU
      generalize (unhexL y.data.toList).getD [] = b at *
      generalize (unhexL y.data.toList).isSome = so at *
      rintro _ W2 ⟨vb, rfl, hob, hbB⟩
      have hsec : W2.heap[wr.heap.size]? = some (.cells zs64 5 (0, 0)) := (hbB.block _ (by simp)).trans (heap_alloc_new wr _)
      have hbA : Below wr.heap.size wr W2 := below_trans (below_alloc (Below.refl _ _) _) hbB
      have hob' : OwnR bv 5 wr.heap.size W2 vb b := OwnR.more hob (by simp)
      obtain ⟨Ab, cb, rfl, hcb, hrb⟩ := hob'.form
      have HSEC := Lib.hid hsec; have HBA := Lib.hid hbA; have HRB := Lib.hid hrb
      clear hsec hbA hob hob' hrb hbB
      by_cases hgood : so = true ∧ b.length ≤ 64
      · obtain ⟨rfl, hbl⟩ := hgood
        have d1 : decide ((b.length : Int) ≤ 64) = true := decide_eq_true (by omega)
        have e2 : secR y = padS b := by rw [E1.out]; simp [hbl]
        have E2 := Lib.hid e2; clear e2
        go_wp2_with (with_reducible refine wpList_copy_splice rfl (.tmp 32) (.tmp 33) 24 24 rfl 5 Tryz.underlying24 ?hsz9 (some ⟨wr.heap.size, 0, none⟩) Ab 64 64 b.length cb ?hd9 ?hs9 wr.heap.size 0 zl64 5 ?hg9 (cs64 b) ?hn9 ?hpos9 ?hfit9 ?h19 wr.heap.size W2 ?hb9 ?hBg9 ?_)
        case hsz9 => kernel_rfl
        case hd9 => rfl
        case hs9 => rfl
        case hg9 => exact HSEC.out
        case hn9 => exact copyLen b
        case hpos9 =>
          intro hc
          first | exact copySrc2 _ _ _ HRB.out hc | exact ⟨rfl, copySrc2 _ _ _ HRB.out hc⟩
        case hfit9 => exact copyFit b
        case h19 => exact copyOne b
        case hb9 => exact Below.refl _ _
        case hBg9 => exact Nat.le_refl _
        intro W4 HG4 hB4
        have HBW := Lib.hid (HBA.out.trans hB4)
        have hcl : ∀ j z, (padS b)[j]? = some z → W4.cell? ⟨wr.heap.size, 0 + j, none⟩ = some (bv z) := by
          intro j z hj
          have := HG4.out
          rw [spliceS] at this
          rw [Nat.zero_add]
          simp only [World.cell?, this]
          simp [hj]
        have HCL := Lib.hid hcl; clear hcl HG4 hB4
        go_wp2_with (at_builtin; refine wp_append_byte rfl _ _ rfl W1.heap.size ?vv1 ((ps.take k).flatMap secR) ?hs1 ?own1 wr.heap.size 0 64 (padS b) 64 (padS_len b) rfl ?hc1 ?hl1 ?hb1 ?_)
        case hs1 => rfl
        case own1 => exact HOWN.out.gr (Gr.of HBW.out)
        case hc1 => exact HCL.out
        case hl1 => rw [padS_len]; omega
        case hb1 => exact Nat.le_trans hsz HBW.out.size
        intro v2 W5 a2
        have hown2 := a2.own
        have hb2 := Below.trans (below_trans HB.out HBW.out) a2.below
        clear a2
        go_wp2
        go_roundw
        case rel =>
          refine ⟨k + 1, by go_num, by omega, ?_, hb2⟩
          rw [HT.out, List.flatMap_append, List.flatMap_singleton, E2.out]
          exact hown2
        case measure => simp [intOf]; omega
      · have e2 : secR y = List.replicate 64 0 := by
          rw [E1.out]
          cases so with
          | false => simp
          | true => have : ¬ b.length ≤ 64 := fun h => hgood ⟨rfl, h⟩; simp [this]
        have E2 := Lib.hid e2; clear e2
        have HBW := HBA
        have hcl : ∀ j z, (List.replicate 64 (0 : UInt8))[j]? = some z → W2.cell? ⟨wr.heap.size, 0 + j, none⟩ = some (bv z) := by
          intro j z hj
          rw [Nat.zero_add]
          simp only [World.cell?, HSEC.out]
          simp [z64_at j z hj]
        have HCL := Lib.hid hcl; clear hcl
        rcases Bool.eq_false_or_eq_true so with hso | hso
        · subst hso
          have d1 : decide ((b.length : Int) ≤ 64) = false := decide_eq_false (by have h9 : ¬ b.length ≤ 64 := fun h => hgood ⟨rfl, h⟩; omega)
          go_wp2_with (at_builtin; refine wp_append_byte rfl _ _ rfl W1.heap.size ?vv2 ((ps.take k).flatMap secR) ?hs2 ?own2 wr.heap.size 0 64 (List.replicate 64 0) 64 (by simp) rfl ?hc2 ?hl2 ?hb2 ?_)
          case hs2 => rfl
          case own2 => exact HOWN.out.gr (Gr.of HBW.out)
          case hc2 => exact HCL.out
          case hl2 => simp only [List.length_replicate]; omega
          case hb2 => exact Nat.le_trans hsz HBW.out.size
          intro v2 W5 a2
          have hown2 := a2.own
          have hb2 := Below.trans (below_trans HB.out HBW.out) a2.below
          clear a2
          go_wp2
          go_roundw
          case rel =>
            refine ⟨k + 1, by go_num, by omega, ?_, hb2⟩
            rw [HT.out, List.flatMap_append, List.flatMap_singleton, E2.out]
            exact hown2
          case measure => simp [intOf]; omega
        · subst hso
          go_wp2_with (at_builtin; refine wp_append_byte rfl _ _ rfl W1.heap.size ?vv3 ((ps.take k).flatMap secR) ?hs3 ?own3 wr.heap.size 0 64 (List.replicate 64 0) 64 (by simp) rfl ?hc3 ?hl3 ?hb3 ?_)
          case hs3 => rfl
          case own3 => exact HOWN.out.gr (Gr.of HBW.out)
          case hc3 => exact HCL.out
          case hl3 => simp only [List.length_replicate]; omega
          case hb3 => exact Nat.le_trans hsz HBW.out.size
          intro v2 W5 a2
          have hown2 := a2.own
          have hb2 := Below.trans (below_trans HB.out HBW.out) a2.below
          clear a2
          go_wp2
          go_roundw
          case rel =>
            refine ⟨k + 1, by go_num, by omega, ?_, hb2⟩
            rw [HT.out, List.flatMap_append, List.flatMap_singleton, E2.out]
            exact hown2
          case measure => simp [intOf]; omega
    · have hkk : ps.take k = ps := List.take_of_length_le (by omega)
      have hown := HOWN.out
      rw [hkk] at hown
      clear hkk hfl htl
      go_wp2
      go_ret
      exact ⟨_, rfl, by rw [HD.out]; exact hown.more hsz1, HB1.out.trans (HB.out.mono hsz1)⟩
end Go.Proofs.YtgjdgafoidppaaaGreatDoor
namespace Go.Proofs.YtgjdgafoidppaaaGreatDoor
open Go.RowKit
set_option linter.unusedVariables false
set_option linter.unusedSimpArgs false
set_option linter.unnecessarySimpa false
set_option maxRecDepth 100000 in
set_option maxHeartbeats 4000000 in
theorem ropText_1 (v s : Nat) (A : Option Addr) (q : Nat) (w : World) [hk : Tb w] (hv : v ≤ 4294967295) (hs : s ≤ 256) :
    Calls Tryz.prog 17 #[.agg #[.int .i64 1, .int .u64 v, .int .u64 0, .int .i64 s, .int .i64 0, .int .i64 0, .slice A 0 q]] w fun e w' => e = .returned (.string ⟨(opTextL 1 v 0 s 0 0 []).toArray⟩) ∧ Gr w w' := by
  have HTv := Lib.hid (fun W => text01_any v (by omega) W)
  have lv := dec_len v (by omega)
  have HTs := Lib.hid (fun W => text26_any s (by omega) W)
  have ls := dec_len s (by omega)
  go_enter Tryz.func17, Tryz.ntmps17
  go_upto_region 1 with fail
  go_cut [3] (fun u wx => u = .string ⟨#[99, 114, 101, 97, 116, 101]⟩ ∧ Gr w wx ∧ Tb wx ∧ BlockAt wx w.heap.size #[.int .i64 1, .int .u64 v, .int .u64 0, .int .i64 s, .int .i64 0, .int .i64 0, .slice A 0 q] 26)
  case first =>
    go_region_with ((go_at_call 45; refine (kinds_any _).mono ?_; rintro e w' ⟨rfl, rfl⟩))
    all_goals
      go_wp2_with fail
      go_meet
      case rel => exact ⟨rfl, gri, inferInstance, inferInstance⟩
  case rest =>
    obtain ⟨rfl, hg, htb, hblk⟩ := hcut
    have x0 : wc.cell? ⟨w.heap.size, 0, none⟩ = some (.int .i64 1) := (block_cells _ _ _ _ _).trans rfl
    have xv : wc.cell? ⟨w.heap.size, 1, none⟩ = some (.int .u64 v) := (block_cells _ _ _ _ _).trans rfl
    have xs : wc.cell? ⟨w.heap.size, 3, none⟩ = some (.int .i64 s) := (block_cells _ _ _ _ _).trans rfl
    have HG := Lib.hid hg; clear hg
    haveI : Old w.heap.size wc := hblk.old
    go_wp2_with (first | (go_at_call 46; ((with_reducible refine (HTv.out _).mono ?_); rintro _ _ ⟨rfl, g, rfl⟩)) | (go_at_call 47; ((with_reducible refine (HTs.out _).mono ?_); rintro _ _ ⟨rfl, g, rfl⟩)))
    go_ret
    have e : opPieces 1 v 0 s 0 0 [] = [⟨#[99, 114, 101, 97, 116, 101]⟩, ⟨(Lib.decDigits (v : Int).toNat).toArray⟩, ⟨(Lib.itoa (s : Int)).toArray⟩] := rfl
    have E : (⟨#[99, 114, 101, 97, 116, 101]⟩ ++ (⟨#[32]⟩ : ByteArray) ++ ⟨(Lib.decDigits v).toArray⟩ ++ (⟨#[32]⟩ : ByteArray) ++ ⟨(Lib.decDigits s).toArray⟩ : ByteArray) = ⟨(opTextL 1 v 0 s 0 0 []).toArray⟩ := by
      apply ByteArray.ext
      rw [opTextL, e]
      simp [join_two, join_one, Lib.itoa_nonneg]
    exact ⟨congrArg (fun z => Ending.returned (Value.string z)) E, HG.out.trans gri⟩
set_option maxRecDepth 100000 in
set_option maxHeartbeats 4000000 in
theorem ropText_2 (v : Nat) (A : Option Addr) (q : Nat) (w : World) [hk : Tb w] (hv : v ≤ 4294967295) :
    Calls Tryz.prog 17 #[.agg #[.int .i64 2, .int .u64 v, .int .u64 0, .int .i64 0, .int .i64 0, .int .i64 0, .slice A 0 q]] w fun e w' => e = .returned (.string ⟨(opTextL 2 v 0 0 0 0 []).toArray⟩) ∧ Gr w w' := by
  have HTv := Lib.hid (fun W => text01_any v (by omega) W)
  have lv := dec_len v (by omega)
  go_enter Tryz.func17, Tryz.ntmps17
  go_upto_region 1 with fail
  go_cut [3] (fun u wx => u = .string ⟨#[100, 101, 108, 101, 116, 101]⟩ ∧ Gr w wx ∧ Tb wx ∧ BlockAt wx w.heap.size #[.int .i64 2, .int .u64 v, .int .u64 0, .int .i64 0, .int .i64 0, .int .i64 0, .slice A 0 q] 26)
  case first =>
    go_region_with ((go_at_call 45; refine (kinds_any _).mono ?_; rintro e w' ⟨rfl, rfl⟩))
    all_goals
      go_wp2_with fail
      go_meet
      case rel => exact ⟨rfl, gri, inferInstance, inferInstance⟩
  case rest =>
    obtain ⟨rfl, hg, htb, hblk⟩ := hcut
    have x0 : wc.cell? ⟨w.heap.size, 0, none⟩ = some (.int .i64 2) := (block_cells _ _ _ _ _).trans rfl
    have xv : wc.cell? ⟨w.heap.size, 1, none⟩ = some (.int .u64 v) := (block_cells _ _ _ _ _).trans rfl
    have HG := Lib.hid hg; clear hg
    haveI : Old w.heap.size wc := hblk.old
    go_wp2_with (first | (go_at_call 46; ((with_reducible refine (HTv.out _).mono ?_); rintro _ _ ⟨rfl, g, rfl⟩)))
    go_ret
    have e : opPieces 2 v 0 0 0 0 [] = [⟨#[100, 101, 108, 101, 116, 101]⟩, ⟨(Lib.decDigits (v : Int).toNat).toArray⟩] := rfl
    have E : (⟨#[100, 101, 108, 101, 116, 101]⟩ ++ (⟨#[32]⟩ : ByteArray) ++ ⟨(Lib.decDigits v).toArray⟩ : ByteArray) = ⟨(opTextL 2 v 0 0 0 0 []).toArray⟩ := by
      apply ByteArray.ext
      rw [opTextL, e]
      simp [join_two, join_one, Lib.itoa_nonneg]
    exact ⟨congrArg (fun z => Ending.returned (Value.string z)) E, HG.out.trans gri⟩
set_option maxRecDepth 100000 in
set_option maxHeartbeats 4000000 in
theorem ropText_3 (v s : Nat) (A : Option Addr) (q : Nat) (w : World) [hk : Tb w] (hv : v ≤ 4294967295) (hs : s ≤ 256) :
    Calls Tryz.prog 17 #[.agg #[.int .i64 3, .int .u64 v, .int .u64 0, .int .i64 s, .int .i64 0, .int .i64 0, .slice A 0 q]] w fun e w' => e = .returned (.string ⟨(opTextL 3 v 0 s 0 0 []).toArray⟩) ∧ Gr w w' := by
  have HTv := Lib.hid (fun W => text01_any v (by omega) W)
  have lv := dec_len v (by omega)
  have HTs := Lib.hid (fun W => text26_any s (by omega) W)
  have ls := dec_len s (by omega)
  go_enter Tryz.func17, Tryz.ntmps17
  go_upto_region 1 with fail
  go_cut [3] (fun u wx => u = .string ⟨#[114, 101, 115, 105, 122, 101]⟩ ∧ Gr w wx ∧ Tb wx ∧ BlockAt wx w.heap.size #[.int .i64 3, .int .u64 v, .int .u64 0, .int .i64 s, .int .i64 0, .int .i64 0, .slice A 0 q] 26)
  case first =>
    go_region_with ((go_at_call 45; refine (kinds_any _).mono ?_; rintro e w' ⟨rfl, rfl⟩))
    all_goals
      go_wp2_with fail
      go_meet
      case rel => exact ⟨rfl, gri, inferInstance, inferInstance⟩
  case rest =>
    obtain ⟨rfl, hg, htb, hblk⟩ := hcut
    have x0 : wc.cell? ⟨w.heap.size, 0, none⟩ = some (.int .i64 3) := (block_cells _ _ _ _ _).trans rfl
    have xv : wc.cell? ⟨w.heap.size, 1, none⟩ = some (.int .u64 v) := (block_cells _ _ _ _ _).trans rfl
    have xs : wc.cell? ⟨w.heap.size, 3, none⟩ = some (.int .i64 s) := (block_cells _ _ _ _ _).trans rfl
    have HG := Lib.hid hg; clear hg
    haveI : Old w.heap.size wc := hblk.old
    go_wp2_with (first | (go_at_call 46; ((with_reducible refine (HTv.out _).mono ?_); rintro _ _ ⟨rfl, g, rfl⟩)) | (go_at_call 47; ((with_reducible refine (HTs.out _).mono ?_); rintro _ _ ⟨rfl, g, rfl⟩)))
    go_ret
    have e : opPieces 3 v 0 s 0 0 [] = [⟨#[114, 101, 115, 105, 122, 101]⟩, ⟨(Lib.decDigits (v : Int).toNat).toArray⟩, ⟨(Lib.itoa (s : Int)).toArray⟩] := rfl
    have E : (⟨#[114, 101, 115, 105, 122, 101]⟩ ++ (⟨#[32]⟩ : ByteArray) ++ ⟨(Lib.decDigits v).toArray⟩ ++ (⟨#[32]⟩ : ByteArray) ++ ⟨(Lib.decDigits s).toArray⟩ : ByteArray) = ⟨(opTextL 3 v 0 s 0 0 []).toArray⟩ := by
      apply ByteArray.ext
      rw [opTextL, e]
      simp [join_two, join_one, Lib.itoa_nonneg]
    exact ⟨congrArg (fun z => Ending.returned (Value.string z)) E, HG.out.trans gri⟩
set_option maxRecDepth 100000 in
set_option maxHeartbeats 4000000 in
theorem ropText_4 (v t : Nat) (A : Option Addr) (q : Nat) (w : World) [hk : Tb w] (hv : v ≤ 4294967295) (ht : t ≤ 4294967295) :
    Calls Tryz.prog 17 #[.agg #[.int .i64 4, .int .u64 v, .int .u64 t, .int .i64 0, .int .i64 0, .int .i64 0, .slice A 0 q]] w fun e w' => e = .returned (.string ⟨(opTextL 4 v t 0 0 0 []).toArray⟩) ∧ Gr w w' := by
  have HTv := Lib.hid (fun W => text01_any v (by omega) W)
  have lv := dec_len v (by omega)
  have HTt := Lib.hid (fun W => text01_any t (by omega) W)
  have lt := dec_len t (by omega)
  go_enter Tryz.func17, Tryz.ntmps17
  go_upto_region 1 with fail
  go_cut [3] (fun u wx => u = .string ⟨#[115, 110, 97, 112]⟩ ∧ Gr w wx ∧ Tb wx ∧ BlockAt wx w.heap.size #[.int .i64 4, .int .u64 v, .int .u64 t, .int .i64 0, .int .i64 0, .int .i64 0, .slice A 0 q] 26)
  case first =>
    go_region_with ((go_at_call 45; refine (kinds_any _).mono ?_; rintro e w' ⟨rfl, rfl⟩))
    all_goals
      go_wp2_with fail
      go_meet
      case rel => exact ⟨rfl, gri, inferInstance, inferInstance⟩
  case rest =>
    obtain ⟨rfl, hg, htb, hblk⟩ := hcut
    have x0 : wc.cell? ⟨w.heap.size, 0, none⟩ = some (.int .i64 4) := (block_cells _ _ _ _ _).trans rfl
    have xv : wc.cell? ⟨w.heap.size, 1, none⟩ = some (.int .u64 v) := (block_cells _ _ _ _ _).trans rfl
    have xt : wc.cell? ⟨w.heap.size, 2, none⟩ = some (.int .u64 t) := (block_cells _ _ _ _ _).trans rfl
    have HG := Lib.hid hg; clear hg
    haveI : Old w.heap.size wc := hblk.old
    go_wp2_with (first | (go_at_call 46; ((with_reducible refine (HTv.out _).mono ?_); rintro _ _ ⟨rfl, g, rfl⟩)) | (go_at_call 46; ((with_reducible refine (HTt.out _).mono ?_); rintro _ _ ⟨rfl, g, rfl⟩)))
    go_ret
    have e : opPieces 4 v t 0 0 0 [] = [⟨#[115, 110, 97, 112]⟩, ⟨(Lib.decDigits (v : Int).toNat).toArray⟩, ⟨(Lib.decDigits (t : Int).toNat).toArray⟩] := rfl
    have E : (⟨#[115, 110, 97, 112]⟩ ++ (⟨#[32]⟩ : ByteArray) ++ ⟨(Lib.decDigits v).toArray⟩ ++ (⟨#[32]⟩ : ByteArray) ++ ⟨(Lib.decDigits t).toArray⟩ : ByteArray) = ⟨(opTextL 4 v t 0 0 0 []).toArray⟩ := by
      apply ByteArray.ext
      rw [opTextL, e]
      simp [join_two, join_one, Lib.itoa_nonneg]
    exact ⟨congrArg (fun z => Ending.returned (Value.string z)) E, HG.out.trans gri⟩
set_option maxRecDepth 100000 in
set_option maxHeartbeats 4000000 in
theorem ropText_5 (v a : Nat) (A : Option Addr) (q : Nat) (d : List UInt8) (w : World) [hk : Tb w] (hv : v ≤ 4294967295) (ha : a ≤ 1048576) (hd : d.length ≤ 2048) (hq : d.length ≤ q) (hr : Row bv w A d) :
    Calls Tryz.prog 17 #[.agg #[.int .i64 5, .int .u64 v, .int .u64 0, .int .i64 0, .int .i64 a, .int .i64 0, .slice A d.length q]] w fun e w' => e = .returned (.string ⟨(opTextL 5 v 0 0 a 0 d).toArray⟩) ∧ Gr w w' := by
  have HTv := Lib.hid (fun W => text01_any v (by omega) W)
  have lv := dec_len v (by omega)
  have HTa := Lib.hid (fun W => text26_any a (by omega) W)
  have la := dec_len a (by omega)
  have HR := Lib.hid hr; clear hr
  have HTd := Lib.hid (fun W (hW : Gr w W) => rdata_any A d.length q d W rfl hq (by omega) (HR.out.gr hW))
  have ld := dataL_len d (by omega)
  go_enter Tryz.func17, Tryz.ntmps17
  go_upto_region 1 with fail
  go_cut [3] (fun u wx => u = .string ⟨#[119, 114, 105, 116, 101]⟩ ∧ Gr w wx ∧ Tb wx ∧ BlockAt wx w.heap.size #[.int .i64 5, .int .u64 v, .int .u64 0, .int .i64 0, .int .i64 a, .int .i64 0, .slice A d.length q] 26)
  case first =>
    go_region_with ((go_at_call 45; refine (kinds_any _).mono ?_; rintro e w' ⟨rfl, rfl⟩))
    all_goals
      go_wp2_with fail
      go_meet
      case rel => exact ⟨rfl, gri, inferInstance, inferInstance⟩
  case rest =>
    obtain ⟨rfl, hg, htb, hblk⟩ := hcut
    have x0 : wc.cell? ⟨w.heap.size, 0, none⟩ = some (.int .i64 5) := (block_cells _ _ _ _ _).trans rfl
    have xv : wc.cell? ⟨w.heap.size, 1, none⟩ = some (.int .u64 v) := (block_cells _ _ _ _ _).trans rfl
    have xa : wc.cell? ⟨w.heap.size, 4, none⟩ = some (.int .i64 a) := (block_cells _ _ _ _ _).trans rfl
    have xd : wc.cell? ⟨w.heap.size, 6, none⟩ = some (.slice A d.length q) := (block_cells _ _ _ _ _).trans rfl
    have HG := Lib.hid hg; clear hg
    haveI : Old w.heap.size wc := hblk.old
    haveI : GrC wc wc := inferInstance
    have HTe := Lib.hid (fun W (hW : GrC wc W) => HTd.out W (HG.out.trans (Gr.of hW.b)))
    go_wp2_with (first | (go_at_call 46; ((with_reducible refine (HTv.out _).mono ?_); rintro _ _ ⟨rfl, g, rfl⟩)) | (go_at_call 47; ((with_reducible refine (HTa.out _).mono ?_); rintro _ _ ⟨rfl, g, rfl⟩)))
    refine wp_region_grow (by kernel_rfl) (by kernel_rfl) ?_
    repeat (go_big_quiet_step ((first | (go_at_call 47; with_reducible exact grow_call (HTa.out _)) | (go_at_call 48; with_reducible exact grow_call (HTe.out _ inferInstance)))))
    refine wpQuiet_nil ?_
    intro g9
    go_wp2
    go_ret
    have e : opPieces 5 v 0 0 a 0 d = [⟨#[119, 114, 105, 116, 101]⟩, ⟨(Lib.decDigits (v : Int).toNat).toArray⟩, ⟨(Lib.itoa (a : Int)).toArray⟩, ⟨(dataL d).toArray⟩] := rfl
    have E : (⟨#[119, 114, 105, 116, 101]⟩ ++ (⟨#[32]⟩ : ByteArray) ++ ⟨(Lib.decDigits v).toArray⟩ ++ (⟨#[32]⟩ : ByteArray) ++ ⟨(Lib.decDigits a).toArray⟩ ++ (⟨#[32]⟩ : ByteArray) ++ ⟨(dataL d).toArray⟩ : ByteArray) = ⟨(opTextL 5 v 0 0 a 0 d).toArray⟩ := by
      apply ByteArray.ext
      rw [opTextL, e]
      simp [join_two, join_one, Lib.itoa_nonneg]
    exact ⟨congrArg (fun z => Ending.returned (Value.string z)) E, HG.out.trans gri⟩
set_option maxRecDepth 100000 in
set_option maxHeartbeats 4000000 in
theorem ropText_6 (v a c : Nat) (A : Option Addr) (q : Nat) (w : World) [hk : Tb w] (hv : v ≤ 4294967295) (ha : a ≤ 1048576) (hc : c ≤ 1024) :
    Calls Tryz.prog 17 #[.agg #[.int .i64 6, .int .u64 v, .int .u64 0, .int .i64 0, .int .i64 a, .int .i64 c, .slice A 0 q]] w fun e w' => e = .returned (.string ⟨(opTextL 6 v 0 0 a c []).toArray⟩) ∧ Gr w w' := by
  have HTv := Lib.hid (fun W => text01_any v (by omega) W)
  have lv := dec_len v (by omega)
  have HTa := Lib.hid (fun W => text26_any a (by omega) W)
  have la := dec_len a (by omega)
  have HTc := Lib.hid (fun W => text26_any c (by omega) W)
  have lc := dec_len c (by omega)
  go_enter Tryz.func17, Tryz.ntmps17
  go_upto_region 1 with fail
  go_cut [3] (fun u wx => u = .string ⟨#[122, 101, 114, 111]⟩ ∧ Gr w wx ∧ Tb wx ∧ BlockAt wx w.heap.size #[.int .i64 6, .int .u64 v, .int .u64 0, .int .i64 0, .int .i64 a, .int .i64 c, .slice A 0 q] 26)
  case first =>
    go_region_with ((go_at_call 45; refine (kinds_any _).mono ?_; rintro e w' ⟨rfl, rfl⟩))
    all_goals
      go_wp2_with fail
      go_meet
      case rel => exact ⟨rfl, gri, inferInstance, inferInstance⟩
  case rest =>
    obtain ⟨rfl, hg, htb, hblk⟩ := hcut
    have x0 : wc.cell? ⟨w.heap.size, 0, none⟩ = some (.int .i64 6) := (block_cells _ _ _ _ _).trans rfl
    have xv : wc.cell? ⟨w.heap.size, 1, none⟩ = some (.int .u64 v) := (block_cells _ _ _ _ _).trans rfl
    have xa : wc.cell? ⟨w.heap.size, 4, none⟩ = some (.int .i64 a) := (block_cells _ _ _ _ _).trans rfl
    have xc : wc.cell? ⟨w.heap.size, 5, none⟩ = some (.int .i64 c) := (block_cells _ _ _ _ _).trans rfl
    have HG := Lib.hid hg; clear hg
    haveI : Old w.heap.size wc := hblk.old
    go_wp2_with (first | (go_at_call 46; ((with_reducible refine (HTv.out _).mono ?_); rintro _ _ ⟨rfl, g, rfl⟩)) | (go_at_call 47; ((with_reducible refine (HTa.out _).mono ?_); rintro _ _ ⟨rfl, g, rfl⟩)) | (go_at_call 47; ((with_reducible refine (HTc.out _).mono ?_); rintro _ _ ⟨rfl, g, rfl⟩)))
    refine wp_region_grow (by kernel_rfl) (by kernel_rfl) ?_
    repeat (go_big_quiet_step ((first | (go_at_call 47; with_reducible exact grow_call (HTa.out _)) | (go_at_call 47; with_reducible exact grow_call (HTc.out _)))))
    refine wpQuiet_nil ?_
    intro g9
    go_wp2
    go_ret
    have e : opPieces 6 v 0 0 a c [] = [⟨#[122, 101, 114, 111]⟩, ⟨(Lib.decDigits (v : Int).toNat).toArray⟩, ⟨(Lib.itoa (a : Int)).toArray⟩, ⟨(Lib.itoa (c : Int)).toArray⟩] := rfl
    have E : (⟨#[122, 101, 114, 111]⟩ ++ (⟨#[32]⟩ : ByteArray) ++ ⟨(Lib.decDigits v).toArray⟩ ++ (⟨#[32]⟩ : ByteArray) ++ ⟨(Lib.decDigits a).toArray⟩ ++ (⟨#[32]⟩ : ByteArray) ++ ⟨(Lib.decDigits c).toArray⟩ : ByteArray) = ⟨(opTextL 6 v 0 0 a c []).toArray⟩ := by
      apply ByteArray.ext
      rw [opTextL, e]
      simp [join_two, join_one, Lib.itoa_nonneg]
    exact ⟨congrArg (fun z => Ending.returned (Value.string z)) E, HG.out.trans gri⟩
set_option maxRecDepth 100000 in
set_option maxHeartbeats 4000000 in
theorem ropText_7 (v a c : Nat) (A : Option Addr) (q : Nat) (w : World) [hk : Tb w] (hv : v ≤ 4294967295) (ha : a ≤ 1048576) (hc : c ≤ 1024) :
    Calls Tryz.prog 17 #[.agg #[.int .i64 7, .int .u64 v, .int .u64 0, .int .i64 0, .int .i64 a, .int .i64 c, .slice A 0 q]] w fun e w' => e = .returned (.string ⟨(opTextL 7 v 0 0 a c []).toArray⟩) ∧ Gr w w' := by
  have HTv := Lib.hid (fun W => text01_any v (by omega) W)
  have lv := dec_len v (by omega)
  have HTa := Lib.hid (fun W => text26_any a (by omega) W)
  have la := dec_len a (by omega)
  have HTc := Lib.hid (fun W => text26_any c (by omega) W)
  have lc := dec_len c (by omega)
  go_enter Tryz.func17, Tryz.ntmps17
  go_upto_region 1 with fail
  go_cut [3] (fun u wx => u = .string ⟨#[100, 105, 115, 99, 97, 114, 100]⟩ ∧ Gr w wx ∧ Tb wx ∧ BlockAt wx w.heap.size #[.int .i64 7, .int .u64 v, .int .u64 0, .int .i64 0, .int .i64 a, .int .i64 c, .slice A 0 q] 26)
  case first =>
    go_region_with ((go_at_call 45; refine (kinds_any _).mono ?_; rintro e w' ⟨rfl, rfl⟩))
    all_goals
      go_wp2_with fail
      go_meet
      case rel => exact ⟨rfl, gri, inferInstance, inferInstance⟩
  case rest =>
    obtain ⟨rfl, hg, htb, hblk⟩ := hcut
    have x0 : wc.cell? ⟨w.heap.size, 0, none⟩ = some (.int .i64 7) := (block_cells _ _ _ _ _).trans rfl
    have xv : wc.cell? ⟨w.heap.size, 1, none⟩ = some (.int .u64 v) := (block_cells _ _ _ _ _).trans rfl
    have xa : wc.cell? ⟨w.heap.size, 4, none⟩ = some (.int .i64 a) := (block_cells _ _ _ _ _).trans rfl
    have xc : wc.cell? ⟨w.heap.size, 5, none⟩ = some (.int .i64 c) := (block_cells _ _ _ _ _).trans rfl
    have HG := Lib.hid hg; clear hg
    haveI : Old w.heap.size wc := hblk.old
    go_wp2_with (first | (go_at_call 46; ((with_reducible refine (HTv.out _).mono ?_); rintro _ _ ⟨rfl, g, rfl⟩)) | (go_at_call 47; ((with_reducible refine (HTa.out _).mono ?_); rintro _ _ ⟨rfl, g, rfl⟩)) | (go_at_call 47; ((with_reducible refine (HTc.out _).mono ?_); rintro _ _ ⟨rfl, g, rfl⟩)))
    refine wp_region_grow (by kernel_rfl) (by kernel_rfl) ?_
    repeat (go_big_quiet_step ((first | (go_at_call 47; with_reducible exact grow_call (HTa.out _)) | (go_at_call 47; with_reducible exact grow_call (HTc.out _)))))
    refine wpQuiet_nil ?_
    intro g9
    go_wp2
    go_ret
    have e : opPieces 7 v 0 0 a c [] = [⟨#[100, 105, 115, 99, 97, 114, 100]⟩, ⟨(Lib.decDigits (v : Int).toNat).toArray⟩, ⟨(Lib.itoa (a : Int)).toArray⟩, ⟨(Lib.itoa (c : Int)).toArray⟩] := rfl
    have E : (⟨#[100, 105, 115, 99, 97, 114, 100]⟩ ++ (⟨#[32]⟩ : ByteArray) ++ ⟨(Lib.decDigits v).toArray⟩ ++ (⟨#[32]⟩ : ByteArray) ++ ⟨(Lib.decDigits a).toArray⟩ ++ (⟨#[32]⟩ : ByteArray) ++ ⟨(Lib.decDigits c).toArray⟩ : ByteArray) = ⟨(opTextL 7 v 0 0 a c []).toArray⟩ := by
      apply ByteArray.ext
      rw [opTextL, e]
      simp [join_two, join_one, Lib.itoa_nonneg]
    exact ⟨congrArg (fun z => Ending.returned (Value.string z)) E, HG.out.trans gri⟩
set_option maxRecDepth 100000 in
set_option maxHeartbeats 4000000 in
theorem ropText_8 (A : Option Addr) (q : Nat) (w : World) [hk : Tb w]  :
    Calls Tryz.prog 17 #[.agg #[.int .i64 8, .int .u64 0, .int .u64 0, .int .i64 0, .int .i64 0, .int .i64 0, .slice A 0 q]] w fun e w' => e = .returned (.string ⟨(opTextL 8 0 0 0 0 0 []).toArray⟩) ∧ Gr w w' := by
  go_enter Tryz.func17, Tryz.ntmps17
  go_upto_region 1 with fail
  go_cut [3] (fun u wx => u = .string ⟨#[102, 108, 117, 115, 104]⟩ ∧ Gr w wx ∧ Tb wx ∧ BlockAt wx w.heap.size #[.int .i64 8, .int .u64 0, .int .u64 0, .int .i64 0, .int .i64 0, .int .i64 0, .slice A 0 q] 26)
  case first =>
    go_region_with ((go_at_call 45; refine (kinds_any _).mono ?_; rintro e w' ⟨rfl, rfl⟩))
    all_goals
      go_wp2_with fail
      go_meet
      case rel => exact ⟨rfl, gri, inferInstance, inferInstance⟩
  case rest =>
    obtain ⟨rfl, hg, htb, hblk⟩ := hcut
    have x0 : wc.cell? ⟨w.heap.size, 0, none⟩ = some (.int .i64 8) := (block_cells _ _ _ _ _).trans rfl
    have HG := Lib.hid hg; clear hg
    haveI : Old w.heap.size wc := hblk.old
    go_wp2
    go_ret
    have e : opPieces 8 0 0 0 0 0 [] = [⟨#[102, 108, 117, 115, 104]⟩] := rfl
    have E : (⟨#[102, 108, 117, 115, 104]⟩ : ByteArray) = ⟨(opTextL 8 0 0 0 0 0 []).toArray⟩ := by
      apply ByteArray.ext
      rw [opTextL, e]
      simp [join_two, join_one, Lib.itoa_nonneg]
    exact ⟨congrArg (fun z => Ending.returned (Value.string z)) E, HG.out.trans gri⟩
set_option maxRecDepth 100000 in
set_option maxHeartbeats 4000000 in
theorem ropText_9 (v a c : Nat) (A : Option Addr) (q : Nat) (w : World) [hk : Tb w] (hv : v ≤ 4294967295) (ha : a ≤ 1048576) (hc : c ≤ 1024) :
    Calls Tryz.prog 17 #[.agg #[.int .i64 9, .int .u64 v, .int .u64 0, .int .i64 0, .int .i64 a, .int .i64 c, .slice A 0 q]] w fun e w' => e = .returned (.string ⟨(opTextL 9 v 0 0 a c []).toArray⟩) ∧ Gr w w' := by
  have HTv := Lib.hid (fun W => text01_any v (by omega) W)
  have lv := dec_len v (by omega)
  have HTa := Lib.hid (fun W => text26_any a (by omega) W)
  have la := dec_len a (by omega)
  have HTc := Lib.hid (fun W => text26_any c (by omega) W)
  have lc := dec_len c (by omega)
  go_enter Tryz.func17, Tryz.ntmps17
  go_upto_region 1 with fail
  go_cut [3] (fun u wx => u = .string ⟨#[114, 101, 97, 100]⟩ ∧ Gr w wx ∧ Tb wx ∧ BlockAt wx w.heap.size #[.int .i64 9, .int .u64 v, .int .u64 0, .int .i64 0, .int .i64 a, .int .i64 c, .slice A 0 q] 26)
  case first =>
    go_region_with ((go_at_call 45; refine (kinds_any _).mono ?_; rintro e w' ⟨rfl, rfl⟩))
    all_goals
      go_wp2_with fail
      go_meet
      case rel => exact ⟨rfl, gri, inferInstance, inferInstance⟩
  case rest =>
    obtain ⟨rfl, hg, htb, hblk⟩ := hcut
    have x0 : wc.cell? ⟨w.heap.size, 0, none⟩ = some (.int .i64 9) := (block_cells _ _ _ _ _).trans rfl
    have xv : wc.cell? ⟨w.heap.size, 1, none⟩ = some (.int .u64 v) := (block_cells _ _ _ _ _).trans rfl
    have xa : wc.cell? ⟨w.heap.size, 4, none⟩ = some (.int .i64 a) := (block_cells _ _ _ _ _).trans rfl
    have xc : wc.cell? ⟨w.heap.size, 5, none⟩ = some (.int .i64 c) := (block_cells _ _ _ _ _).trans rfl
    have HG := Lib.hid hg; clear hg
    haveI : Old w.heap.size wc := hblk.old
    go_wp2_with (first | (go_at_call 46; ((with_reducible refine (HTv.out _).mono ?_); rintro _ _ ⟨rfl, g, rfl⟩)) | (go_at_call 47; ((with_reducible refine (HTa.out _).mono ?_); rintro _ _ ⟨rfl, g, rfl⟩)) | (go_at_call 47; ((with_reducible refine (HTc.out _).mono ?_); rintro _ _ ⟨rfl, g, rfl⟩)))
    refine wp_region_grow (by kernel_rfl) (by kernel_rfl) ?_
    repeat (go_big_quiet_step ((first | (go_at_call 47; with_reducible exact grow_call (HTa.out _)) | (go_at_call 47; with_reducible exact grow_call (HTc.out _)))))
    refine wpQuiet_nil ?_
    intro g9
    go_wp2
    go_ret
    have e : opPieces 9 v 0 0 a c [] = [⟨#[114, 101, 97, 100]⟩, ⟨(Lib.decDigits (v : Int).toNat).toArray⟩, ⟨(Lib.itoa (a : Int)).toArray⟩, ⟨(Lib.itoa (c : Int)).toArray⟩] := rfl
    have E : (⟨#[114, 101, 97, 100]⟩ ++ (⟨#[32]⟩ : ByteArray) ++ ⟨(Lib.decDigits v).toArray⟩ ++ (⟨#[32]⟩ : ByteArray) ++ ⟨(Lib.decDigits a).toArray⟩ ++ (⟨#[32]⟩ : ByteArray) ++ ⟨(Lib.decDigits c).toArray⟩ : ByteArray) = ⟨(opTextL 9 v 0 0 a c []).toArray⟩ := by
      apply ByteArray.ext
      rw [opTextL, e]
      simp [join_two, join_one, Lib.itoa_nonneg]
    exact ⟨congrArg (fun z => Ending.returned (Value.string z)) E, HG.out.trans gri⟩
end Go.Proofs.YtgjdgafoidppaaaGreatDoor
