/- voileref01.Decimal, voileref26.number, small: numbers that the reference reads; Text, text: numbers that it tells. Conditions: a text of at most 10^9 bytes. strconv.FormatUint at base 10, strconv.Itoa. Conditions: strconv's table of powers stands. -/
import Derived.Test.YtgjdgafoidppaaaDoorQ04
import Derived.Test.YtgjdgafoidppaaaDoorQ01
import Derived.Test.YtgjdgafoidppaaaDoorQ02
import Derived.Shelf.Strconv.Itoa3
namespace Go.Proofs.YtgjdgafoidppaaaDoor
open Go.RowKit
set_option linter.unusedVariables false
set_option linter.unusedSimpArgs false
set_option linter.unnecessarySimpa false
/-- What holds ahead of so many bytes: all were digits, their number is known. -/
def RSt (l : List UInt8) (pos : Nat) (z : Int) : Prop := headB l = true ∧ (l.take pos).all digB = true ∧ z = dval (l.take pos) ∧ z ≤ 18446744073709551615
theorem rst_bad {l : List UInt8} {most pos : Nat} (h : pos < l.length) (hb : digB l[pos] = false) : decOk l most = false := dst_bad (z' := 0) (pos' := 0) h hb
theorem headless {l : List UInt8} {most : Nat} (h : headB l = false) : decOk l most = false := by simp [decOk, h]
theorem too_long {l : List UInt8} {most : Nat} (hm : most ≤ 18446744073709551615) (h : 20 < l.length) : decOk l most = false := by
  cases h1 : decOk l most with
  | false => rfl
  | true =>
    simp only [decOk, Bool.and_eq_true, decide_eq_true_eq] at h1
    have := long_big h1.1.1 h1.1.2 h
    omega
theorem rst_over {l : List UInt8} {most pos : Nat} {z : Int} (hm : most ≤ 18446744073709551615) (hd : RSt l pos z) (h : pos < l.length) (hb : digB l[pos] = true) (hq : (18446744073709551615 - ((l[pos].toNat : Int) - 48)) / 10 < z) : decOk l most = false := by
  have h5 : 48 ≤ l[pos].toNat := by simp [digB] at hb; omega
  have e : (dval (l.take (pos + 1)) : Int) = 10 * z + ((l[pos].toNat : Int) - 48) := by rw [take_at l pos h, dval_snoc, hd.2.2.1]; omega
  exact dst_over (z' := 0) (pos' := 0) h (by omega)
theorem rst_next {l : List UInt8} {pos : Nat} {z : Int} (hd : RSt l pos z) (h : pos < l.length) (hb : digB l[pos] = true) (hq : z ≤ (18446744073709551615 - ((l[pos].toNat : Int) - 48)) / 10) : RSt l (pos + 1) (10 * z + ((l[pos].toNat : Int) - 48)) := by
  have h5 : 48 ≤ l[pos].toNat := by simp [digB] at hb; omega
  obtain ⟨h1, h2, h3, h4⟩ := hd
  refine ⟨h1, ?_, ?_, by omega⟩
  · rw [take_at l pos h, List.all_append, h2]; simp [hb]
  · rw [take_at l pos h, dval_snoc, h3]; omega
theorem rst_end {l : List UInt8} {most pos : Nat} {z : Int} (hd : RSt l pos z) (h : l.length ≤ pos) : decOk l most = decide (z ≤ most) ∧ z = dval l := by
  obtain ⟨h1, h2, h3, h4⟩ := hd
  rw [List.take_of_length_le h] at h2 h3
  refine ⟨?_, h3⟩
  simp [decOk, h1, h2, h3]
theorem rst_start {l : List UInt8} (h : headB l = true) : RSt l 0 0 := ⟨h, rfl, rfl, by omega⟩
theorem head_cases2 (s : ByteArray) : (s = ⟨#[]⟩) ∨ (s.size = 1 ∧ headB s.data.toList = true ∧ s.toList.isEmpty = false) ∨ (∃ h : 0 < s.size, 1 < s.size ∧ s.toList.isEmpty = false ∧ headB s.data.toList = (s[0] != 48)) := by
  obtain ⟨⟨l⟩⟩ := s
  match l with
  | [] => exact .inl rfl
  | [x] => exact .inr (.inl ⟨rfl, by simp [headB], by simp [Lib.toList_data]⟩)
  | x :: y :: r =>
    refine .inr (.inr ⟨by simp [ByteArray.size], by simp [ByteArray.size], by simp [Lib.toList_data], ?_⟩)
    show (x != 48 || false) = (x != 48)
    simp
theorem ret_no {l : List UInt8} {most : Nat} (h : decOk l most = false) : Ending.returned (.tuple #[.int .u64 0, .bool false]) = .returned (.tuple #[.int .u64 (decV l most), .bool (decOk l most)]) := ret_dec (by rw [decV_bad h]; rfl) h.symm
set_option maxRecDepth 100000 in
set_option maxHeartbeats 4000000 in
theorem dec01_any (s : ByteArray) (most : Nat) (hm : most ≤ 18446744073709551615) (hs : s.size ≤ 1000000000) (w : World) :
    Calls Tryd.prog 82 #[.string s, .int .u64 most] w fun e w' => e = .returned (.tuple #[.int .u64 (decV s.data.toList most), .bool (decOk s.data.toList most)]) ∧ Gr w w' := by
  rcases head_cases2 s with rfl | ⟨h1, h2, h3⟩ | ⟨h0, h1, h2, h3⟩
  · go_enter Tryd.func82, Tryd.ntmps82
    go_wp2
    go_ret2
    exact ⟨ret_no rfl, gri⟩
  · have H2 := Lib.hid h2; clear h2
    go_enter Tryd.func82, Tryd.ntmps82
    go_wp2
    go_loop [6, 7] (fun n i => ∃ (pos : Nat) (z : Int), i = .int .i64 pos ∧ pos ≤ s.size ∧ n = .int .u64 z ∧ 0 ≤ z ∧ Hid (RSt s.data.toList pos z)) (fun _ i => s.size - (intOf i).toNat)
    case atStart => exact ⟨0, 0, rfl, Nat.zero_le _, rfl, by omega, Lib.hid (rst_start H2.out)⟩
    case round =>
      obtain ⟨pos, z, rfl, hp, rfl, z0, hd⟩ := hrel
      by_cases hlt : pos < s.size
      · have hz1 : z ≤ 18446744073709551615 := hd.out.2.2.2
        by_cases c1 : (s[pos]'hlt).toNat < 48
        · have hbad := rst_bad (most := most) (pos := pos) (by rw [← Lib.size_eq]; exact hlt) (show digB (s[pos]'hlt) = false by simp [digB]; omega)
          have HB := Lib.hid hbad; clear hbad
          go_wp2
          go_ret2
          exact ⟨ret_no HB.out, Gr.refl _⟩
        · by_cases c2 : 57 < (s[pos]'hlt).toNat
          · have hbad := rst_bad (most := most) (pos := pos) (by rw [← Lib.size_eq]; exact hlt) (show digB (s[pos]'hlt) = false by simp [digB]; omega)
            have HB := Lib.hid hbad; clear hbad
            go_wp2
            go_ret2
            exact ⟨ret_no HB.out, Gr.refl _⟩
          · have hdig : digB (s[pos]'hlt) = true := by simp [digB]; omega
            have HG := Lib.hid hdig; clear hdig
            by_cases c3 : (18446744073709551615 - (((s[pos]'hlt).toNat : Int) - 48)) / 10 < z
            · have hbad := rst_over (l := s.data.toList) hm hd.out (by rw [← Lib.size_eq]; exact hlt) HG.out c3
              have HB := Lib.hid hbad; clear hbad
              go_wp2
              go_ret2
              exact ⟨ret_no HB.out, Gr.refl _⟩
            · have hnx := rst_next (l := s.data.toList) hd.out (by rw [← Lib.size_eq]; exact hlt) HG.out (Int.not_lt.1 c3)
              have HN := Lib.hid hnx; clear hnx
              go_wp2
              go_round
              case rel => exact ⟨pos + 1, 10 * z + (((s[pos]'hlt).toNat : Int) - 48), by go_num, by omega, rfl, by omega, HN⟩
              case measure => simp [intOf]; omega
      · obtain ⟨he, hv⟩ := rst_end (most := most) hd.out (by rw [← Lib.size_eq]; omega)
        have HE := Lib.hid he; have HV := Lib.hid hv; clear he hv
        by_cases c4 : (most : Int) < z
        · go_wp2
          go_ret2
          exact ⟨ret_no (by rw [HE.out]; simpa using c4), Gr.refl _⟩
        · have h5 : decOk s.data.toList most = true := by rw [HE.out]; simpa using c4
          have H5 := Lib.hid h5; clear h5
          go_wp2
          go_ret2
          exact ⟨ret_dec (by rw [decV, if_pos H5.out]; exact HV.out) H5.out.symm, Gr.refl _⟩
  · by_cases hx : s[0] = 48
    · have hbad : decOk s.data.toList most = false := headless (by rw [h3, hx]; rfl)
      have HB := Lib.hid hbad; clear hbad h3
      have h4 : s[0].toNat = 48 := by rw [hx]; rfl
      clear hx
      go_enter Tryd.func82, Tryd.ntmps82
      go_wp2
      go_ret2
      exact ⟨ret_no HB.out, Gr.refl _⟩
    · have h6 : headB s.data.toList = true := by rw [h3]; simpa using hx
      have H6 := Lib.hid h6; clear h6 h3
      have h4 : ((s[0].toNat : Int) == 48) = false := by
        simp only [beq_eq_false_iff_ne, ne_eq]; intro h; exact hx (UInt8.toNat_inj.1 (by simpa using (by omega : s[0].toNat = 48)))
      clear hx
      by_cases h7 : 20 < s.size
      · have hbad : decOk s.data.toList most = false := too_long hm (by rw [← Lib.size_eq]; exact h7)
        have HB := Lib.hid hbad; clear hbad
        go_enter Tryd.func82, Tryd.ntmps82
        go_wp2
        go_ret2
        exact ⟨ret_no HB.out, Gr.refl _⟩
      · go_enter Tryd.func82, Tryd.ntmps82
        go_wp2
        go_loop [6, 7] (fun n i => ∃ (pos : Nat) (z : Int), i = .int .i64 pos ∧ pos ≤ s.size ∧ n = .int .u64 z ∧ 0 ≤ z ∧ Hid (RSt s.data.toList pos z)) (fun _ i => s.size - (intOf i).toNat)
        case atStart => exact ⟨0, 0, rfl, Nat.zero_le _, rfl, by omega, Lib.hid (rst_start H6.out)⟩
        case round =>
          obtain ⟨pos, z, rfl, hp, rfl, z0, hd⟩ := hrel
          by_cases hlt : pos < s.size
          · have hz1 : z ≤ 18446744073709551615 := hd.out.2.2.2
            by_cases c1 : (s[pos]'hlt).toNat < 48
            · have hbad := rst_bad (most := most) (pos := pos) (by rw [← Lib.size_eq]; exact hlt) (show digB (s[pos]'hlt) = false by simp [digB]; omega)
              have HB := Lib.hid hbad; clear hbad
              go_wp2
              go_ret2
              exact ⟨ret_no HB.out, Gr.refl _⟩
            · by_cases c2 : 57 < (s[pos]'hlt).toNat
              · have hbad := rst_bad (most := most) (pos := pos) (by rw [← Lib.size_eq]; exact hlt) (show digB (s[pos]'hlt) = false by simp [digB]; omega)
                have HB := Lib.hid hbad; clear hbad
                go_wp2
                go_ret2
                exact ⟨ret_no HB.out, Gr.refl _⟩
              · have hdig : digB (s[pos]'hlt) = true := by simp [digB]; omega
                have HG := Lib.hid hdig; clear hdig
                by_cases c3 : (18446744073709551615 - (((s[pos]'hlt).toNat : Int) - 48)) / 10 < z
                · have hbad := rst_over (l := s.data.toList) hm hd.out (by rw [← Lib.size_eq]; exact hlt) HG.out c3
                  have HB := Lib.hid hbad; clear hbad
                  go_wp2
                  go_ret2
                  exact ⟨ret_no HB.out, Gr.refl _⟩
                · have hnx := rst_next (l := s.data.toList) hd.out (by rw [← Lib.size_eq]; exact hlt) HG.out (Int.not_lt.1 c3)
                  have HN := Lib.hid hnx; clear hnx
                  go_wp2
                  go_round
                  case rel => exact ⟨pos + 1, 10 * z + (((s[pos]'hlt).toNat : Int) - 48), by go_num, by omega, rfl, by omega, HN⟩
                  case measure => simp [intOf]; omega
          · obtain ⟨he, hv⟩ := rst_end (most := most) hd.out (by rw [← Lib.size_eq]; omega)
            have HE := Lib.hid he; have HV := Lib.hid hv; clear he hv
            by_cases c4 : (most : Int) < z
            · go_wp2
              go_ret2
              exact ⟨ret_no (by rw [HE.out]; simpa using c4), Gr.refl _⟩
            · have h5 : decOk s.data.toList most = true := by rw [HE.out]; simpa using c4
              have H5 := Lib.hid h5; clear h5
              go_wp2
              go_ret2
              exact ⟨ret_dec (by rw [decV, if_pos H5.out]; exact HV.out) H5.out.symm, Gr.refl _⟩
end Go.Proofs.YtgjdgafoidppaaaDoor
namespace Go.Proofs.YtgjdgafoidppaaaDoor
open Go.RowKit Go.Sort Go.Lib
set_option linter.unusedVariables false
set_option linter.unusedSimpArgs false
set_option linter.unnecessarySimpa false
theorem below_grow_os {w : World} (os : Array Obj) : Below w.heap.size w (grow w os) :=
  ⟨rfl, rfl, rfl, by simp [grow], fun i hi => by simp [grow, Array.getElem?_append, hi]⟩
theorem gr_grow {w w' : World} (h : ∃ k os, w' = grow (w.drewN k) os) : Gr w w' := by
  obtain ⟨k, os, rfl⟩ := h
  refine Gr.of ?_
  have h1 : Below w.heap.size w (w.drewN k) := ⟨rfl, rfl, rfl, Nat.le_refl _, fun _ _ => rfl⟩
  exact h1.trans (below_grow_os (w := w.drewN k) os)
theorem holds_zero0 (w : World) (T : TypeId) (nd : Nat) (hs : nd ≤ 24) : Holds (fun (b : UInt8) => Value.int .u8 (b.toNat : Int)) (w.alloc (.cells zeros24 T)) w.heap.size 0 (Array.replicate nd (0 : UInt8)) := fun j hj => by
  have hj' : j < nd := by simpa using hj
  refine ⟨?_, World.frozen?_alloc_new _ _ _ _⟩
  rw [World.cell?_alloc_new, zeros24_at _ (by omega), getElem!_pos _ j hj]
  simp
theorem fin_pos0 (w : World) (o : Obj) (dk : Array UInt8) (k : Nat) : ∃ os, (putRow (fun (b : UInt8) => Value.int .u8 (b.toNat : Int)) (w.alloc o) w.heap.size 0 dk).drewN k = grow (w.drewN k) os := by
  rw [alloc_eq_grow]
  obtain ⟨os', _, e⟩ := putRow_grow_new (fun (b : UInt8) => Value.int .u8 (b.toNat : Int)) w #[o] w.heap.size 0 dk (Nat.le_refl _)
  exact ⟨os', by rw [e]; rfl⟩
theorem itoa_any (n : Int) (h0 : -9223372036854775808 ≤ n) (h1 : n ≤ 9223372036854775807) (w : World) [hk : Tb w] :
    Calls Tryd.prog 56 #[.int .i64 n] w fun e w' => e = .returned (.string ⟨(Lib.itoa n).toArray⟩) ∧ Gr w w' :=
  (Tryd.strconv_Itoa n h0 h1 w hk.pow).mono fun _ _ ⟨he, hw⟩ => ⟨he, gr_grow hw⟩
set_option maxHeartbeats 2000000 in
theorem formatUintI_any (u : Nat) (hu64 : u < 18446744073709551616) (w : World) [hk : Tb w] :
    Calls Tryd.prog 86 #[.int .u64 u, .int .i64 10] w fun e w' => e = .returned (.string ⟨(Lib.decDigits u).toArray⟩) ∧ Gr w w' := by
  by_cases hs : u < 100
  · go_enter Tryd.func86, Tryd.ntmps86
    go_wp2_with (go_at_call 95; ((with_reducible refine (Tryd.internal_strconv_small u hs _).mono ?_); rintro e w' ⟨rfl, rfl⟩))
    go_ret
    exact ⟨rfl, gri⟩
  · have hu1 : 1 ≤ u := by omega
    have hnd20 : Lib.nDigits u ≤ 20 := by have := Lib.numDigits_eq u hu1 hu64; split at this <;> omega
    have hal : Tryd.prog.arrayLen 133 = 24 := by simp [Program.arrayLen, Tryd.underlying133]
    have hsl1 : ∀ W, (Instr.sliceAt 133 (.pointer (some ⟨w.heap.size, 0, none⟩)) none (some (.int .i64 (Lib.nDigits u : Int))) none).run Tryd.prog W = .ok (.slice (some ⟨w.heap.size, 0, none⟩) (Lib.nDigits u) 24) W := fun W => by
      rw [run_sliceAt_array_h W 133 ⟨w.heap.size, 0, none⟩ (by simp [Program.arrayLen, Program.elem, Tryd.underlying133]) .i64 (Lib.nDigits u : Int) (by omega) (by rw [hal]; omega)]
      go_simp
    have hH0 := holds_zero0 w 133 (Lib.nDigits u) (by omega)
    have hfmt := Tryd.internal_strconv_formatBase10 w.heap.size 0 24 u (Array.replicate (Lib.nDigits u) 0) (w.alloc (.cells Lib.zeros24 133)) hH0 (by rw [Array.size_replicate]; exact Lib.lt_pow_nDigits u) hu64 (by rw [Array.size_replicate]; omega)
    rw [Array.size_replicate] at hfmt
    have HH0 := Lib.hid hH0
    clear hH0 hal
    have h24 : (100 : Int) ≤ u := by omega
    have HF := Lib.hid hfmt; clear hfmt
    go_enter Tryd.func86, Tryd.ntmps86
    go_wp2_with (go_at_call 96; refine (Tryd.internal_strconv_numDigits u hu1 hu64 _ (Lib.tabIs_alloc hk.pow _)).mono ?_; rintro e w' ⟨rfl, rfl⟩)
    refine HF.out.mono ?_
    rintro e w' ⟨rfl, k, v', dk, rfl, hF⟩
    have hcv : (convert 41 9 (.slice (some ⟨w.heap.size, 0, none⟩) (Lib.nDigits u) 24)).run Tryd.prog ((putRow (fun (b : UInt8) => Value.int .u8 (b.toNat : Int)) (w.alloc (.cells Lib.zeros24 133)) w.heap.size 0 dk).drewN k) = .ok (.string ⟨(Lib.decDigits u).toArray⟩) ((putRow (fun (b : UInt8) => Value.int .u8 (b.toNat : Int)) (w.alloc (.cells Lib.zeros24 133)) w.heap.size 0 dk).drewN k) := by
      have h := run_convert_bytes_back (P := Tryd.prog) ((putRow (fun (b : UInt8) => Value.int .u8 (b.toNat : Int)) (w.alloc (.cells Lib.zeros24 133)) w.heap.size 0 dk).drewN k) 41 9 5 ⟨w.heap.size, 0, none⟩ 24 (Lib.decDigits u) Tryd.underlying41 Tryd.underlying5 Tryd.underlying9 (fun j hj => by
        rw [Lib.row_is_numeral hF j hj, Lib.add_plain, World.cell?_drewN]
        exact cell?_putRow (fun (b : UInt8) => Value.int .u8 (b.toNat : Int)) _ w.heap.size 0 _ dk HH0.out (by rw [hF.size, Array.size_replicate]) j (by rw [hF.size]; rw [Lib.decDigits_length] at hj; exact hj))
      rw [Lib.decDigits_length] at h
      exact h
    go_wp2
    go_ret
    exact ⟨rfl, gr_grow ⟨k, fin_pos0 w (.cells Lib.zeros24 133) dk k⟩⟩
theorem formatUint_any (u : Int) (h0 : 0 ≤ u) (h1 : u ≤ 18446744073709551615) (w : World) [hk : Tb w] :
    Calls Tryd.prog 67 #[.int .u64 u, .int .i64 10] w fun e w' => e = .returned (.string ⟨(Lib.decDigits u.toNat).toArray⟩) ∧ Gr w w' := by
  obtain ⟨n, rfl⟩ := Int.eq_ofNat_of_zero_le h0
  rw [Int.toNat_natCast]
  have h2 : n < 18446744073709551616 := by omega
  have HI := Lib.hid (fun W (hk : Tb W) => formatUintI_any n h2 W); clear h1 h0 h2
  go_enter Tryd.func67, Tryd.ntmps67
  go_wp2_with (go_at_call 86; ((with_reducible refine (HI.out _ inferInstance).mono ?_); rintro _ _ ⟨rfl, g, rfl⟩))
  go_ret
  exact ⟨rfl, gri⟩
end Go.Proofs.YtgjdgafoidppaaaDoor
