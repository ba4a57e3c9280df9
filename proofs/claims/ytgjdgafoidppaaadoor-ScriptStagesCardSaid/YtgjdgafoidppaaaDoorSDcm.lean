/- wire.Decimal: a number that is read. Conditions: a text of at most 10^9 bytes. -/
import Derived.Test.YtgjdgafoidppaaaDoorSPl
import Derived.Test.YtgjdgafoidppaaaDoorSDec
import Derived.WalkKit
import Derived.LoopTactic
import Derived.Outline
import Derived.BigQuiet
import Derived.Deep.QuietTactic
import Derived.Lib.Strings
import Derived.WalkSmall
import Derived.Lib.RuneCount
namespace Go.Proofs.YtgjdgafoidppaaaDoor
open Go.RowKit
set_option linter.unusedVariables false
set_option linter.unusedSimpArgs false
set_option linter.unnecessarySimpa false
/-- What holds behind so many bytes. -/
def DSt (l : List UInt8) (most : Nat) (pos : Nat) (z : Int) (g : Bool) : Prop :=
  if g then headB l = true ∧ (l.take pos).all digB = true ∧ z = dval (l.take pos) ∧ z ≤ most else decOk l most = false
theorem head_cases (s : ByteArray) : (s = ⟨#[]⟩) ∨ (s = ⟨#[48]⟩) ∨ (∃ h : 0 < s.size, (s.toList == [48]) = false ∧ s.toList.isEmpty = false ∧ headB s.data.toList = (s[0] != 48)) := by
  obtain ⟨⟨l⟩⟩ := s
  match l with
  | [] => exact .inl rfl
  | [x] =>
    by_cases h : x = 48
    · subst h; exact .inr (.inl rfl)
    · refine .inr (.inr ⟨by simp [ByteArray.size], by simp [Lib.toList_data, h], by simp [Lib.toList_data], ?_⟩)
      show (x != 48 || true) = (x != 48)
      simp [h]
  | x :: y :: r =>
    refine .inr (.inr ⟨by simp [ByteArray.size], by simp [Lib.toList_data], by simp [Lib.toList_data], ?_⟩)
    show (x != 48 || false) = (x != 48)
    simp
theorem dst_start (l : List UInt8) (most : Nat) : DSt l most 0 0 (headB l) := by
  unfold DSt
  cases h : headB l with
  | true => simp [dval]
  | false => simp [decOk, h]
theorem dst_false {l : List UInt8} {most pos : Nat} {z : Int} (h : DSt l most pos z false) (pos' : Nat) (z' : Int) : DSt l most pos' z' false := h
theorem take_at (l : List UInt8) (pos : Nat) (h : pos < l.length) : l.take (pos + 1) = l.take pos ++ [l[pos]] := List.take_succ_eq_append_getElem h
/-- A byte that is no digit. -/
theorem dst_bad {l : List UInt8} {most pos : Nat} (h : pos < l.length) (hb : digB l[pos] = false) (pos' : Nat) (z' : Int) : DSt l most pos' z' false := by
  unfold DSt
  have h1 : l.all digB = false := by
    rw [List.all_eq_false]
    exact ⟨l[pos], List.getElem_mem h, by simp [hb]⟩
  simp [decOk, h1]
/-- A digit that is too much. -/
theorem dst_over {l : List UInt8} {most pos : Nat} (h : pos < l.length) (hb : most < dval (l.take (pos + 1))) (pos' : Nat) (z' : Int) : DSt l most pos' z' false := by
  unfold DSt
  have h1 : most < dval l := by
    have h2 := dval_app (l.take (pos + 1)) (l.drop (pos + 1))
    rw [List.take_append_drop] at h2
    omega
  have h3 : decide (dval l ≤ most) = false := by simp; omega
  simp [decOk, h3]
theorem dst_next {l : List UInt8} {most pos : Nat} {z : Int} (hd : DSt l most pos z true) (h : pos < l.length) (hb : digB l[pos] = true) (hm : 10 * z + ((l[pos].toNat : Int) - 48) ≤ most) : DSt l most (pos + 1) (z * 10 + ((l[pos].toNat : Int) - 48)) true := by
  unfold DSt at hd ⊢
  simp only [if_true] at hd ⊢
  obtain ⟨h1, h2, h3, h4⟩ := hd
  have h5 : 48 ≤ l[pos].toNat := by simp [digB] at hb; omega
  rw [take_at l pos h]
  refine ⟨h1, ?_, ?_, by omega⟩
  · rw [List.all_append, h2]; simp [hb]
  · rw [dval_snoc, h3]; omega
theorem dst_val {l : List UInt8} {most pos : Nat} {z : Int} (hd : DSt l most pos z true) (h : pos < l.length) (hb : digB l[pos] = true) : (dval (l.take (pos + 1)) : Int) = 10 * z + ((l[pos].toNat : Int) - 48) := by
  unfold DSt at hd
  simp only [if_true] at hd
  have h5 : 48 ≤ l[pos].toNat := by simp [digB] at hb; omega
  rw [take_at l pos h, dval_snoc, hd.2.2.1]; omega
theorem dst_end {l : List UInt8} {most pos : Nat} {z : Int} {g : Bool} (hd : DSt l most pos z g) (h : l.length ≤ pos) : decOk l most = g ∧ (g = true → z = decV l most) := by
  unfold DSt at hd
  rw [List.take_of_length_le h] at hd
  cases g with
  | false => exact ⟨by simpa using hd, by simp⟩
  | true =>
    simp only [if_true] at hd
    obtain ⟨h1, h2, h3, h4⟩ := hd
    have e : decOk l most = true := by simp [decOk, h1, h2]; omega
    exact ⟨e, fun _ => by rw [decV, if_pos e, h3]⟩
theorem decV_bad {l : List UInt8} {most : Nat} (h : decOk l most = false) : decV l most = 0 := by simp [decV, h]
theorem u64_in (x : Int) : 0 ≤ IntKind.u64.wrap x ∧ IntKind.u64.wrap x ≤ 18446744073709551615 := by
  have e : IntKind.u64.wrap x = x % 18446744073709551616 := by simp [IntKind.wrap, IntKind.signed, IntKind.bits]
  rw [e]; omega
theorem u64_wrap (x : Int) : IntKind.u64.wrap x = x % 18446744073709551616 := by simp [IntKind.wrap, IntKind.signed, IntKind.bits]
def LR (s : ByteArray) (most : Nat) (w : World) (n good : Value) (wr : World) : Prop :=
  ∃ (pos : Nat) (z : Int) (g : Bool), n = .int .u64 z ∧ 0 ≤ z ∧ z ≤ 18446744073709551615 ∧ good = .bool g ∧ DSt s.data.toList most pos z g ∧ wr.heap[w.heap.size]? = some (.stringIter s pos) ∧ Below w.heap.size w wr
theorem lr_start (s : ByteArray) (most : Nat) (w : World) (n : Nat) (g : Bool) (h : g = headB s.data.toList) : LR s most w (.int .u64 0) (.bool g) ((w.drewN n).alloc (.stringIter s 0)) := by
  subst h
  have hb : Below w.heap.size w (w.drewN n) := ⟨rfl, rfl, rfl, Nat.le_refl _, fun _ _ => rfl⟩
  exact ⟨0, 0, _, rfl, by omega, by omega, rfl, dst_start _ _, World.iter_heap (w.drewN n) s 0, hb.alloc (Nat.le_refl _) _⟩
theorem lr_step {s : ByteArray} {most : Nat} {w wr : World} {pos k S : Nat} {z' : Int} {g' : Bool} (hit : wr.heap[w.heap.size]? = some (.stringIter s pos)) (hbw : Below w.heap.size w wr) (hk : 1 ≤ k) (hp : pos < S)
    (hd : DSt s.data.toList most (pos + k) z' g') (z0 : 0 ≤ z') (z1 : z' ≤ 18446744073709551615) :
    LR s most w (.int .u64 z') (.bool g') (wr.iterAt w.heap.size s (pos + k)) ∧ S - (wr.iterAt w.heap.size s (pos + k)).iterPos w.heap.size < S - wr.iterPos w.heap.size := by
  have hit2 := Lib.iterAt_heap wr w.heap.size s pos (pos + k) hit
  refine ⟨⟨pos + k, z', g', rfl, z0, z1, rfl, hd, hit2, Lib.below_iterAt hbw (Nat.le_refl _) s (pos + k)⟩, ?_⟩
  rw [iterPos_of hit2, iterPos_of hit]; omega
theorem width_pos (s : ByteArray) (pos : Nat) (h : pos < s.size) : 1 ≤ (Utf8.decode s pos).2 := Lib.decode_width_pos s pos h
theorem rune_digit (s : ByteArray) (pos : Nat) (h : pos < s.data.toList.length) : (48 ≤ (Utf8.decode s pos).1 ∧ (Utf8.decode s pos).1 ≤ 57 ∧ (Utf8.decode s pos).2 = 1 ∧ (s.data.toList[pos]).toNat = (Utf8.decode s pos).1 ∧ digB s.data.toList[pos] = true) ∨ ((Utf8.decode s pos).1 < 48 ∧ digB s.data.toList[pos] = false) ∨ (57 < (Utf8.decode s pos).1 ∧ digB s.data.toList[pos] = false) := by
  have hs : pos < s.size := by rw [Lib.size_eq]; exact h
  have e : s.data.toList[pos] = s[pos] := rfl
  by_cases ha : (s[pos]'hs).toNat < 128
  · rw [decode_ascii s pos hs ha, e]
    by_cases h1 : 48 ≤ s[pos].toNat
    · by_cases h2 : s[pos].toNat ≤ 57
      · exact .inl ⟨h1, h2, rfl, rfl, by simp [digB, h1, h2]⟩
      · exact .inr (.inr ⟨by omega, by simp [digB]; omega⟩)
    · exact .inr (.inl ⟨by omega, by simp [digB]; omega⟩)
  · have h1 := (decode_high s pos hs (by omega)).1
    rw [e]
    exact .inr (.inr ⟨by omega, by simp [digB]; omega⟩)
theorem ret_dec {a b : Int} {c d : Bool} (h : a = b) (k : c = d) : Ending.returned (.tuple #[.int .u64 a, .bool c]) = .returned (.tuple #[.int .u64 b, .bool d]) := by rw [h, k]
set_option maxRecDepth 100000 in
set_option maxHeartbeats 4000000 in
theorem dec_any (s : ByteArray) (most : Nat) (hm : most ≤ 18446744073709551615) (hs : s.size ≤ 1000000000) (w : World) :
    Calls Tryd.prog 74 #[.string s, .int .u64 most] w fun e w' => e = .returned (.tuple #[.int .u64 (decV s.data.toList most), .bool (decOk s.data.toList most)]) ∧ Gr w w' := by
  have hst := Lib.hid (lr_start s most w)
  rcases head_cases s with rfl | rfl | ⟨h0, h1, h2, h3⟩
  · go_enter Tryd.func74, Tryd.ntmps74
    go_wp2
    go_quiet (fail)
    go_wp2
    go_loopw [6, 7] (fun n good wr => LR ⟨#[]⟩ most w n good wr) (fun _ _ wr => 0 - wr.iterPos w.heap.size)
    case atStart => exact hst.out _ _ rfl
    case round =>
      obtain ⟨pos, z, g, rfl, z0, z1, rfl, hd, hit, hbw⟩ := hrel
      have HD := Lib.hid hd; clear hd
      by_cases hp2 : pos < (⟨#[]⟩ : ByteArray).size
      · have hnx : ∀ ty, (Instr.next (.pointer (some ⟨w.heap.size, 0, none⟩)) true ty).run Tryd.prog wr = _ := fun ty => Lib.run_next_any_at wr w.heap.size (⟨#[]⟩ : ByteArray) pos ty hit hp2
        have hit2 := Lib.iterAt_heap wr w.heap.size (⟨#[]⟩ : ByteArray) pos (pos + (Utf8.decode (⟨#[]⟩ : ByteArray) pos).2) hit
        have hbw2 := Lib.below_iterAt hbw (k := w.heap.size) (Nat.le_refl _) (⟨#[]⟩ : ByteArray) (pos + (Utf8.decode (⟨#[]⟩ : ByteArray) pos).2)
        have hd1 := decode_le (⟨#[]⟩ : ByteArray) pos
        have hk1 := Lib.hid (width_pos (⟨#[]⟩ : ByteArray) pos hp2)
        have hrd := Lib.hid (rune_digit (⟨#[]⟩ : ByteArray) pos (by rw [← Lib.size_eq]; exact hp2))
        generalize hr : (Utf8.decode (⟨#[]⟩ : ByteArray) pos).1 = r at *
        generalize hk : (Utf8.decode (⟨#[]⟩ : ByteArray) pos).2 = k at *
        clear hr hk
        cases g
        · go_wp2
          exact lr_step hit hbw hk1.out (by exact hp2) (dst_false HD.out _ _) (u64_in _).1 (u64_in _).2
        · rcases hrd.out with ⟨d1, d2, rfl, d4, d5⟩ | ⟨d1, d2⟩ | ⟨d1, d2⟩
          · have hs1 : IntKind.i32.wrap ((r : Int) - 48) = (r : Int) - 48 := by simp [IntKind.wrap, IntKind.signed, IntKind.bits]; omega
            have hs2 : IntKind.u64.wrap ((r : Int) - 48) = (r : Int) - 48 := by rw [u64_wrap]; omega
            by_cases hq : z ≤ (most : Int) / 10
            · have hs3 : IntKind.u64.wrap (z * 10) = z * 10 := by rw [u64_wrap]; omega
              by_cases hq2 : (r : Int) - 48 ≤ most - z * 10
              · have hs4 : IntKind.u64.wrap (z * 10 + ((r : Int) - 48)) = z * 10 + ((r : Int) - 48) := by rw [u64_wrap]; omega
                have HE := Lib.hid d4; clear d4
                have HE5 := Lib.hid d5; clear d5
                go_wp2
                all_goals
                  have e : decide ((r : Int) - 48 ≤ (most : Int) - min (z * 10) most) = true := by rw [decide_eq_true_eq, Int.min_eq_left (by omega)]; omega
                  rw [e]
                  exact lr_step hit hbw (Nat.le_refl 1) (by exact hp2) (by
                    have h5 := dst_next HD.out (by rw [← Lib.size_eq]; exact hp2) HE5.out (by rw [HE.out]; omega)
                    rw [HE.out] at h5
                    exact h5) (by omega) (by omega)
              · have HE := Lib.hid d4; clear d4
                have HE5 := Lib.hid d5; clear d5
                go_wp2
                all_goals
                  have e : decide ((r : Int) - 48 ≤ (most : Int) - min (z * 10) most) = false := by rw [decide_eq_false_iff_not, Int.min_eq_left (by omega)]; omega
                  rw [e]
                  exact lr_step hit hbw (Nat.le_refl 1) (by exact hp2) (dst_over (by rw [← Lib.size_eq]; exact hp2) (by
                    have h5 := dst_val HD.out (by rw [← Lib.size_eq]; exact hp2) HE5.out
                    rw [HE.out] at h5
                    omega) _ _) (u64_in _).1 (u64_in _).2
            · have HE := Lib.hid d4; clear d4
              have HE5 := Lib.hid d5; clear d5
              go_wp2
              all_goals
                exact lr_step hit hbw (Nat.le_refl 1) (by exact hp2) (dst_over (by rw [← Lib.size_eq]; exact hp2) (by
                  have h5 := dst_val HD.out (by rw [← Lib.size_eq]; exact hp2) HE5.out
                  rw [HE.out] at h5
                  omega) _ _) (u64_in _).1 (u64_in _).2
          · go_wp2
            all_goals exact lr_step hit hbw hk1.out (by exact hp2) (dst_bad (by rw [← Lib.size_eq]; exact hp2) d2 _ _) (u64_in _).1 (u64_in _).2
          · go_wp2
            all_goals exact lr_step hit hbw hk1.out (by exact hp2) (dst_bad (by rw [← Lib.size_eq]; exact hp2) d2 _ _) (u64_in _).1 (u64_in _).2
      · have hnx : ∀ ty, (Instr.next (.pointer (some ⟨w.heap.size, 0, none⟩)) true ty).run Tryd.prog wr = _ := fun ty => Lib.run_next_end_at wr w.heap.size (⟨#[]⟩ : ByteArray) pos ty hit hp2
        have hfin := dst_end HD.out (by rw [← Lib.size_eq]; omega)
        have HF := Lib.hid hfin; clear hfin
        cases g
        · go_wp2
          go_ret2
          have h1 : decOk (⟨#[]⟩ : ByteArray).data.toList most = false := HF.out.1
          exact ⟨ret_dec (by rw [decV_bad h1]; rfl) h1.symm, Gr.of hbw⟩
        · go_wp2
          go_ret2
          have h1 : decOk (⟨#[]⟩ : ByteArray).data.toList most = true := HF.out.1
          exact ⟨ret_dec (HF.out.2 (by trivial)) h1.symm, Gr.of hbw⟩
  · go_enter Tryd.func74, Tryd.ntmps74
    go_wp2
    go_quiet (fail)
    go_wp2
    go_loopw [6, 7] (fun n good wr => LR ⟨#[48]⟩ most w n good wr) (fun _ _ wr => 1 - wr.iterPos w.heap.size)
    case atStart => exact hst.out _ _ rfl
    case round =>
      obtain ⟨pos, z, g, rfl, z0, z1, rfl, hd, hit, hbw⟩ := hrel
      have HD := Lib.hid hd; clear hd
      by_cases hp2 : pos < (⟨#[48]⟩ : ByteArray).size
      · have hnx : ∀ ty, (Instr.next (.pointer (some ⟨w.heap.size, 0, none⟩)) true ty).run Tryd.prog wr = _ := fun ty => Lib.run_next_any_at wr w.heap.size (⟨#[48]⟩ : ByteArray) pos ty hit hp2
        have hit2 := Lib.iterAt_heap wr w.heap.size (⟨#[48]⟩ : ByteArray) pos (pos + (Utf8.decode (⟨#[48]⟩ : ByteArray) pos).2) hit
        have hbw2 := Lib.below_iterAt hbw (k := w.heap.size) (Nat.le_refl _) (⟨#[48]⟩ : ByteArray) (pos + (Utf8.decode (⟨#[48]⟩ : ByteArray) pos).2)
        have hd1 := decode_le (⟨#[48]⟩ : ByteArray) pos
        have hk1 := Lib.hid (width_pos (⟨#[48]⟩ : ByteArray) pos hp2)
        have hrd := Lib.hid (rune_digit (⟨#[48]⟩ : ByteArray) pos (by rw [← Lib.size_eq]; exact hp2))
        generalize hr : (Utf8.decode (⟨#[48]⟩ : ByteArray) pos).1 = r at *
        generalize hk : (Utf8.decode (⟨#[48]⟩ : ByteArray) pos).2 = k at *
        clear hr hk
        cases g
        · go_wp2
          exact lr_step hit hbw hk1.out (by exact hp2) (dst_false HD.out _ _) (u64_in _).1 (u64_in _).2
        · rcases hrd.out with ⟨d1, d2, rfl, d4, d5⟩ | ⟨d1, d2⟩ | ⟨d1, d2⟩
          · have hs1 : IntKind.i32.wrap ((r : Int) - 48) = (r : Int) - 48 := by simp [IntKind.wrap, IntKind.signed, IntKind.bits]; omega
            have hs2 : IntKind.u64.wrap ((r : Int) - 48) = (r : Int) - 48 := by rw [u64_wrap]; omega
            by_cases hq : z ≤ (most : Int) / 10
            · have hs3 : IntKind.u64.wrap (z * 10) = z * 10 := by rw [u64_wrap]; omega
              by_cases hq2 : (r : Int) - 48 ≤ most - z * 10
              · have hs4 : IntKind.u64.wrap (z * 10 + ((r : Int) - 48)) = z * 10 + ((r : Int) - 48) := by rw [u64_wrap]; omega
                have HE := Lib.hid d4; clear d4
                have HE5 := Lib.hid d5; clear d5
                go_wp2
                all_goals
                  have e : decide ((r : Int) - 48 ≤ (most : Int) - min (z * 10) most) = true := by rw [decide_eq_true_eq, Int.min_eq_left (by omega)]; omega
                  rw [e]
                  exact lr_step hit hbw (Nat.le_refl 1) (by exact hp2) (by
                    have h5 := dst_next HD.out (by rw [← Lib.size_eq]; exact hp2) HE5.out (by rw [HE.out]; omega)
                    rw [HE.out] at h5
                    exact h5) (by omega) (by omega)
              · have HE := Lib.hid d4; clear d4
                have HE5 := Lib.hid d5; clear d5
                go_wp2
                all_goals
                  have e : decide ((r : Int) - 48 ≤ (most : Int) - min (z * 10) most) = false := by rw [decide_eq_false_iff_not, Int.min_eq_left (by omega)]; omega
                  rw [e]
                  exact lr_step hit hbw (Nat.le_refl 1) (by exact hp2) (dst_over (by rw [← Lib.size_eq]; exact hp2) (by
                    have h5 := dst_val HD.out (by rw [← Lib.size_eq]; exact hp2) HE5.out
                    rw [HE.out] at h5
                    omega) _ _) (u64_in _).1 (u64_in _).2
            · have HE := Lib.hid d4; clear d4
              have HE5 := Lib.hid d5; clear d5
              go_wp2
              all_goals
                exact lr_step hit hbw (Nat.le_refl 1) (by exact hp2) (dst_over (by rw [← Lib.size_eq]; exact hp2) (by
                  have h5 := dst_val HD.out (by rw [← Lib.size_eq]; exact hp2) HE5.out
                  rw [HE.out] at h5
                  omega) _ _) (u64_in _).1 (u64_in _).2
          · go_wp2
            all_goals exact lr_step hit hbw hk1.out (by exact hp2) (dst_bad (by rw [← Lib.size_eq]; exact hp2) d2 _ _) (u64_in _).1 (u64_in _).2
          · go_wp2
            all_goals exact lr_step hit hbw hk1.out (by exact hp2) (dst_bad (by rw [← Lib.size_eq]; exact hp2) d2 _ _) (u64_in _).1 (u64_in _).2
      · have hnx : ∀ ty, (Instr.next (.pointer (some ⟨w.heap.size, 0, none⟩)) true ty).run Tryd.prog wr = _ := fun ty => Lib.run_next_end_at wr w.heap.size (⟨#[48]⟩ : ByteArray) pos ty hit hp2
        have hfin := dst_end HD.out (by rw [← Lib.size_eq]; omega)
        have HF := Lib.hid hfin; clear hfin
        cases g
        · go_wp2
          go_ret2
          have h1 : decOk (⟨#[48]⟩ : ByteArray).data.toList most = false := HF.out.1
          exact ⟨ret_dec (by rw [decV_bad h1]; rfl) h1.symm, Gr.of hbw⟩
        · go_wp2
          go_ret2
          have h1 : decOk (⟨#[48]⟩ : ByteArray).data.toList most = true := HF.out.1
          exact ⟨ret_dec (HF.out.2 (by trivial)) h1.symm, Gr.of hbw⟩
  · have H3 := Lib.hid h3; clear h3
    go_enter Tryd.func74, Tryd.ntmps74
    go_wp2
    go_quiet (fail)
    go_wp2
    go_loopw [6, 7] (fun n good wr => LR s most w n good wr) (fun _ _ wr => s.size - wr.iterPos w.heap.size)
    case atStart => exact hst.out _ _ (by rw [H3.out, Bool.eq_iff_iff]; simp only [bne_iff_ne, ne_eq]; exact not_congr ⟨fun h => UInt8.toNat_inj.1 (by simpa using (by omega : s[0].toNat = 48)), fun h => by rw [h]; rfl⟩)
    case round =>
      obtain ⟨pos, z, g, rfl, z0, z1, rfl, hd, hit, hbw⟩ := hrel
      have HD := Lib.hid hd; clear hd
      by_cases hp2 : pos < s.size
      · have hnx : ∀ ty, (Instr.next (.pointer (some ⟨w.heap.size, 0, none⟩)) true ty).run Tryd.prog wr = _ := fun ty => Lib.run_next_any_at wr w.heap.size s pos ty hit hp2
        have hit2 := Lib.iterAt_heap wr w.heap.size s pos (pos + (Utf8.decode s pos).2) hit
        have hbw2 := Lib.below_iterAt hbw (k := w.heap.size) (Nat.le_refl _) s (pos + (Utf8.decode s pos).2)
        have hd1 := decode_le s pos
        have hk1 := Lib.hid (width_pos s pos hp2)
        have hrd := Lib.hid (rune_digit s pos (by rw [← Lib.size_eq]; exact hp2))
        generalize hr : (Utf8.decode s pos).1 = r at *
        generalize hk : (Utf8.decode s pos).2 = k at *
        clear hr hk
        cases g
        · go_wp2
          exact lr_step hit hbw hk1.out (by exact hp2) (dst_false HD.out _ _) (u64_in _).1 (u64_in _).2
        · rcases hrd.out with ⟨d1, d2, rfl, d4, d5⟩ | ⟨d1, d2⟩ | ⟨d1, d2⟩
          · have hs1 : IntKind.i32.wrap ((r : Int) - 48) = (r : Int) - 48 := by simp [IntKind.wrap, IntKind.signed, IntKind.bits]; omega
            have hs2 : IntKind.u64.wrap ((r : Int) - 48) = (r : Int) - 48 := by rw [u64_wrap]; omega
            by_cases hq : z ≤ (most : Int) / 10
            · have hs3 : IntKind.u64.wrap (z * 10) = z * 10 := by rw [u64_wrap]; omega
              by_cases hq2 : (r : Int) - 48 ≤ most - z * 10
              · have hs4 : IntKind.u64.wrap (z * 10 + ((r : Int) - 48)) = z * 10 + ((r : Int) - 48) := by rw [u64_wrap]; omega
                have HE := Lib.hid d4; clear d4
                have HE5 := Lib.hid d5; clear d5
                go_wp2
                all_goals
                  have e : decide ((r : Int) - 48 ≤ (most : Int) - min (z * 10) most) = true := by rw [decide_eq_true_eq, Int.min_eq_left (by omega)]; omega
                  rw [e]
                  exact lr_step hit hbw (Nat.le_refl 1) (by exact hp2) (by
                    have h5 := dst_next HD.out (by rw [← Lib.size_eq]; exact hp2) HE5.out (by rw [HE.out]; omega)
                    rw [HE.out] at h5
                    exact h5) (by omega) (by omega)
              · have HE := Lib.hid d4; clear d4
                have HE5 := Lib.hid d5; clear d5
                go_wp2
                all_goals
                  have e : decide ((r : Int) - 48 ≤ (most : Int) - min (z * 10) most) = false := by rw [decide_eq_false_iff_not, Int.min_eq_left (by omega)]; omega
                  rw [e]
                  exact lr_step hit hbw (Nat.le_refl 1) (by exact hp2) (dst_over (by rw [← Lib.size_eq]; exact hp2) (by
                    have h5 := dst_val HD.out (by rw [← Lib.size_eq]; exact hp2) HE5.out
                    rw [HE.out] at h5
                    omega) _ _) (u64_in _).1 (u64_in _).2
            · have HE := Lib.hid d4; clear d4
              have HE5 := Lib.hid d5; clear d5
              go_wp2
              all_goals
                exact lr_step hit hbw (Nat.le_refl 1) (by exact hp2) (dst_over (by rw [← Lib.size_eq]; exact hp2) (by
                  have h5 := dst_val HD.out (by rw [← Lib.size_eq]; exact hp2) HE5.out
                  rw [HE.out] at h5
                  omega) _ _) (u64_in _).1 (u64_in _).2
          · go_wp2
            all_goals exact lr_step hit hbw hk1.out (by exact hp2) (dst_bad (by rw [← Lib.size_eq]; exact hp2) d2 _ _) (u64_in _).1 (u64_in _).2
          · go_wp2
            all_goals exact lr_step hit hbw hk1.out (by exact hp2) (dst_bad (by rw [← Lib.size_eq]; exact hp2) d2 _ _) (u64_in _).1 (u64_in _).2
      · have hnx : ∀ ty, (Instr.next (.pointer (some ⟨w.heap.size, 0, none⟩)) true ty).run Tryd.prog wr = _ := fun ty => Lib.run_next_end_at wr w.heap.size s pos ty hit hp2
        have hfin := dst_end HD.out (by rw [← Lib.size_eq]; omega)
        have HF := Lib.hid hfin; clear hfin
        cases g
        · go_wp2
          go_ret2
          have h1 : decOk s.data.toList most = false := HF.out.1
          exact ⟨ret_dec (by rw [decV_bad h1]; rfl) h1.symm, Gr.of hbw⟩
        · go_wp2
          go_ret2
          have h1 : decOk s.data.toList most = true := HF.out.1
          exact ⟨ret_dec (HF.out.2 (by trivial)) h1.symm, Gr.of hbw⟩
end Go.Proofs.YtgjdgafoidppaaaDoor
