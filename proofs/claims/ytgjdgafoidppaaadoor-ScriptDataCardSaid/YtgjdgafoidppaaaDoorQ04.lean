/- wire.Unhex: the bytes of hex's letters. Conditions: a text of at most 10^7 bytes. wire.Decimal: a number that is read. Conditions: a text of at most 10^9 bytes. A line's words, taken one by one: word, number, small. Conditions: the words stand in memory. The tables of layers 13, 26: what the kinds have. Conditions: none. command.within, command.Same. Conditions: what is read stands in memory. script.MayStage, voileref26.MayStage. Conditions: none. 'l = append(l, word)' onto a slice of the call's own, with all that stays as it was. Conditions: at most 1000 words. 'l = append(l, words..)' onto a slice of the call's own: some words at once. Conditions: at most 10^6 words. -/
import Derived.Test.YtgjdgafoidppaaaDoorQ03
import Derived.Lib.RuneCount
import Derived.Lib.QuoteLoop
import Derived.Test.YtgjdgafoidppaaaDoorQ01
import Derived.WalkKit
import Derived.LoopTactic
import Derived.Outline
import Derived.BigQuiet
import Derived.Deep.QuietTactic
import Derived.Lib.Strings
import Derived.WalkSmall
namespace Go.Proofs.YtgjdgafoidppaaaDoor
open Go.RowKit
set_option linter.unusedVariables false
set_option linter.unusedSimpArgs false
set_option linter.unnecessarySimpa false
/-- The bytes of hex's letters, or none. -/
def unhexL : List UInt8 → Option (List UInt8)
  | [] => some []
  | [_] => none
  | a :: b :: r => if hexv a.toNat < 0 ∨ hexv b.toNat < 0 then none else (unhexL r).map ((UInt8.ofNat (16 * hexv a.toNat + hexv b.toNat).toNat) :: ·)
theorem hexv_range (r : Nat) : -1 ≤ hexv r ∧ hexv r ≤ 15 := by
  unfold hexv
  split
  · omega
  · split <;> omega
theorem unhexL_bad : ∀ (l : List UInt8) (x : UInt8), x ∈ l → hexv x.toNat < 0 → unhexL l = none
  | [], x, h, _ => by cases h
  | [a], x, h, _ => rfl
  | a :: b :: r, x, h, hx => by
    unfold unhexL
    rcases List.mem_cons.1 h with rfl | h
    · rw [if_pos (.inl hx)]
    · rcases List.mem_cons.1 h with rfl | h
      · rw [if_pos (.inr hx)]
      · split
        · rfl
        · rw [unhexL_bad r x h hx]; rfl
theorem unhexL_odd : ∀ (l : List UInt8), l.length % 2 = 1 → unhexL l = none
  | [], h => by simp at h
  | [a], h => rfl
  | a :: b :: r, h => by
    unfold unhexL
    split
    · rfl
    · rw [unhexL_odd r (by simp at h; omega)]; rfl
theorem unhexL_snoc : ∀ (l o : List UInt8) (a b : UInt8), unhexL l = some o → 0 ≤ hexv a.toNat → 0 ≤ hexv b.toNat → unhexL (l ++ [a, b]) = some (o ++ [UInt8.ofNat (16 * hexv a.toNat + hexv b.toNat).toNat])
  | [], o, a, b, h, ha, hb => by
    simp [unhexL] at h
    subst h
    simp only [List.nil_append, unhexL]
    rw [if_neg (by omega)]; rfl
  | [c], o, a, b, h, _, _ => by simp [unhexL] at h
  | c :: d :: r, o, a, b, h, ha, hb => by
    rw [List.cons_append, List.cons_append]
    unfold unhexL at h ⊢
    split at h
    · cases h
    · rename_i hn
      rw [if_neg hn]
      cases hr : unhexL r with
      | none => rw [hr] at h; cases h
      | some o' =>
        rw [hr] at h
        simp at h
        subst h
        rw [unhexL_snoc r o' a b hr ha hb]; rfl
theorem unhexL_len : ∀ (l o : List UInt8), unhexL l = some o → l.length = 2 * o.length
  | [], o, h => by simp [unhexL] at h; subst h; rfl
  | [a], o, h => by simp [unhexL] at h
  | a :: b :: r, o, h => by
    unfold unhexL at h
    split at h
    · cases h
    · cases hr : unhexL r with
      | none => rw [hr] at h; cases h
      | some o' =>
        rw [hr] at h
        simp at h
        subst h
        have := unhexL_len r o' hr
        simp; omega
theorem hexd_back : ∀ i : Fin 16, hexv (hexd i.val).toNat = i.val := by decide +kernel
/-- What was told is read. -/
theorem unhexL_hex : ∀ l : List UInt8, unhexL (hexL l) = some l
  | [] => rfl
  | c :: l => by
    have e : hexL (c :: l) = hexd (c.toNat / 16) :: hexd (c.toNat % 16) :: hexL l := rfl
    have h1 := hexd_back ⟨c.toNat / 16, by have := c.toNat_lt; omega⟩
    have h2 := hexd_back ⟨c.toNat % 16, by omega⟩
    simp only at h1 h2
    rw [e, unhexL, h1, h2, if_neg (by omega), unhexL_hex l]
    simp only [Option.map_some]
    congr 2
    rw [show (16 * ((c.toNat / 16 : Nat) : Int) + ((c.toNat % 16 : Nat) : Int)).toNat = c.toNat by omega]
    simp
/-- What holds behind so many letters. -/
def USt (l : List UInt8) (pos : Nat) (half : Int) (out : List UInt8) : Prop :=
  (half = -1 ∧ pos % 2 = 0 ∧ unhexL (l.take pos) = some out) ∨ (0 ≤ half ∧ pos % 2 = 1 ∧ ∃ x, l[pos - 1]? = some x ∧ hexv x.toNat = half ∧ unhexL (l.take (pos - 1)) = some out)
theorem rune_hex (s : ByteArray) (pos : Nat) (h : pos < s.data.toList.length) : (hexv (Utf8.decode s pos).1 = hexv (s.data.toList[pos]).toNat ∧ (Utf8.decode s pos).2 = 1) ∨ (hexv (Utf8.decode s pos).1 = -1 ∧ hexv (s.data.toList[pos]).toNat = -1) := by
  have hs : pos < s.size := by rw [Lib.size_eq]; exact h
  have e : s.data.toList[pos] = s[pos] := rfl
  by_cases ha : (s[pos]'hs).toNat < 128
  · rw [decode_ascii s pos hs ha, e]; exact .inl ⟨rfl, rfl⟩
  · have h1 := (decode_high s pos hs (by omega)).1
    rw [e]
    exact .inr ⟨hexv_high h1, hexv_high (by omega)⟩
theorem rune_max (s : ByteArray) (pos : Nat) : (Utf8.decode s pos).1 ≤ 1114111 := by
  rw [Lib.decode_at]
  have h0 : (s.get! pos).toNat < 256 := (s.get! pos).toNat_lt
  rcases Lib.decodeN_valid (s.size - pos) (s.get! pos).toNat (s.get! (pos + 1)).toNat (s.get! (pos + 2)).toNat (s.get! (pos + 3)).toNat h0 with h | ⟨_, h⟩
  · omega
  · exact h
set_option maxRecDepth 100000 in
set_option maxHeartbeats 4000000 in
theorem unhex_any (s : ByteArray) (hs : s.size ≤ 10000000) (w : World) :
    Calls Tryd.prog 84 #[.string s] w fun e w' => ∃ v, e = .returned (.tuple #[v, .bool (unhexL s.data.toList).isSome]) ∧ OwnR bv 5 w.heap.size w' v ((unhexL s.data.toList).getD []) ∧ Below w.heap.size w w' := by
  go_enter Tryd.func84, Tryd.ntmps84
  go_wp2
  go_loopw [4, 5] (fun hf v wr => ∃ (pos : Nat) (half : Int) (out : List UInt8), hf = .int .i64 half ∧ OwnR bv 5 w.heap.size wr v out ∧ USt s.data.toList pos half out ∧ out.length ≤ pos ∧ pos ≤ s.size ∧ wr.heap[w.heap.size + 1]? = some (.stringIter s pos) ∧ Below w.heap.size w wr) (fun _ _ wr => s.size - wr.iterPos (w.heap.size + 1))
  case atStart =>
    refine ⟨0, -1, [], rfl, ?_, .inl ⟨rfl, rfl, rfl⟩, by simp, by omega, ?_, ((Below.refl _ _).alloc (Nat.le_refl _) _).alloc (by simp) _⟩
    · exact (OwnR.alloc_ ⟨rfl, .inr ⟨w.heap.size, 0, #[], rfl, Nat.le_refl _, heap_alloc_new w _, Nat.le_refl _, by unfold maxLen; omega, rfl, rfl⟩⟩ _)
    · have := World.iter_heap (w.alloc (.cells #[] 5)) s 0
      have e : (w.alloc (.cells #[] 5)).heap.size = w.heap.size + 1 := by simp
      rw [e] at this
      exact this
  case round =>
    obtain ⟨pos, half, out, rfl, hown, hst, hol, hps, hit, hbw⟩ := hrel
    have HST := Lib.hid hst; clear hst
    have hsz : w.heap.size + 1 < wr.heap.size := (Array.getElem?_eq_some_iff.1 hit).1
    by_cases hp2 : pos < s.size
    · have hpl : pos < s.data.toList.length := by rw [← Lib.size_eq]; exact hp2
      have hnx : ∀ ty, (Instr.next (.pointer (some ⟨w.heap.size + 1, 0, none⟩)) true ty).run Tryd.prog wr = _ := fun ty => Lib.run_next_any_at wr (w.heap.size + 1) s pos ty hit hp2
      have hrh := Lib.hid (rune_hex s pos hpl)
      have hmx := rune_max s pos
      have hrg := hexv_range (Utf8.decode s pos).1
      have HI := Lib.hid (fun W => idx_any (Utf8.decode s pos).1 hmx W)
      generalize hr : (Utf8.decode s pos).1 = r at *
      generalize hk : (Utf8.decode s pos).2 = k at *
      clear hr hk
      have hit2 := Lib.iterAt_heap wr (w.heap.size + 1) s pos (pos + k) hit
      have hbw2 := Lib.below_iterAt hbw (k := w.heap.size + 1) (by omega) s (pos + k)
      have hown2 := hown.iter_ (w.heap.size + 1) hit s (pos + k)
      have hsz2 : w.heap.size + 1 < (wr.iterAt (w.heap.size + 1) s (pos + k)).heap.size := by rw [Lib.iterAt_size]; exact hsz
      generalize hd : hexv r = d at *
      clear hd
      by_cases hneg : d < 0
      · have hbad : unhexL s.data.toList = none := unhexL_bad _ _ (List.getElem_mem hpl) (by rcases hrh.out with ⟨h, _⟩ | ⟨_, h⟩ <;> omega)
        have HB := Lib.hid hbad; clear hbad
        go_wp2_with ((go_at_call 94; ((with_reducible refine (HI.out _).mono ?_); rintro _ _ ⟨rfl, g, rfl⟩)))
        go_ret2
        exact ⟨_, by rw [HB.out]; rfl, by rw [HB.out]; exact OwnR.nil _ _, below_trans hbw2 (grown_below _ _)⟩
      · have hk1 : k = 1 ∧ hexv (s.data.toList[pos]).toNat = d := by rcases hrh.out with ⟨h, h2⟩ | ⟨h, _⟩ <;> omega
        obtain ⟨rfl, hx⟩ := hk1
        have HX := Lib.hid hx; clear hx
        rcases HST.out with ⟨rfl, hev, hun⟩ | ⟨hh0, hev, x, hx1, hx2, hun⟩
        · have HU := Lib.hid hun; clear hun
          go_wp2_with ((go_at_call 94; ((with_reducible refine (HI.out _).mono ?_); rintro _ _ ⟨rfl, g, rfl⟩)))
          have hit3 : (grown (wr.iterAt (w.heap.size + 1) s (pos + 1)) g).heap[w.heap.size + 1]? = some (.stringIter s (pos + 1)) := (g.below.block _ hsz2).trans hit2
          have HIT3 := Lib.hid hit3; clear hit3
          go_roundw
          case rel =>
            refine ⟨pos + 1, d, out, rfl, hown2.grown_ g, .inr ⟨by omega, by omega, _, ?_, HX.out, HU.out⟩, by omega, by omega, HIT3.out, below_trans hbw2 (grown_below _ _)⟩
            simp
          case measure => rw [iterPos_of HIT3.out, iterPos_of hit]; omega
        · have HU := Lib.hid hun; clear hun
          have HX1 := Lib.hid hx1; clear hx1
          have HX2 := Lib.hid hx2; clear hx2
          have hhr : half ≤ 15 := by have := (hexv_range x.toNat).2; have := HX2.out; omega
          have hwr : IntKind.u8.wrap (16 * half + d) = 16 * half + d := by simp [IntKind.wrap, IntKind.signed, IntKind.bits]; omega
          go_wp2_with ((go_at_call 94; ((with_reducible refine (HI.out _).mono ?_))))
          rintro _ _ rfl ⟨g, rfl⟩
          go_wp2_with (at_builtin; refine wp_append_byte rfl _ _ rfl w.heap.size ?vv out ?hs1 ?own1 _ 0 1 [UInt8.ofNat (16 * half + d).toNat] 1 rfl rfl ?hc1 ?hl1 ?hb1 ?_)
          case hs1 => rfl
          case own1 => exact (hown2.grown_ g).alloc_ _
          case hc1 =>
            intro j y hj
            match j, hj with
            | 0, hj =>
              simp only [List.getElem?_cons_zero, Option.some.injEq] at hj
              subst hj
              have e8 : ((UInt8.ofNat (16 * half + d).toNat).toNat : Int) = 16 * half + d := by
                rw [UInt8.toNat_ofNat', Nat.mod_eq_of_lt (by omega)]; omega
              simp only [bv, e8]
              simp [go_sem]
          case hl1 => simp; omega
          case hb1 => exact Nat.le_trans hbw2.size (Nat.le_trans (grown_below _ g).size (by simp))
          intro v2 w2 a2
          have hit4 : w2.heap[w.heap.size + 1]? = some (.stringIter s (pos + 1)) := a2.iter _ _ _ ((Below.heap_alloc _ _ _ (Nat.lt_of_lt_of_le hsz2 (grown_below _ g).size)).trans ((g.below.block _ hsz2).trans hit2))
          have HIT4 := Lib.hid hit4; clear hit4
          have hown3 := a2.own
          have hbw3 : Below w.heap.size w w2 := Below.trans ((below_trans hbw2 (grown_below _ g)).alloc (Nat.le_trans hbw2.size (grown_below _ g).size) _) a2.below
          clear a2
          go_wp2
          go_roundw
          case rel =>
            refine ⟨pos + 1, -1, _, rfl, hown3, .inl ⟨rfl, by omega, ?_⟩, by simp; omega, by omega, HIT4.out, hbw3⟩
            have hx1 := HX1.out
            have e1 : s.data.toList.take (pos + 1) = s.data.toList.take (pos - 1) ++ [x, s.data.toList[pos]] := by
              have h1 : s.data.toList.take pos = s.data.toList.take (pos - 1) ++ [x] := by
                have := List.take_add_one (l := s.data.toList) (i := pos - 1)
                rw [hx1, show pos - 1 + 1 = pos by omega] at this
                exact this
              rw [List.take_succ_eq_append_getElem hpl, h1]; simp
            rw [e1, unhexL_snoc _ _ _ _ HU.out (by have := HX2.out; omega) (by have := HX.out; omega), HX2.out, HX.out]
          case measure => rw [iterPos_of HIT4.out, iterPos_of hit]; omega
    · have hnx : ∀ ty, (Instr.next (.pointer (some ⟨w.heap.size + 1, 0, none⟩)) true ty).run Tryd.prog wr = _ := fun ty => Lib.run_next_end_at wr (w.heap.size + 1) s pos ty hit hp2
      have hpe : pos = s.data.toList.length := by rw [← Lib.size_eq]; omega
      rcases HST.out with ⟨rfl, hev, hun⟩ | ⟨hh0, hev, x, hx1, hx2, hun⟩
      · rw [List.take_of_length_le (by omega)] at hun
        have HU := Lib.hid hun; clear hun hpe
        go_wp2
        go_ret2
        exact ⟨_, by rw [HU.out]; rfl, by rw [HU.out]; exact hown, hbw⟩
      · have hbad : unhexL s.data.toList = none := unhexL_odd _ (by omega)
        have HB := Lib.hid hbad; clear hbad hpe hx1 hun
        go_wp2
        go_ret2
        exact ⟨_, by rw [HB.out]; rfl, by rw [HB.out]; exact OwnR.nil _ _, hbw⟩
end Go.Proofs.YtgjdgafoidppaaaDoor
namespace Go.Proofs.YtgjdgafoidppaaaDoor
open Go.RowKit
set_option linter.unusedVariables false
set_option linter.unusedSimpArgs false
set_option linter.unnecessarySimpa false
/-- What holds behind so many bytes. -/
def DSt (l : List UInt8) (most : Nat) (pos : Nat) (z : Int) (g : Bool) : Prop :=
  if g then headB l = true ∧ (l.take pos).all digB = true ∧ z = dval (l.take pos) ∧ z ≤ most else decOk l most = false
theorem head_cases (s : ByteArray) : (s = ⟨#[]⟩) ∨ (s = ⟨#[48]⟩) ∨ (∃ h : 0 < s.size, (s.toList == [48]) = false ∧ s.toList.isEmpty = false ∧ headB s.data.toList = (s[0] != 48)) := by
  obtain ⟨⟨l⟩⟩ := s
  match l with
  | [] => exact .inl rfl
  | [x] =>
    by_cases h : x = 48
    · subst h; exact .inr (.inl rfl)
    · refine .inr (.inr ⟨by simp [ByteArray.size], by simp [Lib.toList_data, h], by simp [Lib.toList_data], ?_⟩)
      show (x != 48 || true) = (x != 48)
      simp [h]
  | x :: y :: r =>
    refine .inr (.inr ⟨by simp [ByteArray.size], by simp [Lib.toList_data], by simp [Lib.toList_data], ?_⟩)
    show (x != 48 || false) = (x != 48)
    simp
theorem dst_start (l : List UInt8) (most : Nat) : DSt l most 0 0 (headB l) := by
  unfold DSt
  cases h : headB l with
  | true => simp [dval]
  | false => simp [decOk, h]
theorem dst_false {l : List UInt8} {most pos : Nat} {z : Int} (h : DSt l most pos z false) (pos' : Nat) (z' : Int) : DSt l most pos' z' false := h
theorem take_at (l : List UInt8) (pos : Nat) (h : pos < l.length) : l.take (pos + 1) = l.take pos ++ [l[pos]] := List.take_succ_eq_append_getElem h
/-- A byte that is no digit. -/
theorem dst_bad {l : List UInt8} {most pos : Nat} (h : pos < l.length) (hb : digB l[pos] = false) (pos' : Nat) (z' : Int) : DSt l most pos' z' false := by
  unfold DSt
  have h1 : l.all digB = false := by
    rw [List.all_eq_false]
    exact ⟨l[pos], List.getElem_mem h, by simp [hb]⟩
  simp [decOk, h1]
/-- A digit that is too much. -/
theorem dst_over {l : List UInt8} {most pos : Nat} (h : pos < l.length) (hb : most < dval (l.take (pos + 1))) (pos' : Nat) (z' : Int) : DSt l most pos' z' false := by
  unfold DSt
  have h1 : most < dval l := by
    have h2 := dval_app (l.take (pos + 1)) (l.drop (pos + 1))
    rw [List.take_append_drop] at h2
    omega
  have h3 : decide (dval l ≤ most) = false := by simp; omega
  simp [decOk, h3]
theorem dst_next {l : List UInt8} {most pos : Nat} {z : Int} (hd : DSt l most pos z true) (h : pos < l.length) (hb : digB l[pos] = true) (hm : 10 * z + ((l[pos].toNat : Int) - 48) ≤ most) : DSt l most (pos + 1) (z * 10 + ((l[pos].toNat : Int) - 48)) true := by
  unfold DSt at hd ⊢
  simp only [if_true] at hd ⊢
  obtain ⟨h1, h2, h3, h4⟩ := hd
  have h5 : 48 ≤ l[pos].toNat := by simp [digB] at hb; omega
  rw [take_at l pos h]
  refine ⟨h1, ?_, ?_, by omega⟩
  · rw [List.all_append, h2]; simp [hb]
  · rw [dval_snoc, h3]; omega
theorem dst_val {l : List UInt8} {most pos : Nat} {z : Int} (hd : DSt l most pos z true) (h : pos < l.length) (hb : digB l[pos] = true) : (dval (l.take (pos + 1)) : Int) = 10 * z + ((l[pos].toNat : Int) - 48) := by
  unfold DSt at hd
  simp only [if_true] at hd
  have h5 : 48 ≤ l[pos].toNat := by simp [digB] at hb; omega
  rw [take_at l pos h, dval_snoc, hd.2.2.1]; omega
theorem dst_end {l : List UInt8} {most pos : Nat} {z : Int} {g : Bool} (hd : DSt l most pos z g) (h : l.length ≤ pos) : decOk l most = g ∧ (g = true → z = decV l most) := by
  unfold DSt at hd
  rw [List.take_of_length_le h] at hd
  cases g with
  | false => exact ⟨by simpa using hd, by simp⟩
  | true =>
    simp only [if_true] at hd
    obtain ⟨h1, h2, h3, h4⟩ := hd
    have e : decOk l most = true := by simp [decOk, h1, h2]; omega
    exact ⟨e, fun _ => by rw [decV, if_pos e, h3]⟩
theorem decV_bad {l : List UInt8} {most : Nat} (h : decOk l most = false) : decV l most = 0 := by simp [decV, h]
theorem u64_in (x : Int) : 0 ≤ IntKind.u64.wrap x ∧ IntKind.u64.wrap x ≤ 18446744073709551615 := by
  have e : IntKind.u64.wrap x = x % 18446744073709551616 := by simp [IntKind.wrap, IntKind.signed, IntKind.bits]
  rw [e]; omega
theorem u64_wrap (x : Int) : IntKind.u64.wrap x = x % 18446744073709551616 := by simp [IntKind.wrap, IntKind.signed, IntKind.bits]
def LR (s : ByteArray) (most : Nat) (w : World) (n good : Value) (wr : World) : Prop :=
  ∃ (pos : Nat) (z : Int) (g : Bool), n = .int .u64 z ∧ 0 ≤ z ∧ z ≤ 18446744073709551615 ∧ good = .bool g ∧ DSt s.data.toList most pos z g ∧ wr.heap[w.heap.size]? = some (.stringIter s pos) ∧ Below w.heap.size w wr
theorem lr_start (s : ByteArray) (most : Nat) (w : World) (n : Nat) (g : Bool) (h : g = headB s.data.toList) : LR s most w (.int .u64 0) (.bool g) ((w.drewN n).alloc (.stringIter s 0)) := by
  subst h
  have hb : Below w.heap.size w (w.drewN n) := ⟨rfl, rfl, rfl, Nat.le_refl _, fun _ _ => rfl⟩
  exact ⟨0, 0, _, rfl, by omega, by omega, rfl, dst_start _ _, World.iter_heap (w.drewN n) s 0, hb.alloc (Nat.le_refl _) _⟩
theorem lr_step {s : ByteArray} {most : Nat} {w wr : World} {pos k S : Nat} {z' : Int} {g' : Bool} (hit : wr.heap[w.heap.size]? = some (.stringIter s pos)) (hbw : Below w.heap.size w wr) (hk : 1 ≤ k) (hp : pos < S)
    (hd : DSt s.data.toList most (pos + k) z' g') (z0 : 0 ≤ z') (z1 : z' ≤ 18446744073709551615) :
    LR s most w (.int .u64 z') (.bool g') (wr.iterAt w.heap.size s (pos + k)) ∧ S - (wr.iterAt w.heap.size s (pos + k)).iterPos w.heap.size < S - wr.iterPos w.heap.size := by
  have hit2 := Lib.iterAt_heap wr w.heap.size s pos (pos + k) hit
  refine ⟨⟨pos + k, z', g', rfl, z0, z1, rfl, hd, hit2, Lib.below_iterAt hbw (Nat.le_refl _) s (pos + k)⟩, ?_⟩
  rw [iterPos_of hit2, iterPos_of hit]; omega
theorem width_pos (s : ByteArray) (pos : Nat) (h : pos < s.size) : 1 ≤ (Utf8.decode s pos).2 := Lib.decode_width_pos s pos h
theorem rune_digit (s : ByteArray) (pos : Nat) (h : pos < s.data.toList.length) : (48 ≤ (Utf8.decode s pos).1 ∧ (Utf8.decode s pos).1 ≤ 57 ∧ (Utf8.decode s pos).2 = 1 ∧ (s.data.toList[pos]).toNat = (Utf8.decode s pos).1 ∧ digB s.data.toList[pos] = true) ∨ ((Utf8.decode s pos).1 < 48 ∧ digB s.data.toList[pos] = false) ∨ (57 < (Utf8.decode s pos).1 ∧ digB s.data.toList[pos] = false) := by
  have hs : pos < s.size := by rw [Lib.size_eq]; exact h
  have e : s.data.toList[pos] = s[pos] := rfl
  by_cases ha : (s[pos]'hs).toNat < 128
  · rw [decode_ascii s pos hs ha, e]
    by_cases h1 : 48 ≤ s[pos].toNat
    · by_cases h2 : s[pos].toNat ≤ 57
      · exact .inl ⟨h1, h2, rfl, rfl, by simp [digB, h1, h2]⟩
      · exact .inr (.inr ⟨by omega, by simp [digB]; omega⟩)
    · exact .inr (.inl ⟨by omega, by simp [digB]; omega⟩)
  · have h1 := (decode_high s pos hs (by omega)).1
    rw [e]
    exact .inr (.inr ⟨by omega, by simp [digB]; omega⟩)
theorem ret_dec {a b : Int} {c d : Bool} (h : a = b) (k : c = d) : Ending.returned (.tuple #[.int .u64 a, .bool c]) = .returned (.tuple #[.int .u64 b, .bool d]) := by rw [h, k]
set_option maxRecDepth 100000 in
set_option maxHeartbeats 4000000 in
theorem dec_any (s : ByteArray) (most : Nat) (hm : most ≤ 18446744073709551615) (hs : s.size ≤ 1000000000) (w : World) :
    Calls Tryd.prog 74 #[.string s, .int .u64 most] w fun e w' => e = .returned (.tuple #[.int .u64 (decV s.data.toList most), .bool (decOk s.data.toList most)]) ∧ Gr w w' := by
  have hst := Lib.hid (lr_start s most w)
  rcases head_cases s with rfl | rfl | ⟨h0, h1, h2, h3⟩
  · go_enter Tryd.func74, Tryd.ntmps74
    go_wp2
    go_quiet (fail)
    go_wp2
    go_loopw [6, 7] (fun n good wr => LR ⟨#[]⟩ most w n good wr) (fun _ _ wr => 0 - wr.iterPos w.heap.size)
    case atStart => exact hst.out _ _ rfl
    case round =>
      obtain ⟨pos, z, g, rfl, z0, z1, rfl, hd, hit, hbw⟩ := hrel
      have HD := Lib.hid hd; clear hd
      by_cases hp2 : pos < (⟨#[]⟩ : ByteArray).size
      · have hnx : ∀ ty, (Instr.next (.pointer (some ⟨w.heap.size, 0, none⟩)) true ty).run Tryd.prog wr = _ := fun ty => Lib.run_next_any_at wr w.heap.size (⟨#[]⟩ : ByteArray) pos ty hit hp2
        have hit2 := Lib.iterAt_heap wr w.heap.size (⟨#[]⟩ : ByteArray) pos (pos + (Utf8.decode (⟨#[]⟩ : ByteArray) pos).2) hit
        have hbw2 := Lib.below_iterAt hbw (k := w.heap.size) (Nat.le_refl _) (⟨#[]⟩ : ByteArray) (pos + (Utf8.decode (⟨#[]⟩ : ByteArray) pos).2)
        have hd1 := decode_le (⟨#[]⟩ : ByteArray) pos
        have hk1 := Lib.hid (width_pos (⟨#[]⟩ : ByteArray) pos hp2)
        have hrd := Lib.hid (rune_digit (⟨#[]⟩ : ByteArray) pos (by rw [← Lib.size_eq]; exact hp2))
        generalize hr : (Utf8.decode (⟨#[]⟩ : ByteArray) pos).1 = r at *
        generalize hk : (Utf8.decode (⟨#[]⟩ : ByteArray) pos).2 = k at *
        clear hr hk
        cases g
        · go_wp2
          exact lr_step hit hbw hk1.out (by exact hp2) (dst_false HD.out _ _) (u64_in _).1 (u64_in _).2
        · rcases hrd.out with ⟨d1, d2, rfl, d4, d5⟩ | ⟨d1, d2⟩ | ⟨d1, d2⟩
          · have hs1 : IntKind.i32.wrap ((r : Int) - 48) = (r : Int) - 48 := by simp [IntKind.wrap, IntKind.signed, IntKind.bits]; omega
            have hs2 : IntKind.u64.wrap ((r : Int) - 48) = (r : Int) - 48 := by rw [u64_wrap]; omega
            by_cases hq : z ≤ (most : Int) / 10
            · have hs3 : IntKind.u64.wrap (z * 10) = z * 10 := by rw [u64_wrap]; omega
              by_cases hq2 : (r : Int) - 48 ≤ most - z * 10
              · have hs4 : IntKind.u64.wrap (z * 10 + ((r : Int) - 48)) = z * 10 + ((r : Int) - 48) := by rw [u64_wrap]; omega
                have HE := Lib.hid d4; clear d4
                have HE5 := Lib.hid d5; clear d5
                go_wp2
                all_goals
                  have e : decide ((r : Int) - 48 ≤ (most : Int) - min (z * 10) most) = true := by rw [decide_eq_true_eq, Int.min_eq_left (by omega)]; omega
                  rw [e]
                  exact lr_step hit hbw (Nat.le_refl 1) (by exact hp2) (by
                    have h5 := dst_next HD.out (by rw [← Lib.size_eq]; exact hp2) HE5.out (by rw [HE.out]; omega)
                    rw [HE.out] at h5
                    exact h5) (by omega) (by omega)
              · have HE := Lib.hid d4; clear d4
                have HE5 := Lib.hid d5; clear d5
                go_wp2
                all_goals
                  have e : decide ((r : Int) - 48 ≤ (most : Int) - min (z * 10) most) = false := by rw [decide_eq_false_iff_not, Int.min_eq_left (by omega)]; omega
                  rw [e]
                  exact lr_step hit hbw (Nat.le_refl 1) (by exact hp2) (dst_over (by rw [← Lib.size_eq]; exact hp2) (by
                    have h5 := dst_val HD.out (by rw [← Lib.size_eq]; exact hp2) HE5.out
                    rw [HE.out] at h5
                    omega) _ _) (u64_in _).1 (u64_in _).2
            · have HE := Lib.hid d4; clear d4
              have HE5 := Lib.hid d5; clear d5
              go_wp2
              all_goals
                exact lr_step hit hbw (Nat.le_refl 1) (by exact hp2) (dst_over (by rw [← Lib.size_eq]; exact hp2) (by
                  have h5 := dst_val HD.out (by rw [← Lib.size_eq]; exact hp2) HE5.out
                  rw [HE.out] at h5
                  omega) _ _) (u64_in _).1 (u64_in _).2
          · go_wp2
            all_goals exact lr_step hit hbw hk1.out (by exact hp2) (dst_bad (by rw [← Lib.size_eq]; exact hp2) d2 _ _) (u64_in _).1 (u64_in _).2
          · go_wp2
            all_goals exact lr_step hit hbw hk1.out (by exact hp2) (dst_bad (by rw [← Lib.size_eq]; exact hp2) d2 _ _) (u64_in _).1 (u64_in _).2
      · have hnx : ∀ ty, (Instr.next (.pointer (some ⟨w.heap.size, 0, none⟩)) true ty).run Tryd.prog wr = _ := fun ty => Lib.run_next_end_at wr w.heap.size (⟨#[]⟩ : ByteArray) pos ty hit hp2
        have hfin := dst_end HD.out (by rw [← Lib.size_eq]; omega)
        have HF := Lib.hid hfin; clear hfin
        cases g
        · go_wp2
          go_ret2
          have h1 : decOk (⟨#[]⟩ : ByteArray).data.toList most = false := HF.out.1
          exact ⟨ret_dec (by rw [decV_bad h1]; rfl) h1.symm, Gr.of hbw⟩
        · go_wp2
          go_ret2
          have h1 : decOk (⟨#[]⟩ : ByteArray).data.toList most = true := HF.out.1
          exact ⟨ret_dec (HF.out.2 (by trivial)) h1.symm, Gr.of hbw⟩
  · go_enter Tryd.func74, Tryd.ntmps74
    go_wp2
    go_quiet (fail)
    go_wp2
    go_loopw [6, 7] (fun n good wr => LR ⟨#[48]⟩ most w n good wr) (fun _ _ wr => 1 - wr.iterPos w.heap.size)
    case atStart => exact hst.out _ _ rfl
    case round =>
      obtain ⟨pos, z, g, rfl, z0, z1, rfl, hd, hit, hbw⟩ := hrel
      have HD := Lib.hid hd; clear hd
      by_cases hp2 : pos < (⟨#[48]⟩ : ByteArray).size
      · have hnx : ∀ ty, (Instr.next (.pointer (some ⟨w.heap.size, 0, none⟩)) true ty).run Tryd.prog wr = _ := fun ty => Lib.run_next_any_at wr w.heap.size (⟨#[48]⟩ : ByteArray) pos ty hit hp2
        have hit2 := Lib.iterAt_heap wr w.heap.size (⟨#[48]⟩ : ByteArray) pos (pos + (Utf8.decode (⟨#[48]⟩ : ByteArray) pos).2) hit
        have hbw2 := Lib.below_iterAt hbw (k := w.heap.size) (Nat.le_refl _) (⟨#[48]⟩ : ByteArray) (pos + (Utf8.decode (⟨#[48]⟩ : ByteArray) pos).2)
        have hd1 := decode_le (⟨#[48]⟩ : ByteArray) pos
        have hk1 := Lib.hid (width_pos (⟨#[48]⟩ : ByteArray) pos hp2)
        have hrd := Lib.hid (rune_digit (⟨#[48]⟩ : ByteArray) pos (by rw [← Lib.size_eq]; exact hp2))
        generalize hr : (Utf8.decode (⟨#[48]⟩ : ByteArray) pos).1 = r at *
        generalize hk : (Utf8.decode (⟨#[48]⟩ : ByteArray) pos).2 = k at *
        clear hr hk
        cases g
        · go_wp2
          exact lr_step hit hbw hk1.out (by exact hp2) (dst_false HD.out _ _) (u64_in _).1 (u64_in _).2
        · rcases hrd.out with ⟨d1, d2, rfl, d4, d5⟩ | ⟨d1, d2⟩ | ⟨d1, d2⟩
          · have hs1 : IntKind.i32.wrap ((r : Int) - 48) = (r : Int) - 48 := by simp [IntKind.wrap, IntKind.signed, IntKind.bits]; omega
            have hs2 : IntKind.u64.wrap ((r : Int) - 48) = (r : Int) - 48 := by rw [u64_wrap]; omega
            by_cases hq : z ≤ (most : Int) / 10
            · have hs3 : IntKind.u64.wrap (z * 10) = z * 10 := by rw [u64_wrap]; omega
              by_cases hq2 : (r : Int) - 48 ≤ most - z * 10
              · have hs4 : IntKind.u64.wrap (z * 10 + ((r : Int) - 48)) = z * 10 + ((r : Int) - 48) := by rw [u64_wrap]; omega
                have HE := Lib.hid d4; clear d4
                have HE5 := Lib.hid d5; clear d5
                go_wp2
                all_goals
                  have e : decide ((r : Int) - 48 ≤ (most : Int) - min (z * 10) most) = true := by rw [decide_eq_true_eq, Int.min_eq_left (by omega)]; omega
                  rw [e]
                  exact lr_step hit hbw (Nat.le_refl 1) (by exact hp2) (by
                    have h5 := dst_next HD.out (by rw [← Lib.size_eq]; exact hp2) HE5.out (by rw [HE.out]; omega)
                    rw [HE.out] at h5
                    exact h5) (by omega) (by omega)
              · have HE := Lib.hid d4; clear d4
                have HE5 := Lib.hid d5; clear d5
                go_wp2
                all_goals
                  have e : decide ((r : Int) - 48 ≤ (most : Int) - min (z * 10) most) = false := by rw [decide_eq_false_iff_not, Int.min_eq_left (by omega)]; omega
                  rw [e]
                  exact lr_step hit hbw (Nat.le_refl 1) (by exact hp2) (dst_over (by rw [← Lib.size_eq]; exact hp2) (by
                    have h5 := dst_val HD.out (by rw [← Lib.size_eq]; exact hp2) HE5.out
                    rw [HE.out] at h5
                    omega) _ _) (u64_in _).1 (u64_in _).2
            · have HE := Lib.hid d4; clear d4
              have HE5 := Lib.hid d5; clear d5
              go_wp2
              all_goals
                exact lr_step hit hbw (Nat.le_refl 1) (by exact hp2) (dst_over (by rw [← Lib.size_eq]; exact hp2) (by
                  have h5 := dst_val HD.out (by rw [← Lib.size_eq]; exact hp2) HE5.out
                  rw [HE.out] at h5
                  omega) _ _) (u64_in _).1 (u64_in _).2
          · go_wp2
            all_goals exact lr_step hit hbw hk1.out (by exact hp2) (dst_bad (by rw [← Lib.size_eq]; exact hp2) d2 _ _) (u64_in _).1 (u64_in _).2
          · go_wp2
            all_goals exact lr_step hit hbw hk1.out (by exact hp2) (dst_bad (by rw [← Lib.size_eq]; exact hp2) d2 _ _) (u64_in _).1 (u64_in _).2
      · have hnx : ∀ ty, (Instr.next (.pointer (some ⟨w.heap.size, 0, none⟩)) true ty).run Tryd.prog wr = _ := fun ty => Lib.run_next_end_at wr w.heap.size (⟨#[48]⟩ : ByteArray) pos ty hit hp2
        have hfin := dst_end HD.out (by rw [← Lib.size_eq]; omega)
        have HF := Lib.hid hfin; clear hfin
        cases g
        · go_wp2
          go_ret2
          have h1 : decOk (⟨#[48]⟩ : ByteArray).data.toList most = false := HF.out.1
          exact ⟨ret_dec (by rw [decV_bad h1]; rfl) h1.symm, Gr.of hbw⟩
        · go_wp2
          go_ret2
          have h1 : decOk (⟨#[48]⟩ : ByteArray).data.toList most = true := HF.out.1
          exact ⟨ret_dec (HF.out.2 (by trivial)) h1.symm, Gr.of hbw⟩
  · have H3 := Lib.hid h3; clear h3
    go_enter Tryd.func74, Tryd.ntmps74
    go_wp2
    go_quiet (fail)
    go_wp2
    go_loopw [6, 7] (fun n good wr => LR s most w n good wr) (fun _ _ wr => s.size - wr.iterPos w.heap.size)
    case atStart => exact hst.out _ _ (by rw [H3.out, Bool.eq_iff_iff]; simp only [bne_iff_ne, ne_eq]; exact not_congr ⟨fun h => UInt8.toNat_inj.1 (by simpa using (by omega : s[0].toNat = 48)), fun h => by rw [h]; rfl⟩)
    case round =>
      obtain ⟨pos, z, g, rfl, z0, z1, rfl, hd, hit, hbw⟩ := hrel
      have HD := Lib.hid hd; clear hd
      by_cases hp2 : pos < s.size
      · have hnx : ∀ ty, (Instr.next (.pointer (some ⟨w.heap.size, 0, none⟩)) true ty).run Tryd.prog wr = _ := fun ty => Lib.run_next_any_at wr w.heap.size s pos ty hit hp2
        have hit2 := Lib.iterAt_heap wr w.heap.size s pos (pos + (Utf8.decode s pos).2) hit
        have hbw2 := Lib.below_iterAt hbw (k := w.heap.size) (Nat.le_refl _) s (pos + (Utf8.decode s pos).2)
        have hd1 := decode_le s pos
        have hk1 := Lib.hid (width_pos s pos hp2)
        have hrd := Lib.hid (rune_digit s pos (by rw [← Lib.size_eq]; exact hp2))
        generalize hr : (Utf8.decode s pos).1 = r at *
        generalize hk : (Utf8.decode s pos).2 = k at *
        clear hr hk
        cases g
        · go_wp2
          exact lr_step hit hbw hk1.out (by exact hp2) (dst_false HD.out _ _) (u64_in _).1 (u64_in _).2
        · rcases hrd.out with ⟨d1, d2, rfl, d4, d5⟩ | ⟨d1, d2⟩ | ⟨d1, d2⟩
          · have hs1 : IntKind.i32.wrap ((r : Int) - 48) = (r : Int) - 48 := by simp [IntKind.wrap, IntKind.signed, IntKind.bits]; omega
            have hs2 : IntKind.u64.wrap ((r : Int) - 48) = (r : Int) - 48 := by rw [u64_wrap]; omega
            by_cases hq : z ≤ (most : Int) / 10
            · have hs3 : IntKind.u64.wrap (z * 10) = z * 10 := by rw [u64_wrap]; omega
              by_cases hq2 : (r : Int) - 48 ≤ most - z * 10
              · have hs4 : IntKind.u64.wrap (z * 10 + ((r : Int) - 48)) = z * 10 + ((r : Int) - 48) := by rw [u64_wrap]; omega
                have HE := Lib.hid d4; clear d4
                have HE5 := Lib.hid d5; clear d5
                go_wp2
                all_goals
                  have e : decide ((r : Int) - 48 ≤ (most : Int) - min (z * 10) most) = true := by rw [decide_eq_true_eq, Int.min_eq_left (by omega)]; omega
                  rw [e]
                  exact lr_step hit hbw (Nat.le_refl 1) (by exact hp2) (by
                    have h5 := dst_next HD.out (by rw [← Lib.size_eq]; exact hp2) HE5.out (by rw [HE.out]; omega)
                    rw [HE.out] at h5
                    exact h5) (by omega) (by omega)
              · have HE := Lib.hid d4; clear d4
                have HE5 := Lib.hid d5; clear d5
                go_wp2
                all_goals
                  have e : decide ((r : Int) - 48 ≤ (most : Int) - min (z * 10) most) = false := by rw [decide_eq_false_iff_not, Int.min_eq_left (by omega)]; omega
                  rw [e]
                  exact lr_step hit hbw (Nat.le_refl 1) (by exact hp2) (dst_over (by rw [← Lib.size_eq]; exact hp2) (by
                    have h5 := dst_val HD.out (by rw [← Lib.size_eq]; exact hp2) HE5.out
                    rw [HE.out] at h5
                    omega) _ _) (u64_in _).1 (u64_in _).2
            · have HE := Lib.hid d4; clear d4
              have HE5 := Lib.hid d5; clear d5
              go_wp2
              all_goals
                exact lr_step hit hbw (Nat.le_refl 1) (by exact hp2) (dst_over (by rw [← Lib.size_eq]; exact hp2) (by
                  have h5 := dst_val HD.out (by rw [← Lib.size_eq]; exact hp2) HE5.out
                  rw [HE.out] at h5
                  omega) _ _) (u64_in _).1 (u64_in _).2
          · go_wp2
            all_goals exact lr_step hit hbw hk1.out (by exact hp2) (dst_bad (by rw [← Lib.size_eq]; exact hp2) d2 _ _) (u64_in _).1 (u64_in _).2
          · go_wp2
            all_goals exact lr_step hit hbw hk1.out (by exact hp2) (dst_bad (by rw [← Lib.size_eq]; exact hp2) d2 _ _) (u64_in _).1 (u64_in _).2
      · have hnx : ∀ ty, (Instr.next (.pointer (some ⟨w.heap.size, 0, none⟩)) true ty).run Tryd.prog wr = _ := fun ty => Lib.run_next_end_at wr w.heap.size s pos ty hit hp2
        have hfin := dst_end HD.out (by rw [← Lib.size_eq]; omega)
        have HF := Lib.hid hfin; clear hfin
        cases g
        · go_wp2
          go_ret2
          have h1 : decOk s.data.toList most = false := HF.out.1
          exact ⟨ret_dec (by rw [decV_bad h1]; rfl) h1.symm, Gr.of hbw⟩
        · go_wp2
          go_ret2
          have h1 : decOk s.data.toList most = true := HF.out.1
          exact ⟨ret_dec (HF.out.2 (by trivial)) h1.symm, Gr.of hbw⟩
end Go.Proofs.YtgjdgafoidppaaaDoor
namespace Go.Proofs.YtgjdgafoidppaaaDoor
open Go.RowKit
set_option linter.unusedVariables false
set_option linter.unusedSimpArgs false
set_option linter.unnecessarySimpa false
/-- What a store into block p, and new blocks, leave. -/
structure Wrd (p : Nat) (W W' : World) : Prop where
  g : W.grownBy W' (some p)
theorem Wrd.refl (p : Nat) (W : World) : Wrd p W W := ⟨rfl, rfl, rfl, Nat.le_refl _, fun _ _ _ => rfl⟩
theorem Wrd.trans {p : Nat} {A B C : World} (h : Wrd p A B) (k : Wrd p B C) : Wrd p A C :=
  ⟨k.g.os.trans h.g.os, k.g.tape.trans h.g.tape, k.g.output.trans h.g.output, Nat.le_trans h.g.size k.g.size, fun i hi hne => (k.g.block i (Nat.lt_of_lt_of_le hi h.g.size) hne).trans (h.g.block i hi hne)⟩
theorem Wrd.gr {p : Nat} {W W' : World} (h : Gr W W') : Wrd p W W' := ⟨h.below.os, h.below.tape, h.below.output, h.below.size, fun i hi _ => h.below.block i hi⟩
theorem Wrd.set (p o : Nat) (W : World) (v : Value) : Wrd p W (W.setCell ⟨p, o, none⟩ v) :=
  ⟨rfl, rfl, rfl, by simp [World.setCell], fun i _ hne => Below.heap_setCell W ⟨p, o, none⟩ v i (fun e => hne (by rw [e]))⟩
theorem Wrd.below {p base : Nat} {W W' : World} (h : Wrd p W W') (hb : base ≤ p) (hw : base ≤ W.heap.size) : Below base W W' := ⟨h.g.os, h.g.tape, h.g.output, h.g.size, fun i hi => h.g.block i (Nat.lt_of_lt_of_le hi hw) (fun e => by cases e; omega)⟩
theorem Wrd.old {p : Nat} {W W' : World} (h : Wrd p W W') (b : Nat) [k : Old b W] : Old b W' := ⟨Nat.lt_of_lt_of_le k.lt h.g.size⟩
theorem Wrd.from_ {p : Nat} {W W' : World} (h : Wrd p W W') (a : World) [k : From a W] : From a W' := ⟨Nat.le_trans k.le h.g.size⟩
theorem Wrd.tb {p : Nat} {W W' : World} (h : Wrd p W W') [hf : Far p] [k : Tb W] : Tb W' := k.keep h.g.size (fun b hb => h.g.block b (Nat.lt_of_lt_of_le hb k.size) (fun e => by cases e; have := hf.le; omega))
theorem Wrd.ml {p : Nat} {W W' : World} (h : Wrd p W W') [hf : Far p] [k : Ml W] : Ml W' := k.keep (h.g.block _ k.lt (fun e => by have := hf.le; simp at e; omega))
theorem Wrd.cell {p b o : Nat} {W W' : World} (h : Wrd p W W') (hne : b ≠ p) {v : Value} (hc : W.cell? ⟨b, o, none⟩ = some v) : W'.cell? ⟨b, o, none⟩ = some v := by
  have hb := (old_of_cell hc).lt
  simp only [World.cell?] at hc ⊢
  rw [h.g.block b hb (fun e => hne (by cases e; rfl))]; exact hc
theorem Row.wrd {α : Type} {enc : α → Value} {p : Nat} {W W' : World} {A : Option Addr} {l : List α} (hr : Row enc W A l) (h : Wrd p W W') (hne : ∀ a, A = some a → a.block ≠ p) : Row enc W' A l :=
  ⟨fun h0 => by
    obtain ⟨b, o, rfl, hb, hc⟩ := hr.at_ h0
    exact ⟨b, o, rfl, Nat.lt_of_lt_of_le hb h.g.size, fun j x hx => h.cell (hne _ rfl) (hc j x hx)⟩⟩
/-- Block p holds the words that are left, and whether one was bad. -/
structure WS (p : Nat) (W : World) (ws : List ByteArray) (bad : Bool) : Prop where
  f0 : W.frozen? ⟨p, 0, none⟩ = false
  f1 : W.frozen? ⟨p, 1, none⟩ = false
  c1 : W.cell? ⟨p, 1, none⟩ = some (.bool bad)
  c0 : ∃ A c, W.cell? ⟨p, 0, none⟩ = some (.slice A ws.length c) ∧ ws.length ≤ c ∧ (∀ a, A = some a → a.block ≠ p) ∧ Row Value.string W A ws
  few : ws.length ≤ 1000000
  short : ∀ x ∈ ws, x.size ≤ 1000000000
theorem Row.set {p o : Nat} {W : World} {A : Option Addr} {l : List ByteArray} (h : Row Value.string W A l) (v : Value) (hne : ∀ a, A = some a → a.block ≠ p) : Row Value.string (W.setCell ⟨p, o, none⟩ v) A l := h.wrd (Wrd.set p o W v) hne
theorem WS.bad {p : Nat} {W : World} {ws : List ByteArray} {bad : Bool} (h : WS p W ws bad) (b : Bool) : WS p (W.setCell ⟨p, 1, none⟩ (.bool b)) ws b := by
  obtain ⟨f0, f1, c1, ⟨A, c, c0, hc, hne, hr⟩, few, short⟩ := h
  refine ⟨by rw [World.frozen?_setCell]; exact f0, by rw [World.frozen?_setCell]; exact f1, World.cell?_setCell_same _ _ _ c1, ⟨A, c, ?_, hc, hne, hr.set _ hne⟩, few, short⟩
  rw [World.cell?_setCell_other _ _ _ _ (by intro e; cases e)]; exact c0
theorem WS.drop {p : Nat} {W : World} {x : ByteArray} {ws : List ByteArray} {bad : Bool} (h : WS p W (x :: ws) bad) (A : Option Addr) (c : Nat) (hc : ws.length ≤ c) (hne : ∀ a, A = some a → a.block ≠ p) (hr : Row Value.string W A ws) : WS p (W.setCell ⟨p, 0, none⟩ (.slice A ws.length c)) ws bad := by
  obtain ⟨f0, f1, c1, ⟨A0, c', c0, _, _, _⟩, few, short⟩ := h
  refine ⟨by rw [World.frozen?_setCell]; exact f0, by rw [World.frozen?_setCell]; exact f1, ?_, ⟨A, c, World.cell?_setCell_same _ _ _ c0, hc, hne, hr.set _ hne⟩, Nat.le_of_succ_le few, fun y hy => short y (List.mem_cons_of_mem _ hy)⟩
  rw [World.cell?_setCell_other _ _ _ _ (by intro e; cases e)]; exact c1
theorem WS.gr {p : Nat} {W : World} {ws : List ByteArray} {bad : Bool} (h : WS p W ws bad) (g : Growth W) : WS p (grown W g) ws bad := by
  obtain ⟨f0, f1, c1, ⟨A, c, c0, hc, hne, hr⟩, few, short⟩ := h
  haveI := old_of_cell c1
  exact ⟨by rw [grown_frozen]; exact f0, by rw [grown_frozen]; exact f1, by rw [grown_cells]; exact c1, ⟨A, c, by rw [grown_cells]; exact c0, hc, hne, hr.gr (Gr.of (grown_below W g))⟩, few, short⟩
theorem WS.old {p : Nat} {W : World} {ws : List ByteArray} {bad : Bool} (h : WS p W ws bad) : Old p W := old_of_cell h.c1
/-- The first word; the empty one, where there is none. -/
def hdW : List ByteArray → ByteArray
  | [] => ⟨#[]⟩
  | x :: _ => x
theorem word_any (p : Nat) (W : World) (ws : List ByteArray) (bad : Bool) (h : WS p W ws bad) :
    Calls Tryd.prog 28 #[.pointer (some ⟨p, 0, none⟩)] W fun e W' => e = .returned (.string (hdW ws)) ∧ WS p W' ws.tail (bad || ws.isEmpty) ∧ Wrd p W W' := by
  have H := Lib.hid h
  obtain ⟨f0, f1, c1, ⟨A, c, c0, hc, hne, hr⟩, few, short⟩ := h
  cases ws with
  | nil =>
    go_enter Tryd.func28, Tryd.ntmps28
    go_wp2
    go_ret
    exact ⟨rfl, by simpa using H.out.bad true, Wrd.set _ _ _ _⟩
  | cons x r =>
    obtain ⟨b, o, rfl, hb, hx⟩ := hr.at_ (by simp)
    have hx0 : W.cell? ⟨b, o, none⟩ = some (.string x) := hx 0 x rfl
    have HX := Lib.hid hx; clear hx
    have HR : ∀ o', o' = o + 1 ∨ r = [] → Row Value.string W (some ⟨b, o', none⟩) r := fun o' ho => ⟨fun h0 => ⟨b, o', rfl, hb, fun j y hj => by
      rcases ho with rfl | e
      · have := HX.out (j + 1) y hj
        rwa [show o + (j + 1) = o + 1 + j by omega] at this
      · exact absurd e h0⟩⟩
    have HRH := Lib.hid HR; clear HR
    have hcl : r.length + 1 ≤ c := hc
    have hbp : b ≠ p := hne _ rfl
    have HNE := Lib.hid hbp; clear hne hbp
    go_enter Tryd.func28, Tryd.ntmps28
    go_wp2
    all_goals go_ret
    all_goals refine ⟨rfl, ?_, Wrd.set _ _ _ _⟩
    all_goals first
      | exact H.out.drop _ _ (by omega) (fun a e => by cases e; exact HNE.out) (HRH.out _ (.inl rfl))
      | exact H.out.drop _ _ (by omega) (fun a e => by cases e; exact HNE.out) (HRH.out _ (.inr (List.eq_nil_of_length_eq_zero (by omega))))
theorem headD_short {ws : List ByteArray} (h : ∀ x ∈ ws, x.size ≤ 1000000000) : (hdW ws).size ≤ 1000000000 := by
  cases ws with
  | nil => exact Nat.zero_le _
  | cons x r => exact h x (by simp)
theorem number_any (p : Nat) (most : Nat) (hm : most ≤ 18446744073709551615) (W : World) (ws : List ByteArray) (bad : Bool) (h : WS p W ws bad) :
    Calls Tryd.prog 55 #[.pointer (some ⟨p, 0, none⟩), .int .u64 most] W fun e W' => e = .returned (.int .u64 (decV (hdW ws).data.toList most)) ∧ WS p W' ws.tail (bad || !decOk (hdW ws).data.toList most) ∧ Wrd p W W' := by
  have H := Lib.hid h
  have HD := Lib.hid (dec_any (hdW ws) most hm (headD_short h.short))
  clear h
  go_enter Tryd.func55, Tryd.ntmps55
  go_wp2_with ((go_at_call 28; ((with_reducible refine (word_any p _ ws bad H.out).mono ?_))))
  rintro _ W1 ⟨rfl, h1, r1⟩
  have c1 := h1.c1
  have f1 := h1.f1
  haveI := h1.old
  have H1 := Lib.hid h1; clear h1
  have R1 := Lib.hid r1; clear r1
  rcases Bool.eq_false_or_eq_true (bad || ws.isEmpty) with hb | hb
  · rw [hb] at c1
    have HB := Lib.hid hb; clear hb
    go_wp2_with ((go_at_call 74; ((with_reducible refine (HD.out _).mono ?_); rintro _ _ ⟨rfl, g, rfl⟩)))
    go_ret
    have hB : (bad || !decOk (hdW ws).data.toList most) = true := by
      have := HB.out
      cases bad with
      | true => rfl
      | false => simp at this; subst this; rfl
    exact ⟨rfl, by rw [hB]; exact (H1.out.gr g).bad true, (R1.out.trans (Wrd.gr (Gr.of (grown_below W1 g)))).trans (Wrd.set _ _ _ _)⟩
  · rw [hb] at c1
    have HB := Lib.hid hb; clear hb
    go_wp2_with ((go_at_call 74; ((with_reducible refine (HD.out _).mono ?_); rintro _ _ ⟨rfl, g, rfl⟩)))
    go_ret
    have hB : (bad || !decOk (hdW ws).data.toList most) = !decOk (hdW ws).data.toList most := by
      have := HB.out
      cases bad with
      | true => cases this
      | false => rfl
    exact ⟨rfl, by rw [hB]; exact (H1.out.gr g).bad _, (R1.out.trans (Wrd.gr (Gr.of (grown_below W1 g)))).trans (Wrd.set _ _ _ _)⟩
theorem small_any (p : Nat) (most : Nat) (hm : most ≤ 9223372036854775807) (W : World) (ws : List ByteArray) (bad : Bool) (h : WS p W ws bad) :
    Calls Tryd.prog 29 #[.pointer (some ⟨p, 0, none⟩), .int .i64 most] W fun e W' => e = .returned (.int .i64 (decV (hdW ws).data.toList most)) ∧ WS p W' ws.tail (bad || !decOk (hdW ws).data.toList most) ∧ Wrd p W W' := by
  have H := Lib.hid h; clear h
  have hv := decV_le (hdW ws).data.toList most
  have hw : IntKind.i64.wrap (decV (hdW ws).data.toList most : Int) = (decV (hdW ws).data.toList most : Int) := by rw [IntKind.wrap_i64]; omega
  have hw2 : IntKind.u64.wrap (most : Int) = (most : Int) := by rw [u64_wrap]; omega
  go_enter Tryd.func29, Tryd.ntmps29
  go_wp2_with ((go_at_call 55; ((with_reducible refine (number_any p most (by omega) _ ws bad H.out).mono ?_))))
  rintro _ W1 ⟨rfl, h1, r1⟩
  have H1 := Lib.hid h1; clear h1
  have R1 := Lib.hid r1; clear r1
  go_wp2
  go_ret
  exact ⟨rfl, H1.out, R1.out⟩
end Go.Proofs.YtgjdgafoidppaaaDoor
namespace Go.Proofs.YtgjdgafoidppaaaDoor
open Go.RowKit
set_option linter.unusedVariables false
set_option linter.unusedSimpArgs false
set_option linter.unnecessarySimpa false
def namesB (k : Int) : ByteArray := if k = 1 then ⟨#[118, 115]⟩ else if k = 2 then ⟨#[118]⟩ else if k = 3 then ⟨#[118, 115]⟩ else if k = 4 then ⟨#[118, 116]⟩ else if k = 5 then ⟨#[118, 97, 100]⟩ else if k = 6 then ⟨#[118, 97, 99]⟩ else if k = 7 then ⟨#[118, 97, 99]⟩ else if k = 9 then ⟨#[118, 97, 99]⟩ else ⟨#[]⟩
theorem namesB_off (k : Int) (h : k < 1 ∨ 9 < k) : namesB k = ⟨#[]⟩ := by
  unfold namesB
  repeat (rw [if_neg (by omega)])
set_option maxHeartbeats 1000000 in
theorem namesB_any (k : Int) (w : World) : Calls Tryd.prog 64 #[.int .i64 k] w fun e w' => e = .returned (.string (namesB k)) ∧ Gr w w' := by
  by_cases h1 : k < 1
  · have e0 := namesB_off k (by omega)
    have e := Lib.hid e0; clear e0
    go_enter Tryd.func64, Tryd.ntmps64
    go_wp2
    go_ret
    exact ⟨by rw [e.out]; rfl, gri⟩
  by_cases h2 : 9 < k
  · have e0 := namesB_off k (by omega)
    have e := Lib.hid e0; clear e0
    go_enter Tryd.func64, Tryd.ntmps64
    go_wp2
    go_ret
    exact ⟨by rw [e.out]; rfl, gri⟩
  have h3 : k = 1 ∨ k = 2 ∨ k = 3 ∨ k = 4 ∨ k = 5 ∨ k = 6 ∨ k = 7 ∨ k = 8 ∨ k = 9 := by omega
  clear h1 h2
  rcases h3 with rfl | rfl | rfl | rfl | rfl | rfl | rfl | rfl | rfl
  all_goals
    go_enter Tryd.func64, Tryd.ntmps64
    go_wp2
    go_ret
    exact ⟨rfl, gri⟩
def opPartsB (k : Int) : ByteArray := if k = 1 then ⟨#[118, 115]⟩ else if k = 2 then ⟨#[118]⟩ else if k = 3 then ⟨#[118, 115]⟩ else if k = 4 then ⟨#[118, 116]⟩ else if k = 5 then ⟨#[118, 97, 100]⟩ else if k = 6 then ⟨#[118, 97, 99]⟩ else if k = 7 then ⟨#[118, 97, 99]⟩ else if k = 9 then ⟨#[118, 97, 99]⟩ else ⟨#[]⟩
theorem opPartsB_off (k : Int) (h : k < 0 ∨ 9 < k) : opPartsB k = ⟨#[]⟩ := by
  unfold opPartsB
  repeat (rw [if_neg (by omega)])
set_option maxHeartbeats 1000000 in
theorem opPartsB_any (k : Int) (w : World) : Calls Tryd.prog 62 #[.int .i64 k] w fun e w' => e = .returned (.string (opPartsB k)) ∧ Gr w w' := by
  by_cases h1 : k < 0
  · have e0 := opPartsB_off k (by omega)
    have e := Lib.hid e0; clear e0
    go_enter Tryd.func62, Tryd.ntmps62
    go_wp2
    go_ret
    exact ⟨by rw [e.out]; rfl, gri⟩
  by_cases h2 : 9 < k
  · have e0 := opPartsB_off k (by omega)
    have e := Lib.hid e0; clear e0
    go_enter Tryd.func62, Tryd.ntmps62
    go_wp2
    go_ret
    exact ⟨by rw [e.out]; rfl, gri⟩
  have h3 : k = 0 ∨ k = 1 ∨ k = 2 ∨ k = 3 ∨ k = 4 ∨ k = 5 ∨ k = 6 ∨ k = 7 ∨ k = 8 ∨ k = 9 := by omega
  clear h1 h2
  rcases h3 with rfl | rfl | rfl | rfl | rfl | rfl | rfl | rfl | rfl | rfl
  all_goals
    go_enter Tryd.func62, Tryd.ntmps62
    go_wp2
    go_ret
    exact ⟨rfl, gri⟩
def actPartsB (k : Int) : ByteArray := if k = 1 then ⟨#[100, 111]⟩ else if k = 2 then ⟨#[110]⟩ else if k = 3 then ⟨#[100]⟩ else if k = 4 then ⟨#[100, 112]⟩ else if k = 5 then ⟨#[100, 112]⟩ else if k = 6 then ⟨#[100, 110]⟩ else if k = 7 then ⟨#[100]⟩ else if k = 8 then ⟨#[100]⟩ else if k = 9 then ⟨#[100, 110]⟩ else ⟨#[]⟩
theorem actPartsB_off (k : Int) (h : k < 0 ∨ 10 < k) : actPartsB k = ⟨#[]⟩ := by
  unfold actPartsB
  repeat (rw [if_neg (by omega)])
set_option maxHeartbeats 1000000 in
theorem actPartsB_any (k : Int) (w : World) : Calls Tryd.prog 49 #[.int .i64 k] w fun e w' => e = .returned (.string (actPartsB k)) ∧ Gr w w' := by
  by_cases h1 : k < 0
  · have e0 := actPartsB_off k (by omega)
    have e := Lib.hid e0; clear e0
    go_enter Tryd.func49, Tryd.ntmps49
    go_wp2
    go_ret
    exact ⟨by rw [e.out]; rfl, gri⟩
  by_cases h2 : 10 < k
  · have e0 := actPartsB_off k (by omega)
    have e := Lib.hid e0; clear e0
    go_enter Tryd.func49, Tryd.ntmps49
    go_wp2
    go_ret
    exact ⟨by rw [e.out]; rfl, gri⟩
  have h3 : k = 0 ∨ k = 1 ∨ k = 2 ∨ k = 3 ∨ k = 4 ∨ k = 5 ∨ k = 6 ∨ k = 7 ∨ k = 8 ∨ k = 9 ∨ k = 10 := by omega
  clear h1 h2
  rcases h3 with rfl | rfl | rfl | rfl | rfl | rfl | rfl | rfl | rfl | rfl | rfl
  all_goals
    go_enter Tryd.func49, Tryd.ntmps49
    go_wp2
    go_ret
    exact ⟨rfl, gri⟩
end Go.Proofs.YtgjdgafoidppaaaDoor
namespace Go.Proofs.YtgjdgafoidppaaaDoor
open Go.RowKit
set_option linter.unusedVariables false
set_option linter.unusedSimpArgs false
set_option linter.unnecessarySimpa false
theorem ret_bool {a b : Bool} (h : a = b) : Ending.returned (.bool a) = .returned (.bool b) := by rw [h]
def wVol (v : Int) : Bool := decide (1 ≤ v) && decide (v < 4294967296)
def wTo (t v : Int) : Bool := decide (1 ≤ t) && decide (t < 4294967296) && (t != v)
def wSize (s : Int) : Bool := decide (0 ≤ s) && decide (s ≤ 256)
def wAt (a : Int) : Bool := decide (0 ≤ a) && decide (a ≤ 1048576)
def wCount (c : Int) : Bool := decide (1 ≤ c) && decide (c ≤ 1024)
def wData (n : Nat) : Bool := decide (64 ≤ n) && decide (n % 64 = 0) && decide (n ≤ 2048)
set_option maxHeartbeats 1000000 in
theorem within_v (xk xv xt xs xa xc : Int) (xD : Option Addr) (xn xq : Nat) (w : World) : Calls Tryd.prog 65 #[.int .i32 118, (Value.agg #[.int .i64 xk, .int .u64 xv, .int .u64 xt, .int .i64 xs, .int .i64 xa, .int .i64 xc, .slice xD xn xq])] w fun e w' => e = .returned (.bool (wVol xv)) ∧ Gr w w' := by
  by_cases h0 : 1 ≤ xv
  · by_cases h1 : xv < 4294967296
    · go_enter Tryd.func65, Tryd.ntmps65
      go_wp2
      go_ret
      exact ⟨ret_bool (by simp [wVol, wSize, wAt, wCount, *]), gri⟩
    · have f1 : decide (xv < 4294967296) = false := by simpa using h1
      go_enter Tryd.func65, Tryd.ntmps65
      go_wp2
      go_ret
      exact ⟨ret_bool (by simp [wVol, wSize, wAt, wCount, *]), gri⟩
  · have f0 : decide (1 ≤ xv) = false := by simpa using h0
    go_enter Tryd.func65, Tryd.ntmps65
    go_wp2
    go_ret
    exact ⟨ret_bool (by simp [wVol, wSize, wAt, wCount, *]), gri⟩
set_option maxHeartbeats 1000000 in
theorem within_s (xk xv xt xs xa xc : Int) (xD : Option Addr) (xn xq : Nat) (w : World) : Calls Tryd.prog 65 #[.int .i32 115, (Value.agg #[.int .i64 xk, .int .u64 xv, .int .u64 xt, .int .i64 xs, .int .i64 xa, .int .i64 xc, .slice xD xn xq])] w fun e w' => e = .returned (.bool (wSize xs)) ∧ Gr w w' := by
  by_cases h0 : 0 ≤ xs
  · by_cases h1 : xs ≤ 256
    · go_enter Tryd.func65, Tryd.ntmps65
      go_wp2
      go_ret
      exact ⟨ret_bool (by simp [wVol, wSize, wAt, wCount, *]), gri⟩
    · have f1 : decide (xs ≤ 256) = false := by simpa using h1
      go_enter Tryd.func65, Tryd.ntmps65
      go_wp2
      go_ret
      exact ⟨ret_bool (by simp [wVol, wSize, wAt, wCount, *]), gri⟩
  · have f0 : decide (0 ≤ xs) = false := by simpa using h0
    go_enter Tryd.func65, Tryd.ntmps65
    go_wp2
    go_ret
    exact ⟨ret_bool (by simp [wVol, wSize, wAt, wCount, *]), gri⟩
set_option maxHeartbeats 1000000 in
theorem within_a (xk xv xt xs xa xc : Int) (xD : Option Addr) (xn xq : Nat) (w : World) : Calls Tryd.prog 65 #[.int .i32 97, (Value.agg #[.int .i64 xk, .int .u64 xv, .int .u64 xt, .int .i64 xs, .int .i64 xa, .int .i64 xc, .slice xD xn xq])] w fun e w' => e = .returned (.bool (wAt xa)) ∧ Gr w w' := by
  by_cases h0 : 0 ≤ xa
  · by_cases h1 : xa ≤ 1048576
    · go_enter Tryd.func65, Tryd.ntmps65
      go_wp2
      go_ret
      exact ⟨ret_bool (by simp [wVol, wSize, wAt, wCount, *]), gri⟩
    · have f1 : decide (xa ≤ 1048576) = false := by simpa using h1
      go_enter Tryd.func65, Tryd.ntmps65
      go_wp2
      go_ret
      exact ⟨ret_bool (by simp [wVol, wSize, wAt, wCount, *]), gri⟩
  · have f0 : decide (0 ≤ xa) = false := by simpa using h0
    go_enter Tryd.func65, Tryd.ntmps65
    go_wp2
    go_ret
    exact ⟨ret_bool (by simp [wVol, wSize, wAt, wCount, *]), gri⟩
set_option maxHeartbeats 1000000 in
theorem within_c (xk xv xt xs xa xc : Int) (xD : Option Addr) (xn xq : Nat) (w : World) : Calls Tryd.prog 65 #[.int .i32 99, (Value.agg #[.int .i64 xk, .int .u64 xv, .int .u64 xt, .int .i64 xs, .int .i64 xa, .int .i64 xc, .slice xD xn xq])] w fun e w' => e = .returned (.bool (wCount xc)) ∧ Gr w w' := by
  by_cases h0 : 1 ≤ xc
  · by_cases h1 : xc ≤ 1024
    · go_enter Tryd.func65, Tryd.ntmps65
      go_wp2
      go_ret
      exact ⟨ret_bool (by simp [wVol, wSize, wAt, wCount, *]), gri⟩
    · have f1 : decide (xc ≤ 1024) = false := by simpa using h1
      go_enter Tryd.func65, Tryd.ntmps65
      go_wp2
      go_ret
      exact ⟨ret_bool (by simp [wVol, wSize, wAt, wCount, *]), gri⟩
  · have f0 : decide (1 ≤ xc) = false := by simpa using h0
    go_enter Tryd.func65, Tryd.ntmps65
    go_wp2
    go_ret
    exact ⟨ret_bool (by simp [wVol, wSize, wAt, wCount, *]), gri⟩
set_option maxHeartbeats 1000000 in
theorem within_t (xk xv xt xs xa xc : Int) (xD : Option Addr) (xn xq : Nat) (w : World) : Calls Tryd.prog 65 #[.int .i32 116, (Value.agg #[.int .i64 xk, .int .u64 xv, .int .u64 xt, .int .i64 xs, .int .i64 xa, .int .i64 xc, .slice xD xn xq])] w fun e w' => e = .returned (.bool (wTo xt xv)) ∧ Gr w w' := by
  by_cases h0 : 1 ≤ xt
  · by_cases h1 : xt < 4294967296
    · rcases Bool.eq_false_or_eq_true (xt != xv) with h2 | h2
      all_goals
        go_enter Tryd.func65, Tryd.ntmps65
        go_wp2
        go_ret
        exact ⟨ret_bool (by simp only [wTo, h2, decide_eq_true h0, decide_eq_true h1]; rfl), gri⟩
    · have f1 : decide (xt < 4294967296) = false := by simpa using h1
      go_enter Tryd.func65, Tryd.ntmps65
      go_wp2
      go_ret
      exact ⟨ret_bool (by simp [wTo, f1]), gri⟩
  · have f0 : decide (1 ≤ xt) = false := by simpa using h0
    go_enter Tryd.func65, Tryd.ntmps65
    go_wp2
    go_ret
    exact ⟨ret_bool (by simp [wTo, f0]), gri⟩
set_option maxHeartbeats 1000000 in
theorem within_d (xk xv xt xs xa xc : Int) (xD : Option Addr) (xn xq : Nat) (w : World) : Calls Tryd.prog 65 #[.int .i32 100, (Value.agg #[.int .i64 xk, .int .u64 xv, .int .u64 xt, .int .i64 xs, .int .i64 xa, .int .i64 xc, .slice xD xn xq])] w fun e w' => e = .returned (.bool (wData xn)) ∧ Gr w w' := by
  go_enter Tryd.func65, Tryd.ntmps65
  go_wp2
  all_goals go_ret
  all_goals exact ⟨ret_bool (by rw [Bool.eq_iff_iff]; simp [wData]; omega), gri⟩
def sameB (xk xv xt xs xa xc yk yv yt ys ya yc : Int) (lx ly : List UInt8) : Bool := xk == yk && xv == yv && xt == yt && xs == ys && xa == ya && xc == yc && lx == ly
set_option maxHeartbeats 2000000 in
theorem same13_any (xk xv xt xs xa xc yk yv yt ys ya yc : Int) (xD yD : Option Addr) (xn xq yn yq : Nat) (lx ly : List UInt8) (w : World) (hx : lx.length = xn) (hy : ly.length = yn) (hn : xn ≤ 9223372036854775807) (h1 : Row bv w xD lx) (h2 : Row bv w yD ly) :
    Calls Tryd.prog 66 #[(Value.agg #[.int .i64 xk, .int .u64 xv, .int .u64 xt, .int .i64 xs, .int .i64 xa, .int .i64 xc, .slice xD xn xq]), (Value.agg #[.int .i64 yk, .int .u64 yv, .int .u64 yt, .int .i64 ys, .int .i64 ya, .int .i64 yc, .slice yD yn yq])] w fun e w' => e = .returned (.bool (sameB xk xv xt xs xa xc yk yv yt ys ya yc lx ly)) ∧ Gr w w' := by
  have HX := Lib.hid hx; clear hx
  have HY := Lib.hid hy; clear hy
  rcases Bool.eq_false_or_eq_true (xk == yk) with k1 | k1
  rotate_left
  · go_enter Tryd.func66, Tryd.ntmps66
    go_wp2
    go_ret
    exact ⟨ret_bool (by simp [sameB, k1]), gri⟩
  rcases Bool.eq_false_or_eq_true (xv == yv) with k2 | k2
  rotate_left
  · go_enter Tryd.func66, Tryd.ntmps66
    go_wp2
    go_ret
    exact ⟨ret_bool (by simp [sameB, k2]), gri⟩
  rcases Bool.eq_false_or_eq_true (xt == yt) with k3 | k3
  rotate_left
  · go_enter Tryd.func66, Tryd.ntmps66
    go_wp2
    go_ret
    exact ⟨ret_bool (by simp [sameB, k3]), gri⟩
  rcases Bool.eq_false_or_eq_true (xs == ys) with k4 | k4
  rotate_left
  · go_enter Tryd.func66, Tryd.ntmps66
    go_wp2
    go_ret
    exact ⟨ret_bool (by simp [sameB, k4]), gri⟩
  rcases Bool.eq_false_or_eq_true (xa == ya) with k5 | k5
  rotate_left
  · go_enter Tryd.func66, Tryd.ntmps66
    go_wp2
    go_ret
    exact ⟨ret_bool (by simp [sameB, k5]), gri⟩
  rcases Bool.eq_false_or_eq_true (xc == yc) with k6 | k6
  rotate_left
  · go_enter Tryd.func66, Tryd.ntmps66
    go_wp2
    go_ret
    exact ⟨ret_bool (by simp [sameB, k6]), gri⟩
  go_enter Tryd.func66, Tryd.ntmps66
  go_wp2_with (go_at_call 85; ((with_reducible refine (equalB_any _ _ _ _ _ _ lx ly _ HX.out HY.out hn (h1.gr (gri)) (h2.gr (gri))).mono ?_); rintro _ _ ⟨rfl, g, rfl⟩))
  go_ret
  exact ⟨ret_bool (by simp [sameB, k1, k2, k3, k4, k5, k6]), gri⟩
end Go.Proofs.YtgjdgafoidppaaaDoor
namespace Go.Proofs.YtgjdgafoidppaaaDoor
open Go.RowKit
set_option linter.unusedVariables false
set_option linter.unusedSimpArgs false
set_option linter.unnecessarySimpa false
def mayStB (m0 m1 d0 d1 g : Int) : Bool := decide (16 ≤ m0) && decide (m0 ≤ 240) && decide (16 ≤ m1) && decide (m1 ≤ 240) && decide (1 ≤ d0) && decide (d0 ≤ 480) && decide (1 ≤ d1) && decide (d1 ≤ 480) && decide (0 ≤ g) && decide (g ≤ 480)
theorem mayStB_no {m0 m1 d0 d1 g : Int} (h : m0 < 16 ∨ 240 < m0 ∨ m1 < 16 ∨ 240 < m1 ∨ d0 < 1 ∨ 480 < d0 ∨ d1 < 1 ∨ 480 < d1 ∨ g < 0 ∨ 480 < g) : mayStB m0 m1 d0 d1 g = false := by
  cases e : mayStB m0 m1 d0 d1 g with
  | false => rfl
  | true => simp [mayStB] at e; omega
theorem mayStB_yes {m0 m1 d0 d1 g : Int} : mayStB m0 m1 d0 d1 g = true ↔ 16 ≤ m0 ∧ m0 ≤ 240 ∧ 16 ≤ m1 ∧ m1 ≤ 240 ∧ 1 ≤ d0 ∧ d0 ≤ 480 ∧ 1 ≤ d1 ∧ d1 ≤ 480 ∧ 0 ≤ g ∧ g ≤ 480 := by
  simp [mayStB, and_assoc]
set_option maxHeartbeats 4000000 in
theorem mayStage_any (m0 m1 d0 d1 g : Int) (w : World) : Calls Tryd.prog 13 #[.agg #[.int .i64 m0, .int .i64 m1, .int .i64 d0, .int .i64 d1, .int .i64 g]] w fun e w' => e = .returned (.bool (mayStB m0 m1 d0 d1 g)) ∧ Gr w w' := by
  rcases (by omega : m0 < 16 ∨ 16 ≤ m0) with a0 | a0
  · have E := Lib.hid (mayStB_no (m0 := m0) (m1 := m1) (d0 := d0) (d1 := d1) (g := g) (by omega))
    have f0 : decide (16 ≤ m0) = false := by simp; omega
    go_enter Tryd.func13, Tryd.ntmps13
    go_wp2
    refine wp_loop_rounds 3 ?_
    rw [rounds_succ]
    go_wp2
    go_ret
    exact ⟨by rw [E.out]; rfl, gri⟩
  · have t0 : True := trivial
    rcases (by omega : 240 < m0 ∨ m0 ≤ 240) with a1 | a1
    · have E := Lib.hid (mayStB_no (m0 := m0) (m1 := m1) (d0 := d0) (d1 := d1) (g := g) (by omega))
      have f1 : decide (m0 ≤ 240) = false := by simp; omega
      go_enter Tryd.func13, Tryd.ntmps13
      go_wp2
      refine wp_loop_rounds 3 ?_
      rw [rounds_succ]
      go_wp2
      go_ret
      exact ⟨by rw [E.out]; rfl, gri⟩
    · have t1 : True := trivial
      rcases (by omega : d0 < 1 ∨ 1 ≤ d0) with a2 | a2
      · have E := Lib.hid (mayStB_no (m0 := m0) (m1 := m1) (d0 := d0) (d1 := d1) (g := g) (by omega))
        have f2 : decide (1 ≤ d0) = false := by simp; omega
        go_enter Tryd.func13, Tryd.ntmps13
        go_wp2
        refine wp_loop_rounds 3 ?_
        rw [rounds_succ]
        go_wp2
        go_ret
        exact ⟨by rw [E.out]; rfl, gri⟩
      · have t2 : True := trivial
        rcases (by omega : 480 < d0 ∨ d0 ≤ 480) with a3 | a3
        · have E := Lib.hid (mayStB_no (m0 := m0) (m1 := m1) (d0 := d0) (d1 := d1) (g := g) (by omega))
          have f3 : decide (d0 ≤ 480) = false := by simp; omega
          go_enter Tryd.func13, Tryd.ntmps13
          go_wp2
          refine wp_loop_rounds 3 ?_
          rw [rounds_succ]
          go_wp2
          go_ret
          exact ⟨by rw [E.out]; rfl, gri⟩
        · have t3 : True := trivial
          rcases (by omega : m1 < 16 ∨ 16 ≤ m1) with a4 | a4
          · have E := Lib.hid (mayStB_no (m0 := m0) (m1 := m1) (d0 := d0) (d1 := d1) (g := g) (by omega))
            have f4 : decide (16 ≤ m1) = false := by simp; omega
            go_enter Tryd.func13, Tryd.ntmps13
            go_wp2
            refine wp_loop_rounds 3 ?_
            rw [rounds_succ]
            go_wp2
            rw [rounds_succ]
            go_wp2
            go_ret
            exact ⟨by rw [E.out]; rfl, gri⟩
          · have t4 : True := trivial
            rcases (by omega : 240 < m1 ∨ m1 ≤ 240) with a5 | a5
            · have E := Lib.hid (mayStB_no (m0 := m0) (m1 := m1) (d0 := d0) (d1 := d1) (g := g) (by omega))
              have f5 : decide (m1 ≤ 240) = false := by simp; omega
              go_enter Tryd.func13, Tryd.ntmps13
              go_wp2
              refine wp_loop_rounds 3 ?_
              rw [rounds_succ]
              go_wp2
              rw [rounds_succ]
              go_wp2
              go_ret
              exact ⟨by rw [E.out]; rfl, gri⟩
            · have t5 : True := trivial
              rcases (by omega : d1 < 1 ∨ 1 ≤ d1) with a6 | a6
              · have E := Lib.hid (mayStB_no (m0 := m0) (m1 := m1) (d0 := d0) (d1 := d1) (g := g) (by omega))
                have f6 : decide (1 ≤ d1) = false := by simp; omega
                go_enter Tryd.func13, Tryd.ntmps13
                go_wp2
                refine wp_loop_rounds 3 ?_
                rw [rounds_succ]
                go_wp2
                rw [rounds_succ]
                go_wp2
                go_ret
                exact ⟨by rw [E.out]; rfl, gri⟩
              · have t6 : True := trivial
                rcases (by omega : 480 < d1 ∨ d1 ≤ 480) with a7 | a7
                · have E := Lib.hid (mayStB_no (m0 := m0) (m1 := m1) (d0 := d0) (d1 := d1) (g := g) (by omega))
                  have f7 : decide (d1 ≤ 480) = false := by simp; omega
                  go_enter Tryd.func13, Tryd.ntmps13
                  go_wp2
                  refine wp_loop_rounds 3 ?_
                  rw [rounds_succ]
                  go_wp2
                  rw [rounds_succ]
                  go_wp2
                  go_ret
                  exact ⟨by rw [E.out]; rfl, gri⟩
                · have t7 : True := trivial
                  rcases (by omega : g < 0 ∨ 0 ≤ g) with a8 | a8
                  · have E := Lib.hid (mayStB_no (m0 := m0) (m1 := m1) (d0 := d0) (d1 := d1) (g := g) (by omega))
                    have f8 : decide (0 ≤ g) = false := by simp; omega
                    go_enter Tryd.func13, Tryd.ntmps13
                    go_wp2
                    refine wp_loop_rounds 3 ?_
                    rw [rounds_succ]
                    go_wp2
                    rw [rounds_succ]
                    go_wp2
                    rw [rounds_succ]
                    go_wp2
                    go_ret
                    exact ⟨by rw [E.out]; rfl, gri⟩
                  · have t8 : True := trivial
                    rcases (by omega : 480 < g ∨ g ≤ 480) with a9 | a9
                    · have E := Lib.hid (mayStB_no (m0 := m0) (m1 := m1) (d0 := d0) (d1 := d1) (g := g) (by omega))
                      have f9 : decide (g ≤ 480) = false := by simp; omega
                      go_enter Tryd.func13, Tryd.ntmps13
                      go_wp2
                      refine wp_loop_rounds 3 ?_
                      rw [rounds_succ]
                      go_wp2
                      rw [rounds_succ]
                      go_wp2
                      rw [rounds_succ]
                      go_wp2
                      go_ret
                      exact ⟨by rw [E.out]; rfl, gri⟩
                    · have t9 : True := trivial
                      have E := Lib.hid (mayStB_yes.2 (by omega : 16 ≤ m0 ∧ m0 ≤ 240 ∧ 16 ≤ m1 ∧ m1 ≤ 240 ∧ 1 ≤ d0 ∧ d0 ≤ 480 ∧ 1 ≤ d1 ∧ d1 ≤ 480 ∧ 0 ≤ g ∧ g ≤ 480))
                      go_enter Tryd.func13, Tryd.ntmps13
                      go_wp2
                      refine wp_loop_rounds 3 ?_
                      rw [rounds_succ]
                      go_wp2
                      rw [rounds_succ]
                      go_wp2
                      rw [rounds_succ]
                      go_wp2
                      go_ret
                      exact ⟨by rw [E.out]; rfl, gri⟩
set_option maxHeartbeats 4000000 in
theorem mayStage26_any (m0 m1 d0 d1 g : Int) (w : World) : Calls Tryd.prog 14 #[.agg #[.int .i64 m0, .int .i64 m1, .int .i64 d0, .int .i64 d1, .int .i64 g]] w fun e w' => e = .returned (.bool (mayStB m0 m1 d0 d1 g)) ∧ Gr w w' := by
  rcases (by omega : m0 < 16 ∨ 16 ≤ m0) with a0 | a0
  · have E := Lib.hid (mayStB_no (m0 := m0) (m1 := m1) (d0 := d0) (d1 := d1) (g := g) (by omega))
    have f0 : decide (16 ≤ m0) = false := by simp; omega
    go_enter Tryd.func14, Tryd.ntmps14
    go_wp2
    go_ret
    exact ⟨by rw [E.out]; rfl, gri⟩
  · have t0 : True := trivial
    rcases (by omega : 240 < m0 ∨ m0 ≤ 240) with a1 | a1
    · have E := Lib.hid (mayStB_no (m0 := m0) (m1 := m1) (d0 := d0) (d1 := d1) (g := g) (by omega))
      have f1 : decide (m0 ≤ 240) = false := by simp; omega
      go_enter Tryd.func14, Tryd.ntmps14
      go_wp2
      go_ret
      exact ⟨by rw [E.out]; rfl, gri⟩
    · have t1 : True := trivial
      rcases (by omega : m1 < 16 ∨ 16 ≤ m1) with a2 | a2
      · have E := Lib.hid (mayStB_no (m0 := m0) (m1 := m1) (d0 := d0) (d1 := d1) (g := g) (by omega))
        have f2 : decide (16 ≤ m1) = false := by simp; omega
        go_enter Tryd.func14, Tryd.ntmps14
        go_wp2
        go_ret
        exact ⟨by rw [E.out]; rfl, gri⟩
      · have t2 : True := trivial
        rcases (by omega : 240 < m1 ∨ m1 ≤ 240) with a3 | a3
        · have E := Lib.hid (mayStB_no (m0 := m0) (m1 := m1) (d0 := d0) (d1 := d1) (g := g) (by omega))
          have f3 : decide (m1 ≤ 240) = false := by simp; omega
          go_enter Tryd.func14, Tryd.ntmps14
          go_wp2
          go_ret
          exact ⟨by rw [E.out]; rfl, gri⟩
        · have t3 : True := trivial
          rcases (by omega : d0 < 1 ∨ 1 ≤ d0) with a4 | a4
          · have E := Lib.hid (mayStB_no (m0 := m0) (m1 := m1) (d0 := d0) (d1 := d1) (g := g) (by omega))
            have f4 : decide (1 ≤ d0) = false := by simp; omega
            go_enter Tryd.func14, Tryd.ntmps14
            go_wp2
            go_ret
            exact ⟨by rw [E.out]; rfl, gri⟩
          · have t4 : True := trivial
            rcases (by omega : 480 < d0 ∨ d0 ≤ 480) with a5 | a5
            · have E := Lib.hid (mayStB_no (m0 := m0) (m1 := m1) (d0 := d0) (d1 := d1) (g := g) (by omega))
              have f5 : decide (d0 ≤ 480) = false := by simp; omega
              go_enter Tryd.func14, Tryd.ntmps14
              go_wp2
              go_ret
              exact ⟨by rw [E.out]; rfl, gri⟩
            · have t5 : True := trivial
              rcases (by omega : d1 < 1 ∨ 1 ≤ d1) with a6 | a6
              · have E := Lib.hid (mayStB_no (m0 := m0) (m1 := m1) (d0 := d0) (d1 := d1) (g := g) (by omega))
                have f6 : decide (1 ≤ d1) = false := by simp; omega
                go_enter Tryd.func14, Tryd.ntmps14
                go_wp2
                go_ret
                exact ⟨by rw [E.out]; rfl, gri⟩
              · have t6 : True := trivial
                rcases (by omega : 480 < d1 ∨ d1 ≤ 480) with a7 | a7
                · have E := Lib.hid (mayStB_no (m0 := m0) (m1 := m1) (d0 := d0) (d1 := d1) (g := g) (by omega))
                  have f7 : decide (d1 ≤ 480) = false := by simp; omega
                  go_enter Tryd.func14, Tryd.ntmps14
                  go_wp2
                  go_ret
                  exact ⟨by rw [E.out]; rfl, gri⟩
                · have t7 : True := trivial
                  rcases (by omega : g < 0 ∨ 0 ≤ g) with a8 | a8
                  · have E := Lib.hid (mayStB_no (m0 := m0) (m1 := m1) (d0 := d0) (d1 := d1) (g := g) (by omega))
                    have f8 : decide (0 ≤ g) = false := by simp; omega
                    go_enter Tryd.func14, Tryd.ntmps14
                    go_wp2
                    go_ret
                    exact ⟨by rw [E.out]; rfl, gri⟩
                  · have t8 : True := trivial
                    rcases (by omega : 480 < g ∨ g ≤ 480) with a9 | a9
                    · have E := Lib.hid (mayStB_no (m0 := m0) (m1 := m1) (d0 := d0) (d1 := d1) (g := g) (by omega))
                      have f9 : decide (g ≤ 480) = false := by simp; omega
                      go_enter Tryd.func14, Tryd.ntmps14
                      go_wp2
                      go_ret
                      exact ⟨by rw [E.out]; rfl, gri⟩
                    · have t9 : True := trivial
                      have E := Lib.hid (mayStB_yes.2 (by omega : 16 ≤ m0 ∧ m0 ≤ 240 ∧ 16 ≤ m1 ∧ m1 ≤ 240 ∧ 1 ≤ d0 ∧ d0 ≤ 480 ∧ 1 ≤ d1 ∧ d1 ≤ 480 ∧ 0 ≤ g ∧ g ≤ 480))
                      go_enter Tryd.func14, Tryd.ntmps14
                      go_wp2
                      go_ret
                      exact ⟨by rw [E.out]; rfl, gri⟩
end Go.Proofs.YtgjdgafoidppaaaDoor
namespace Go.Proofs.YtgjdgafoidppaaaDoor
open Go.RowKit
set_option linter.unusedVariables false
set_option linter.unusedSimpArgs false
set_option linter.unnecessarySimpa false
theorem OwnS.alloc_ {base : Nat} {W : World} {v : Value} {xs : List ByteArray} (h : OwnS base W v xs) (o : Obj) : OwnS base (W.alloc o) v xs := World.ownsRow.alloc h o
theorem OwnS.drew_ {base : Nat} {W : World} {v : Value} {xs : List ByteArray} (h : OwnS base W v xs) : OwnS base W.drew v xs := h
theorem OwnS.grown_ {base : Nat} {W : World} {v : Value} {xs : List ByteArray} (h : OwnS base W v xs) (g : Growth W) : OwnS base (grown W g) v xs := h.gr (Gr.of (grown_below W g))
theorem OwnS.iter_ {base : Nat} {W : World} {v : Value} {xs : List ByteArray} (h : OwnS base W v xs) (k : Nat) {s : ByteArray} {pos : Nat} [hi : IterAt W k s pos] (s' : ByteArray) (pos' : Nat) : OwnS base (W.iterAt k s' pos') v xs := by
  refine ⟨h.1, ?_⟩
  rcases h.2 with h2 | ⟨g, cap, cur, hv, hb, hh, h4⟩
  · exact .inl h2
  · refine .inr ⟨g, cap, cur, hv, hb, ?_, h4⟩
    have hne : g ≠ k := by
      rintro rfl
      have := hi.eq
      rw [hh] at this
      cases this
    rw [Lib.iterAt_other W k g s' pos' hne]
    exact hh
theorem OwnS.lt {base : Nat} {W : World} {v : Value} {xs : List ByteArray} (h : OwnS base W v xs) : ∀ k, v.ownBlock = some k → base ≤ k ∧ k < W.heap.size := World.ownsRow.lt h
/-- What an append of one word leaves. -/
structure App (base : Nat) (W : World) (v : Value) (xs : List ByteArray) (y : ByteArray) (v' : Value) (W' : World) : Prop where
  own : OwnS base W' v' (xs ++ [y])
  below : Below base W W'
  size : W.heap.size ≤ W'.heap.size
  iter : ∀ k s pos, IterAt W k s pos → IterAt W' k s pos
theorem App.tb {base : Nat} {W : World} {v : Value} {xs : List ByteArray} {y : ByteArray} {v' : Value} {W' : World} (h : App base W v xs y v' W') (hf : 6 ≤ base) [ht : Tb W] : Tb W' :=
  ht.keep h.size (fun b hb => h.below.block b (by omega))
theorem App.from_ {base : Nat} {W : World} {v : Value} {xs : List ByteArray} {y : ByteArray} {v' : Value} {W' : World} (h : App base W v xs y v' W') (a : World) [ht : From a W] : From a W' := ⟨Nat.le_trans ht.le h.size⟩
theorem App.old {base : Nat} {W : World} {v : Value} {xs : List ByteArray} {y : ByteArray} {v' : Value} {W' : World} (h : App base W v xs y v' W') (b : Nat) [ht : Old b W] : Old b W' := ⟨Nat.lt_of_lt_of_le ht.lt h.size⟩
theorem App.cell {base : Nat} {W : World} {v : Value} {xs : List ByteArray} {y : ByteArray} {v' : Value} {W' : World} (h : App base W v xs y v' W') {b o : Nat} {u : Value} (hb : b < base) (hc : W.cell? ⟨b, o, none⟩ = some u) : W'.cell? ⟨b, o, none⟩ = some u := (h.below.cell (p := ⟨b, o, none⟩) hb).trans hc
theorem App.chain {base : Nat} {W : World} {v : Value} {xs : List ByteArray} {y : ByteArray} {v' : Value} {W' : World} (h : App base W v xs y v' W') {a : World} (hb : Below a.heap.size a W) (hl : a.heap.size ≤ base) : Below a.heap.size a W' := hb.trans (h.below.mono hl)
theorem wp_append_str {ops : Array Oper} {rest : List Oper} {o : Oper} {a : Act} {Q : Exit → Act → World → Prop} (hgd : o.guard = none) (s x : Operand)
    (ho : o.op = .call { callee := .builtin .append, args := #[s, x], argTypes := #[62, 62] })
    (base : Nat) {W : World} (v : Value) (xs : List ByteArray) (hs : a.eval s = v) (hown : OwnS base W v xs) (ad : Nat) (y : ByteArray) (hx : a.eval x = .slice (some ⟨ad, 0, none⟩) 1 1)
    (hc : W.cell? ⟨ad, 0, none⟩ = some (.string y)) (hlen : xs.length ≤ 1000) (hbase : base ≤ W.heap.size)
    (h : ∀ v' W', App base W v xs y v' W' → wpList Tryd.prog ops Q rest (a.put o.dst v') W') : wpList Tryd.prog ops Q (o :: rest) a W := by
  obtain ⟨i0, hi, hz0, hz1, hz2⟩ := info_parts infoString
  refine wpList_append_own W hgd s x 62 ho base 9 i0 (.string ⟨#[]⟩) 1 16 Tryd.underlying62 hi hz0 hz1 hz2 rfl (by decide) v xs.length (xs.map Value.string) hs hown ⟨ad, 0, none⟩ 1 1 [.string y] hx rfl ?_ ?_ ?_ ?_ hbase ?_
  · intro j u hj
    match j, hj with
    | 0, hj => simp at hj; subst hj; simpa [Addr.add] using hc
  · intro u hu; simp at hu; subst hu; rfl
  · unfold maxLen; omega
  · omega
  · intro v' W' hown' hgrow _
    refine h v' W' ⟨by simpa [OwnS] using hown', (Below.refl base W).grown hgrow hbase (fun q hq => (hown.lt q hq).1), hgrow.size, fun k st pos hk => ⟨?_⟩⟩
    refine (hgrow.block k hk.lt ?_).trans hk.eq
    intro e
    rcases hown.2 with ⟨rfl, _⟩ | ⟨g, cap, cur, rfl, _, hh, _⟩
    · simp [Value.ownBlock] at e
    · have : k = g := by simpa [Value.ownBlock] using e
      subst this
      have := hk.eq
      rw [hh] at this
      cases this
end Go.Proofs.YtgjdgafoidppaaaDoor
namespace Go.Proofs.YtgjdgafoidppaaaDoor
open Go.RowKit
set_option linter.unusedVariables false
set_option linter.unusedSimpArgs false
set_option linter.unnecessarySimpa false
/-- What an append leaves. -/
structure Apps (base : Nat) (W : World) (v : Value) (xs ys : List ByteArray) (v' : Value) (W' : World) : Prop where
  own : OwnS base W' v' (xs ++ ys)
  below : Below base W W'
  size : W.heap.size ≤ W'.heap.size
  keep : ∀ B cs t, BlockAt W B cs t → t ≠ 9 → BlockAt W' B cs t
theorem Apps.tb {base : Nat} {W W' : World} {v v' : Value} {xs ys : List ByteArray} (h : Apps base W v xs ys v' W') (hf : 6 ≤ base) [ht : Tb W] : Tb W' := ht.keep h.size (fun b hb => h.below.block b (by omega))
theorem Apps.ml {base : Nat} {W W' : World} {v v' : Value} {xs ys : List ByteArray} (h : Apps base W v xs ys v' W') (hf : 6 ≤ base) [ht : Ml W] : Ml W' := ht.keep (h.below.block _ (by omega))
theorem Apps.from_ {base : Nat} {W W' : World} {v v' : Value} {xs ys : List ByteArray} (h : Apps base W v xs ys v' W') (a : World) [ht : From a W] : From a W' := ⟨Nat.le_trans ht.le h.size⟩
theorem Apps.old {base : Nat} {W W' : World} {v v' : Value} {xs ys : List ByteArray} (h : Apps base W v xs ys v' W') (b : Nat) [ht : Old b W] : Old b W' := ⟨Nat.lt_of_lt_of_le ht.lt h.size⟩
theorem Apps.cell {base : Nat} {W W' : World} {v v' : Value} {xs ys : List ByteArray} (h : Apps base W v xs ys v' W') {b o : Nat} {u : Value} (hb : b < base) (hc : W.cell? ⟨b, o, none⟩ = some u) : W'.cell? ⟨b, o, none⟩ = some u := (h.below.cell (p := ⟨b, o, none⟩) hb).trans hc
theorem Apps.chain {base : Nat} {W W' : World} {v v' : Value} {xs ys : List ByteArray} (h : Apps base W v xs ys v' W') {a : World} (hb : Below a.heap.size a W) (hl : a.heap.size ≤ base) : Below a.heap.size a W' := hb.trans (h.below.mono hl)
theorem wp_append_strs {ops : Array Oper} {rest : List Oper} {o : Oper} {a : Act} {Q : Exit → Act → World → Prop} (hgd : o.guard = none) (s x : Operand)
    (ho : o.op = .call { callee := .builtin .append, args := #[s, x], argTypes := #[62, 62] })
    (base : Nat) {W : World} (v : Value) (xs : List ByteArray) (hs : a.eval s = v) (hown : OwnS base W v xs) (ad : Nat) (ys : List ByteArray) (m : Nat) (hm : ys.length = m) (hx : a.eval x = .slice (some ⟨ad, 0, none⟩) m m)
    (hc : ∀ j y, ys[j]? = some y → W.cell? ⟨ad, j, none⟩ = some (.string y)) (hlen : xs.length + ys.length ≤ 2000000) (hbase : base ≤ W.heap.size)
    (h : ∀ v' W', Apps base W v xs ys v' W' → wpList Tryd.prog ops Q rest (a.put o.dst v') W') : wpList Tryd.prog ops Q (o :: rest) a W := by
  subst hm
  obtain ⟨i0, hi, hz0, hz1, hz2⟩ := info_parts infoString
  refine wpList_append_own W hgd s x 62 ho base 9 i0 (.string ⟨#[]⟩) 1 16 Tryd.underlying62 hi hz0 hz1 hz2 rfl (by decide) v xs.length (xs.map Value.string) hs hown ⟨ad, 0, none⟩ ys.length ys.length (ys.map Value.string) hx (by simp) ?_ ?_ ?_ ?_ hbase ?_
  · intro j u hj
    rw [List.getElem?_map] at hj
    cases hy : ys[j]? with
    | none => rw [hy] at hj; cases hj
    | some y =>
      rw [hy] at hj
      cases hj
      rw [Go.WideShapes.add_plain, Nat.zero_add]
      exact hc j y hy
  · intro u hu
    simp only [List.mem_map] at hu
    obtain ⟨y, _, rfl⟩ := hu
    rfl
  · unfold maxLen; omega
  · omega
  · intro v' W' hown' hgrow _
    refine h v' W' ⟨by simpa [OwnS] using hown', (Below.refl base W).grown hgrow hbase (fun q hq => (hown.lt q hq).1), hgrow.size, fun B cs t hB ht => hB.grown hgrow (fun e => ?_)⟩
    rcases hown.2 with ⟨rfl, _⟩ | ⟨g, cap, cur, rfl, _, hh, _⟩
    · simp [Value.ownBlock] at e
    · have : B = g := by simpa [Value.ownBlock] using e
      subst this
      have := hB.eq
      rw [hh] at this
      cases this
      exact ht rfl
end Go.Proofs.YtgjdgafoidppaaaDoor
