/- script.DataText: whole sectors, told one behind the other. Conditions: what is read stands in memory; at most 100000 bytes. -/
import Derived.Test.YtgjdgafoidppaaaDoorSSec
import Derived.Deep.AppendLies
import Derived.OwnWalk
namespace Go.Proofs.YtgjdgafoidppaaaDoor
open Go.RowKit
set_option linter.unusedVariables false
set_option linter.unusedSimpArgs false
set_option linter.unnecessarySimpa false
theorem infoString : (Tryd.prog.info? 9).map (fun i => (i.zero, i.size, i.bytes)) = some (some (.string ⟨#[]⟩), 1, 16) := by kernel_rfl
/-- A slice of the call's own that holds these words. -/
def OwnS (base : Nat) (W : World) (v : Value) (xs : List ByteArray) : Prop := W.ownsRow base 9 1 v xs.length (xs.map Value.string)
theorem only_of_gr {W W' : World} (h : Gr W W') (row : Option Nat) : W.grownBy W' row := ⟨h.below.os, h.below.tape, h.below.output, h.below.size, fun i hi _ => h.below.block i hi⟩
theorem OwnS.gr {base : Nat} {W W' : World} {v : Value} {xs : List ByteArray} (h : OwnS base W v xs) (hg : Gr W W') : OwnS base W' v xs := by
  refine World.ownsRow.kept h (only_of_gr hg none) ?_
  cases hv : v.ownBlock with
  | none => exact .inl rfl
  | some g => exact .inr (by simp)
theorem OwnS.form {base : Nat} {W : World} {v : Value} {xs : List ByteArray} (h : OwnS base W v xs) : ∃ A c, v = .slice A xs.length c ∧ xs.length ≤ c ∧ Row Value.string W A xs := by
  have h0 := h
  rcases h.2 with ⟨rfl, hn⟩ | ⟨g, cap, cur, rfl, hb, hh, hnc, _⟩
  · have : xs = [] := List.eq_nil_of_length_eq_zero hn
    subst this
    exact ⟨none, 0, rfl, Nat.le_refl _, Row.nil⟩
  · refine ⟨_, _, rfl, hnc, ⟨fun _ => ⟨g, 0, rfl, (Array.getElem?_eq_some_iff.1 hh).1, fun j x hx => ?_⟩⟩⟩
    have := World.ownsRow.cells h0 (g := g) rfl j (.string x) (by simp [hx])
    rw [Go.WideShapes.add_plain] at this
    exact this
theorem OwnS.nil (base : Nat) (W : World) : OwnS base W (.slice none 0 0) [] := World.ownsRow_nil _ _ _ _
theorem Row.cut {α : Type} {enc : α → Value} {W : World} {A : Option Addr} {l : List α} (h : Row enc W A l) (k m : Nat) : Row enc W (A.map (·.add k)) ((l.drop k).take m) :=
  ⟨fun h0 => by
    have hl : l ≠ [] := by rintro rfl; simp at h0
    obtain ⟨b, o, rfl, hb, hc⟩ := h.at_ hl
    refine ⟨b, o + k, by simp [Go.WideShapes.add_plain], hb, fun j x hx => ?_⟩
    rw [List.getElem?_take] at hx
    split at hx
    · rw [List.getElem?_drop] at hx
      rw [Nat.add_assoc]
      exact hc (k + j) x hx
    · cases hx⟩
def secAt (l : List UInt8) (j : Nat) : ByteArray := ⟨(secL ((l.drop (64 * j)).take 64)).toArray⟩
def secs (l : List UInt8) (k : Nat) : List ByteArray := (List.range k).map (secAt l)
theorem secs_succ (l : List UInt8) (k : Nat) : secs l (k + 1) = secs l k ++ [secAt l k] := by simp [secs, List.range_succ]
theorem secs_len (l : List UInt8) (k : Nat) : (secs l k).length = k := by simp [secs]
def dataL (l : List UInt8) : List UInt8 := rowL (secs l (l.length / 64))
theorem trimZ_len (l : List UInt8) : (trimZ l).length ≤ l.length := by
  unfold trimZ
  rw [List.length_reverse]
  have := (List.dropWhile_suffix (fun x : UInt8 => x == 0) (l := l.reverse)).length_le
  simpa using this
theorem secL_len (l : List UInt8) : (secL l).length ≤ 2 * l.length + 1 := by
  unfold secL
  split
  · simp
  · rw [hexL_len]; have := trimZ_len l; omega
theorem join_len (sep : List UInt8) (hs : sep.length = 1) (m : Nat) : ∀ (xs : List (List UInt8)), (∀ x ∈ xs, x.length ≤ m) → (Lib.join xs sep).length ≤ xs.length * (m + 1)
  | [], _ => by simp [Lib.join]
  | [x], h => by
    have := h x (by simp)
    simp [Lib.join]; omega
  | x :: y :: r, h => by
    have h1 := h x (by simp)
    have h2 := join_len sep hs m (y :: r) (fun z hz => h z (by simp at hz ⊢; exact .inr hz))
    have e : Lib.join (x :: y :: r) sep = x ++ sep ++ Lib.join (y :: r) sep := by simp [Lib.join]
    rw [e]
    simp only [List.length_append, List.length_cons, hs] at h2 ⊢
    rw [Nat.add_mul] 
    omega
theorem secs_join (l : List UInt8) (k : Nat) : (Lib.join ((secs l k).map (·.data.toList)) [44]).length ≤ k * 130 := by
  have := join_len [44] rfl 129 ((secs l k).map (·.data.toList)) (fun x hx => by
    simp only [secs, List.map_map, List.mem_map, List.mem_range] at hx
    obtain ⟨j, _, rfl⟩ := hx
    have := secL_len ((l.drop (64 * j)).take 64)
    have h2 : ((l.drop (64 * j)).take 64).length ≤ 64 := by rw [List.length_take]; omega
    simp only [Function.comp, secAt]
    simp
    omega)
  simpa [secs_len] using this
set_option maxRecDepth 100000 in
set_option maxHeartbeats 4000000 in
theorem dataText_any (A : Option Addr) (n c : Nat) (l : List UInt8) (w : World) (hl : l.length = n) (hnc : n ≤ c) (hn : n ≤ 100000) (hr : Row bv w A l) :
    Calls Tryd.prog 17 #[.slice A n c] w fun e w' => e = .returned (.string ⟨(dataL l).toArray⟩) ∧ Gr w w' := by
  obtain ⟨i0, hi, hz0, hz1, hz2⟩ := info_parts infoString
  have HR := Lib.hid hr; clear hr
  have HL := Lib.hid hl; clear hl
  have HI := Lib.hid hi; clear hi
  have HZ := Lib.hid (And.intro hz0 (And.intro hz1 hz2)); clear hz0 hz1 hz2
  go_enter Tryd.func17, Tryd.ntmps17
  go_wp2
  go_loopw [3, 4] (fun v i wr => ∃ k : Nat, i = .int .i64 (64 * k : Nat) ∧ 64 * k ≤ n ∧ OwnS w.heap.size wr v (secs l k) ∧ Below w.heap.size w wr) (fun _ i _ => n - (intOf i).toNat)
  case atStart => exact ⟨0, rfl, Nat.zero_le _, OwnS.nil _ _, Below.refl _ _⟩
  case round =>
    obtain ⟨k, rfl, hk, hown, hbw⟩ := hrel
    obtain ⟨VA, vc, rfl, hvc, hrow⟩ := hown.form
    have hsz := hbw.size
    rw [secs_len] at hvc
    simp only [secs_len] at hown ⊢
    by_cases hlt : 64 * k + 64 ≤ n
    · have hcut : Row bv wr (A.map (·.add (64 * k))) ((l.drop (64 * k)).take 64) := (HR.out.gr (Gr.of hbw)).cut _ _
      have HCUT := Lib.hid hcut; clear hcut
      have hlen : ((l.drop (64 * k)).take 64).length = 64 := by
        have := HL.out; rw [List.length_take, List.length_drop]; omega
      have HLEN := Lib.hid hlen; clear hlen
      go_wp2_with (go_at_call 34; ((with_reducible refine (sectorText_any _ _ _ ((l.drop (64 * k)).take 64) _ HLEN.out (by omega) (by omega) HCUT.out).mono ?_)))
      rintro _ _ ⟨rfl, hg⟩
      obtain ⟨g, rfl⟩ := hg
      have hown1 : (grown wr g).ownsRow w.heap.size 9 1 (.slice VA k vc) k ((secs l k).map Value.string) := by
        have h1 : OwnS w.heap.size wr (.slice VA k vc) (secs l k) := by simpa only [OwnS, secs_len] using hown
        simpa only [OwnS, secs_len] using h1.gr (Gr.of (grown_below wr g))
      have hi := HI.out
      have hz0 := HZ.out.1
      have hz1 := HZ.out.2.1
      have hz2 := HZ.out.2.2
      have hsz1 := (grown_below wr g).size
      go_wp2_with (at_builtin; refine wpList_append_own _ rfl _ _ 62 rfl w.heap.size 9 i0 (.string ⟨#[]⟩) 1 16 Tryd.underlying62 hi hz0 hz1 hz2 rfl (by decide) _ _ _ rfl (hown1.alloc _) ⟨(grown wr g).heap.size, 0, none⟩ 1 1 [.string ⟨(secL ((l.drop (64 * k)).take 64)).toArray⟩] rfl rfl ?c1 ?c2 ?c3 ?c4 ?c5 ?_)
      case c1 =>
        intro j u hj
        match j, hj with
        | 0, hj => simp at hj; subst hj; simp [Addr.add]
      case c2 => intro u hu; simp at hu; subst hu; rfl
      case c3 => unfold maxLen; omega
      case c4 => omega
      case c5 => simp; omega
      intro v' w2 hown' hgrow _
      have hb2 : Below w.heap.size w w2 := ((below_trans hbw (grown_below wr g)).alloc (Nat.le_trans hsz hsz1) _).grown hgrow (by simp; omega) (fun q hq => (hown1.lt q hq).1)
      clear hi hz0 hz1 hz2 hown1 hgrow
      go_wp2
      go_roundw
      case rel =>
        refine ⟨k + 1, by go_num, by omega, ?_, hb2⟩
        rw [secs_succ]
        simpa [OwnS, secs_len, secAt] using hown'
      case measure => simp [intOf]; omega
    · have hkn : n / 64 = k := by omega
      have e0 : dataL l = rowL (secs l k) := by rw [dataL, HL.out, hkn]
      have E := Lib.hid e0; clear e0 hkn
      have hJ := Lib.hid (secs_join l k)
      have hSL := Lib.hid (secs_len l k)
      have HROW := Lib.hid hrow; clear hrow hown
      have hlt2 : decide (64 * (k : Int) + 64 ≤ (n : Int)) = false := by simp; omega
      go_wp2_with (go_at_call 35; ((with_reducible refine (rowText_any _ _ _ (secs l k) _ hSL.out hvc (by omega) (by have := hJ.out; omega) HROW.out).mono ?_); rintro _ _ ⟨rfl, g, rfl⟩))
      go_ret
      exact ⟨by rw [E.out]; rfl, Gr.of (below_trans hbw (grown_below _ _))⟩
end Go.Proofs.YtgjdgafoidppaaaDoor
