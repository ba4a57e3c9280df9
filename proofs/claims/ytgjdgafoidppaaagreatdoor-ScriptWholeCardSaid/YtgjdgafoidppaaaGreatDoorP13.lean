/- The reference's Lines. Conditions: a text of at most 900000 bytes. A text cut at its line ends, line by line, against its lines (no program in sight). Conditions: none. script.Parse. Conditions: a text of at most 200000 bytes; the tables stand. A row of bytes as a string; the reference's Same. Conditions: what is read stands in memory. The reference's Hex, digit, Unhex, row, DataText, data. Conditions: what is read stands in memory; at most 10^6 bytes. The reference's DataText. Conditions: what is read stands in memory; at most 60000 bytes. The reference's digit, Unhex. Conditions: a text of at most 10^6 bytes. The reference's place, Kinds. Conditions: the words stand in memory. -/
import Derived.Test.YtgjdgafoidppaaaGreatDoorP12
import Derived.Test.YtgjdgafoidppaaaGreatDoorP03
import Derived.Laws.BytesArg
import Derived.Test.YtgjdgafoidppaaaGreatDoorP10
namespace Go.Proofs.YtgjdgafoidppaaaGreatDoor
open Go.RowKit
set_option linter.unusedVariables false
set_option linter.unusedSimpArgs false
set_option linter.unnecessarySimpa false
theorem OwnS.blk {base : Nat} {W : World} {v : Value} {l : List ByteArray} (h : OwnS base W v l) (hne : l ≠ []) : ∃ (g cap : Nat) (cur : Array Value), v = .slice (some ⟨g, 0, none⟩) l.length cap ∧ base ≤ g ∧ BlockAt W g cur 9 ∧ l.length ≤ cap ∧ ∀ (j : Nat) (y : ByteArray), l[j]? = some y → cur[j]? = some (Value.string y) := by
 have h0 := h
 rcases h.2 with ⟨_, hn⟩ | ⟨g, cap, cur, rfl, hb9, hh, hnc, _⟩
 ·exact absurd (List.eq_nil_of_length_eq_zero hn) hne
 ·refine ⟨g, cap, cur, rfl, hb9, ⟨hh⟩, hnc, fun j y hj => ?_⟩
  have h1 := World.ownsRow.cells h0 (g := g) rfl j (Value.string y) (by rw [List.getElem?_map, hj]; rfl)
  rw [Go.WideShapes.add_plain] at h1
  have h2 : W.cell? ⟨g, 0 + j, none⟩ = cur[0 + j]? := @block_cells W g (0 + j) cur 9 ⟨hh⟩
  rw [Nat.zero_add] at h2
  simp only [Nat.zero_add] at h1
  rw [h2] at h1
  exact h1
theorem last_at (l : List ByteArray) (d : ByteArray) (h : l ≠ []) : l[l.length - 1]? = some (l.getLastD d) := by
 rw [List.getLastD_eq_getLast?, ← List.getLast?_eq_getElem?]
 rw [List.getLast?_eq_some_getLast h]; rfl
set_option maxHeartbeats 2000000 in
theorem lines26_any (t : ByteArray) (ht : t.size ≤ 900000) (w : World) :
  Calls Tryz.prog 31 #[.string t] w fun e w' => ∃ (b cap : Nat) (cur : Array Value), e = .returned (.tuple #[.slice (some ⟨b, 0, none⟩) (linesB t).length cap, .string (restB t)]) ∧ (linesB t).length ≤ cap ∧ w.heap.size ≤ b ∧ BlockAt w' b cur 9 ∧ (∀ (j : Nat) (y : ByteArray), (linesB t)[j]? = some y → cur[j]? = some (Value.string y)) ∧ Gr w w' := by
 have HWD := Lib.hid (fun V => (show Calls Tryz.prog 41 #[.string t, .int .u8 10] V (fun e w' => ∃ v, e = .returned v ∧ OwnS V.heap.size w' v (wordsB 10 t) ∧ Below V.heap.size V w') from words26_any t 10 (by omega) V))
 have hne := wordsB_ne 10 t
 have hle := wordsB_le 10 t
 have hl : (linesB t).length = (wordsB 10 t).length - 1 := by simp [linesB]
 have hlx : ∀ (j : Nat) (y : ByteArray), (linesB t)[j]? = some y → (wordsB 10 t)[j]? = some y := fun j y h => by
  have h1 : j < (linesB t).length := (List.getElem?_eq_some_iff.1 h).1
  rw [linesB, List.getElem?_dropLast] at h
  split at h
  ·exact h
  ·cases h
 have hr := last_at (wordsB 10 t) ⟨#[]⟩ hne
 have hr2 : (wordsB 10 t)[(wordsB 10 t).length - 1]? = some (restB t) := hr
 have HL := Lib.hid hl; have HLX := Lib.hid hlx; have HR := Lib.hid hr2; clear hl hlx hr hr2
 go_enter Tryz.func31, Tryz.ntmps31
 go_wp2_with ((go_at_call 41; ((with_reducible refine (HWD.out _).mono ?_))))
 rintro _ W3 ⟨v3, rfl, hown, hbw⟩
 obtain ⟨g, cap, cur, rfl, hg, hB, hc, hx⟩ := OwnS.blk hown hne
 have hpos : 0 < (wordsB 10 t).length := List.length_pos_iff.2 hne
 obtain ⟨n, hn⟩ : ∃ n, (wordsB 10 t).length = n + 1 := ⟨(wordsB 10 t).length - 1, by omega⟩
 have HX := Lib.hid hx
 have hlast : W3.cell? ⟨g, n, none⟩ = some (.string (restB t)) := by
  have h1 := hx n (restB t) (by have := HR.out; rw [hn] at this; exact this)
  have h2 : W3.cell? ⟨g, n, none⟩ = cur[n]? := @block_cells W3 g n cur 9 hB
  rw [h2]; exact h1
 have HLL := HL.out
 rw [hn] at HLL hle hc ⊢
 have hG : Gr w W3 := Gr.of hbw
 have HGG := Lib.hid hG
 have i1 : (n : Int) < ((n + 1 : Nat) : Int) := by omega
 clear hown hbw hx hne hpos hn hG
 haveI : Old g W3 := hB.old
 go_wp2
 refine wp_region_grow (by kernel_rfl) (by kernel_rfl) ?_
 repeat (go_big_quiet_step (fail))
 refine wpQuiet_nil ?_
 intro g2
 go_wp2
 go_ret2
 exact ⟨g, cap, cur, by rw [HLL]; first | rfl | simp, by omega, HGG.out.below.size |> fun _ => hg, hB.gr (Gr.of (grown_below _ _)), fun j y hj => HX.out j y (HLX.out j y hj), HGG.out.trans (Gr.of (grown_below _ _))⟩
def strLen : Value → Nat
 | .string s => s.size
 | _ => 0
def cutX (r : ByteArray) : ByteArray := ⟨(Lib.cut r.data.toList [10]).1.toArray⟩
def cutM (r : ByteArray) : ByteArray := ⟨(Lib.cut r.data.toList [10]).2.1.toArray⟩
def cutB (r : ByteArray) : Bool := (Lib.cut r.data.toList [10]).2.2
theorem first10 : ∀ l : List UInt8, (10 : UInt8) ∈ l → ∃ a b, l = a ++ 10 :: b ∧ (10 : UInt8) ∉ a
 | x :: l, h => by
  by_cases e : x = 10
  ·exact ⟨[], l, by rw [e]; rfl, by simp⟩
  ·have h1 : (10 : UInt8) ∈ l := by
    rcases List.mem_cons.1 h with h | h
    ·exact absurd h.symm e
    ·exact h
   obtain ⟨a, b, rfl, hb⟩ := first10 l h1
   exact ⟨x :: a, b, rfl, by simp only [List.mem_cons, not_or]; exact ⟨fun h => e h.symm, hb⟩⟩
theorem words_cut (r : ByteArray) : (cutB r = false ∧ wordsB 10 r = [r]) ∨ (cutB r = true ∧ wordsB 10 r = cutX r :: wordsB 10 (cutM r) ∧ (cutM r).size < r.size) := by
 have hsz : r.data.toList.length = r.size := by simp
 by_cases h : (10 : UInt8) ∈ r.data.toList
 ·right
  obtain ⟨a, b, hab, ha⟩ := first10 _ h
  have hc := cut_app (c := 10) b ha
  rw [← hab] at hc
  have hl := congrArg List.length hab
  rw [List.length_append, List.length_cons] at hl
  refine ⟨by rw [cutB, hc], ?_, ?_⟩
  ·have h1 : wordsB 10 r = (a :: cutL 10 b).map fun l => (⟨l.toArray⟩ : ByteArray) := by rw [wordsB, hab, cutL_app ha]
   rw [h1, cutX, cutM, hc]
   simp [wordsB]
  ·have : (cutM r).size = b.length := by rw [cutM, hc]; rfl
   omega
 ·left
  have hc := cut_free h
  refine ⟨by rw [cutB, hc], ?_⟩
  rw [wordsB, cutL_free h]
  simp
theorem cutX_le (r : ByteArray) : (cutX r).size ≤ r.size := by
 rcases words_cut r with ⟨_, _⟩ | ⟨_, h, _⟩
 ·have h1 := wordsB_each 10 r
  by_cases h : (10 : UInt8) ∈ r.data.toList
  ·obtain ⟨a, b, hab, ha⟩ := first10 _ h
   have hc := cut_app (c := 10) b ha
   rw [← hab] at hc
   have hl := congrArg List.length hab
   rw [List.length_append, List.length_cons] at hl
   have hs : (cutX r).size = a.length := by rw [cutX, hc]; rfl
   have hsz : r.data.toList.length = r.size := by simp
   omega
  ·have hc := cut_free h
   have hs : (cutX r).size = r.data.toList.length := by rw [cutX, hc]; rfl
   have hsz : r.data.toList.length = r.size := by simp
   omega
 ·exact wordsB_each 10 r _ (by rw [h]; simp)
theorem cutM_lt {r : ByteArray} (h : cutB r = true) : (cutM r).size < r.size := by
 rcases words_cut r with ⟨h1, _⟩ | ⟨_, _, h2⟩
 ·rw [h1] at h; cases h
 ·exact h2
theorem badAt_app : ∀ (p q : List ByteArray) (i : Nat), badAt i p = i + p.length → badAt i (p ++ q) = badAt (i + p.length) q
 | [], q, i, _ => rfl
 | x :: p, q, i, h => by
  unfold badAt at h
  split at h
  ·rename_i hg
   rw [List.cons_append, badAt, if_pos hg, badAt_app p q (i + 1) (by rw [h, List.length_cons]; omega), List.length_cons]
   congr 1; omega
  ·rw [List.length_cons] at h; omega
theorem words_nil : wordsB 10 ⟨#[]⟩ = [⟨#[]⟩] := by decide
structure LSt (t : ByteArray) (pre : List ByteArray) (r : ByteArray) : Prop where
 words : wordsB 10 t = pre ++ wordsB 10 r
 good : badAt 0 pre = pre.length
 size : r.size ≤ t.size
section
variable {t : ByteArray} {pre : List ByteArray} {r : ByteArray}
theorem LSt.start (t : ByteArray) : LSt t [] t := ⟨rfl, rfl, Nat.le_refl _⟩
theorem LSt.next (h : LSt t pre r) (hb : cutB r = true) (hg : goodL pre.length (cutX r) = true) : LSt t (pre ++ [cutX r]) (cutM r) := by
 rcases words_cut r with ⟨h1, _⟩ | ⟨_, h1, h2⟩
 ·rw [h1] at hb; cases hb
 ·refine ⟨by rw [h.words, h1, List.append_assoc]; rfl, ?_, by have := h.size; omega⟩
  have := badAt_app pre [cutX r] 0 (by rw [h.good]; omega)
  rw [this, Nat.zero_add, badAt, if_pos hg, badAt]
  simp
theorem LSt.short (h : LSt t pre r) : pre.length ≤ t.size := by
 have := wordsB_le 10 t
 have h1 := wordsB_ne 10 r
 have h2 : 0 < (wordsB 10 r).length := List.length_pos_iff.2 h1
 have h3 := congrArg List.length h.words
 rw [List.length_append] at h3
 omega
theorem LSt.last (h : LSt t pre r) (hw : wordsB 10 r = [r]) : linesB t = pre ∧ restB t = r := by
 have hh := h.words
 rw [hw] at hh
 exact ⟨by rw [linesB, hh, List.dropLast_concat], by rw [restB, hh]; simp⟩
theorem LSt.done (h : LSt t pre ⟨#[]⟩) (hne : pre ≠ []) : pGood t = true ∧ linesB t = pre := by
 obtain ⟨e1, e2⟩ := h.last words_nil
 refine ⟨?_, e1⟩
 rw [pGood, e1, e2, h.good]
 cases pre with
 | nil => exact absurd rfl hne
 | cons => simp
theorem LSt.none (h : LSt t [] ⟨#[]⟩) : pGood t = false ∧ pAt t = 0 := by
 obtain ⟨e1, e2⟩ := h.last words_nil
 have hg : pGood t = false := by rw [pGood, e1]; simp
 exact ⟨hg, by rw [pAt, if_neg (by rw [hg]; simp), e1]; rfl⟩
theorem LSt.open_ (h : LSt t pre r) (hr : r.data.toList ≠ []) (hb : cutB r = false) : pGood t = false ∧ pAt t = pre.length := by
 rcases words_cut r with ⟨_, h1⟩ | ⟨h1, _⟩
 ·obtain ⟨e1, e2⟩ := h.last h1
  have hg : pGood t = false := by
   rw [pGood, e2]
   cases hd : r.data.toList with
   | nil => exact absurd hd hr
   | cons => simp
  exact ⟨hg, by rw [pAt, if_neg (by rw [hg]; simp), e1, h.good]⟩
 ·rw [h1] at hb; cases hb
theorem LSt.bad (h : LSt t pre r) (hb : cutB r = true) (hg : goodL pre.length (cutX r) = false) : pGood t = false ∧ pAt t = pre.length := by
 rcases words_cut r with ⟨h1, _⟩ | ⟨_, h1, _⟩
 ·rw [h1] at hb; cases hb
 ·obtain ⟨q, hq⟩ : ∃ q, linesB t = pre ++ cutX r :: q := by
   refine ⟨(wordsB 10 (cutM r)).dropLast, ?_⟩
   have hne := wordsB_ne 10 (cutM r)
   rw [linesB, h.words, h1, List.dropLast_append_of_ne_nil (by simp)]
   congr 1
   cases hw : wordsB 10 (cutM r) with
   | nil => exact absurd hw hne
   | cons => rfl
  have hat : badAt 0 (linesB t) = pre.length := by
   rw [hq, badAt_app pre _ 0 (by rw [h.good]; omega), Nat.zero_add, badAt, if_neg (by rw [hg]; simp)]
  have hgd : pGood t = false := by
   rw [pGood, hat, hq]
   have : (pre.length == (pre ++ cutX r :: q).length) = false := by simp
   rw [this]; rfl
  exact ⟨hgd, by rw [pAt, if_neg (by rw [hgd]; simp), hat]⟩
end
def pS (t : ByteArray) (i : Nat) : Int := if pGood t then (nW (hdW (linesB t)) i : Nat) else 0
theorem actRes_bd (x : ByteArray) (hx : x.size ≤ 200000) : ABd (actRes x) := by
 unfold actRes
 split
 ·have hw : ∀ y ∈ wordsB 32 x, y.size ≤ 200000 := fun y hy => Nat.le_trans (wordsB_each 32 x y hy) hx
  obtain ⟨h1, h2, h3, h4, h5, h6⟩ := acV_bd (aKOf (hdW (wordsB 32 x))) (aKOf_le _) (isForce (hdW (wordsB 32 x))) (wordsB 32 x) hw
  exact ⟨h1, by unfold acX; omega, by unfold acX; omega, by unfold acX; omega, by unfold acX; omega, Nat.le_trans h4 (by omega), Nat.le_trans h5 (by omega), ⟨fun n hn => by have := h6 n hn; omega, fun n hn => by have := h6 n hn; omega⟩⟩
 ·exact ⟨⟨by decide, by decide, by decide, by decide, by decide, by decide, by decide, by decide, by decide, by decide⟩, by decide, by decide, by decide, by decide, by decide, by decide, ⟨fun n hn => by simp [zA] at hn, fun n hn => by simp [zA] at hn⟩⟩
theorem stageOf_row (s : ByteArray) (hs : s.size ≤ 800000) (G : Bool) (hG : goodSt s = G) (m0 m1 d0 d1 g E : Int) (h0 : (if G then (nW s 1 : Int) else 0) = m0) (h1 : (if G then (nW s 3 : Int) else 0) = m1) (h2 : (if G then (nW s 2 : Int) else 0) = d0) (h3 : (if G then (nW s 4 : Int) else 0) = d1) (h4 : (if G then (nW s 5 : Int) else 0) = g) (hE : (if G then (0 : Int) else 4) = E) (w : World) [hk : Tb w] [hm : Ml w] :
  Calls Tryz.prog 65 #[.string s] w fun e w' => e = .returned (.tuple #[.agg #[.int .i64 m0, .int .i64 m1, .int .i64 d0, .int .i64 d1, .int .i64 g], .int .i64 E]) ∧ Gr w w' := by
 have h := stageOf_any s (by omega) w
 subst hG h0 h1 h2 h3 h4 hE
 cases hg : goodSt s
 ·rw [← st_no hg] at h; simpa [hg] using h
 ·rw [← st_yes hg] at h; simpa [hg] using h
theorem hdW_app {p q : List ByteArray} (h : p ≠ []) : hdW (p ++ q) = hdW p := by
 cases p with
 | nil => exact absurd rfl h
 | cons x p => rfl
structure RA (base : Nat) (W : World) (v : Value) (xs : List AM) : Prop where
 own : OwnA base W v xs
 oks : ∀ x ∈ xs, x.Ok W
theorem RA.set_ {base : Nat} {W : World} {v : Value} {xs : List AM} (h : RA base W v xs) (B o : Nat) (u : Value) {cs : Array Value} [hB : BlockAt W B cs 58] : RA base (W.setCell ⟨B, o, none⟩ u) v xs :=
 ⟨h.own.set_ B o u (by decide), fun x hx => by
  obtain ⟨bd, n0, n1, m0, m1, ld, bq, d, lv, bv, pk, vv⟩ := h.oks x hx
  exact ⟨bd, n0, n1, m0, m1, ld, bq, d.imp fun _ z => z.set_ B o u (by decide), lv, bv, pk, vv.imp fun _ z => z.set_ B o u (by decide)⟩⟩
theorem RA.gr {base : Nat} {W W' : World} {v : Value} {xs : List AM} (h : RA base W v xs) (g : Gr W W') : RA base W' v xs := ⟨h.own.gr g, fun x hx => (h.oks x hx).gr g⟩
theorem RA.row {base : Nat} {W : World} {A : Option Addr} {n c : Nat} {xs : List AM} (h : RA base W (.slice A n c) xs) : RowA W A (xs.map (·.a)) := by
 obtain ⟨A2, c2, e, _, hr⟩ := h.own.row h.oks
 cases e
 exact hr
theorem RA.put {base : Nat} {W W' : World} {v v' : Value} {xs : List AM} {y : AM} (h : RA base W v xs) (hy : y.Ok W) (a : AppA base W xs y v' W') : RA base W' v' (xs ++ [y]) :=
 ⟨a.own, fun x hx => by
  rcases List.mem_append.1 hx with hx | hx
  ·exact (h.oks x hx).keep a.keep
  ·obtain rfl : x = y := by simpa using hx
   exact hy.keep a.keep⟩
set_option maxRecDepth 100000 in
set_option maxHeartbeats 8000000 in
theorem parse_any (t : ByteArray) (ht : t.size ≤ 200000) (w : World) [hk : Tb w] [hml : Ml w] : Calls Tryz.prog 26 #[.string t] w fun e w' => ∃ A q, e = .returned (.tuple #[.agg #[.int .i64 (pS t 1), .int .i64 (pS t 3), .int .i64 (pS t 2), .int .i64 (pS t 4), .int .i64 (pS t 5), .slice A (pActs t).length q], .int .i64 (pAt t), .int .i64 (pE t)]) ∧ (pActs t).length ≤ q ∧ RowA w' A (pActs t) ∧ Gr w w' := by
 have hsz : ¬ (16777216 : Int) < (t.size : Int) := by omega
 have hno : pGood t = false → pS t 1 = 0 ∧ pS t 3 = 0 ∧ pS t 2 = 0 ∧ pS t 4 = 0 ∧ pS t 5 = 0 ∧ pActs t = [] ∧ pE t = 4 := fun h => by simp [pS, pActs, pAt, pE, h]
 have hyes : pGood t = true → pS t 1 = (nW (hdW (linesB t)) 1 : Nat) ∧ pS t 3 = (nW (hdW (linesB t)) 3 : Nat) ∧ pS t 2 = (nW (hdW (linesB t)) 2 : Nat) ∧ pS t 4 = (nW (hdW (linesB t)) 4 : Nat) ∧ pS t 5 = (nW (hdW (linesB t)) 5 : Nat) ∧ pActs t = (linesB t).tail.map actRes ∧ pAt t = 0 ∧ pE t = 0 := fun h => by simp [pS, pActs, pAt, pE, h]
 have HNO := Lib.hid hno; have HYES := Lib.hid hyes; have HT := Lib.hid ht
 clear hno hyes ht
 obtain ⟨W1, hW1⟩ : ∃ W1, w.alloc (.cells #[.int .i64 0, .int .i64 0, .int .i64 0, .int .i64 0, .int .i64 0, .slice none 0 0] 58) = W1 := ⟨_, rfl⟩
 have hn1 : W1.heap.size = w.heap.size + 1 := by rw [← hW1]; simp
 go_enter Tryz.func26, Tryz.ntmps26
 go_wp2
 go_step3
 go_wp2
 go_step3
 go_wp2
 have HN1 := Lib.hid hn1; have HW1 := Lib.hid hW1
 have hgw : Gr w W1 := by rw [← hW1]; exact gri
 haveI htb1 : Tb W1 := by rw [← hW1]; infer_instance
 haveI hml1 : Ml W1 := by rw [← hW1]; infer_instance
 have HTB := Lib.hid (fun W (h : Gr W1 W) => (htb1.of_below h.below : Tb W))
 have HML := Lib.hid (fun W (h : Gr W1 W) => (hml1.keep (h.below.block _ (by have := htb1.size; omega)) : Ml W))
 go_loopw [6, 7, 8] (fun nv ev rv wr => ∃ (i : Nat) (pre : List ByteArray) (r : ByteArray) (m0 m1 d0 d1 g : Int) (xs : List AM) (v : Value), nv = .int .i64 i ∧ ev = .int .i64 0 ∧ rv = .string r ∧ pre.length = i ∧ LSt t pre r ∧ (0 < i → m0 = (nW (hdW pre) 1 : Nat) ∧ m1 = (nW (hdW pre) 3 : Nat) ∧ d0 = (nW (hdW pre) 2 : Nat) ∧ d1 = (nW (hdW pre) 4 : Nat) ∧ g = (nW (hdW pre) 5 : Nat)) ∧ BlockAt wr (w.heap.size + 1) #[.int .i64 m0, .int .i64 m1, .int .i64 d0, .int .i64 d1, .int .i64 g, v] 58 ∧ OwnA (w.heap.size + 2) wr v xs ∧ (∀ x ∈ xs, x.Ok wr) ∧ xs.map (·.a) = pre.tail.map actRes ∧ Gr W1 wr ∧ w.heap.size + 2 ≤ wr.heap.size) (fun _ _ rv _ => strLen rv)
 case atStart => exact ⟨0, [], t, 0, 0, 0, 0, 0, [], .slice none 0 0, rfl, rfl, rfl, rfl, LSt.start t, fun h => absurd h (Nat.lt_irrefl _), by rw [← hn1]; infer_instance, OwnA.nil _ _, (fun x hx => by simp at hx), rfl, gri, by simp [hn1]⟩
 case round =>
  obtain ⟨i, pre, r, m0, m1, d0, d1, g, xs, v, rfl, rfl, rfl, hpl, hst, hnum, bX, hown, hoks, hmap, hgr, hsz2⟩ := hrel
  have HGR := Lib.hid hgr; have HOW := Lib.hid hown; have HOK := Lib.hid hoks; have HMAP := Lib.hid hmap; have HST := Lib.hid hst; have HNUM := Lib.hid hnum; have HSZ := Lib.hid hsz2; have HPL := Lib.hid hpl
  clear hgr hown hoks hmap hst hnum hsz2 hpl
  haveI : Tb wr := HTB.out _ HGR.out
  haveI : Ml wr := HML.out _ HGR.out
  haveI : Old (w.heap.size + 1) wr := bX.old
  haveI : Old w.heap.size wr := ⟨by have := HSZ.out; omega⟩
  have HCUT := Lib.hid (fun W (hm : Ml W) => (show Calls Tryz.prog 64 #[.string r, .string ⟨#[10]⟩] W (fun e w' => e = .returned (.tuple #[.string (cutX r), .string (cutM r), .bool (cutB r)]) ∧ Gr W w') from cut_any r W (by have := HST.out.size; have := HT.out; omega)))
  have hrs : r.size ≤ 200000 := Nat.le_trans HST.out.size HT.out
  have hxs : (cutX r).size ≤ 200000 := Nat.le_trans (cutX_le r) hrs
  have HRS := Lib.hid hrs; have HXS := Lib.hid hxs; clear hrs hxs
  have bR : BlockAt wr w.heap.size #[.int .i64 0, .int .i64 0, .int .i64 0, .int .i64 0, .int .i64 0, .slice none 0 0] 58 := by
   have h1 : BlockAt W1 w.heap.size #[.int .i64 0, .int .i64 0, .int .i64 0, .int .i64 0, .int .i64 0, .slice none 0 0] 58 := by rw [← HW1.out]; infer_instance
   exact h1.gr HGR.out
  have y0 : wr.cell? ⟨w.heap.size, 0, none⟩ = some (.int .i64 0) := (@block_cells _ _ 0 _ _ bR).trans rfl
  have y1 : wr.cell? ⟨w.heap.size, 1, none⟩ = some (.int .i64 0) := (@block_cells _ _ 1 _ _ bR).trans rfl
  have y2 : wr.cell? ⟨w.heap.size, 2, none⟩ = some (.int .i64 0) := (@block_cells _ _ 2 _ _ bR).trans rfl
  have y3 : wr.cell? ⟨w.heap.size, 3, none⟩ = some (.int .i64 0) := (@block_cells _ _ 3 _ _ bR).trans rfl
  have y4 : wr.cell? ⟨w.heap.size, 4, none⟩ = some (.int .i64 0) := (@block_cells _ _ 4 _ _ bR).trans rfl
  have y5 : wr.cell? ⟨w.heap.size, 5, none⟩ = some (.slice none 0 0) := (@block_cells _ _ 5 _ _ bR).trans rfl
  have z0 : wr.frozen? ⟨w.heap.size, 0, none⟩ = false := @block_frozen _ _ 0 _ _ bR
  have z1 : wr.frozen? ⟨w.heap.size, 1, none⟩ = false := @block_frozen _ _ 1 _ _ bR
  have z2 : wr.frozen? ⟨w.heap.size, 2, none⟩ = false := @block_frozen _ _ 2 _ _ bR
  have z3 : wr.frozen? ⟨w.heap.size, 3, none⟩ = false := @block_frozen _ _ 3 _ _ bR
  have z4 : wr.frozen? ⟨w.heap.size, 4, none⟩ = false := @block_frozen _ _ 4 _ _ bR
  have z5 : wr.frozen? ⟨w.heap.size, 5, none⟩ = false := @block_frozen _ _ 5 _ _ bR
  obtain ⟨Av, cv, rfl, hcv, hrow⟩ := HOW.out.row HOK.out
  have x0 : wr.cell? ⟨w.heap.size + 1, 0, none⟩ = some (.int .i64 m0) := (@block_cells _ _ 0 _ _ bX).trans rfl
  have x1 : wr.cell? ⟨w.heap.size + 1, 1, none⟩ = some (.int .i64 m1) := (@block_cells _ _ 1 _ _ bX).trans rfl
  have x2 : wr.cell? ⟨w.heap.size + 1, 2, none⟩ = some (.int .i64 d0) := (@block_cells _ _ 2 _ _ bX).trans rfl
  have x3 : wr.cell? ⟨w.heap.size + 1, 3, none⟩ = some (.int .i64 d1) := (@block_cells _ _ 3 _ _ bX).trans rfl
  have x4 : wr.cell? ⟨w.heap.size + 1, 4, none⟩ = some (.int .i64 g) := (@block_cells _ _ 4 _ _ bX).trans rfl
  have x5 : wr.cell? ⟨w.heap.size + 1, 5, none⟩ = some (.slice Av xs.length cv) := (@block_cells _ _ 5 _ _ bX).trans rfl
  have u0 : wr.frozen? ⟨w.heap.size + 1, 0, none⟩ = false := @block_frozen _ _ 0 _ _ bX
  have u1 : wr.frozen? ⟨w.heap.size + 1, 1, none⟩ = false := @block_frozen _ _ 1 _ _ bX
  have u2 : wr.frozen? ⟨w.heap.size + 1, 2, none⟩ = false := @block_frozen _ _ 2 _ _ bX
  have u3 : wr.frozen? ⟨w.heap.size + 1, 3, none⟩ = false := @block_frozen _ _ 3 _ _ bX
  have u4 : wr.frozen? ⟨w.heap.size + 1, 4, none⟩ = false := @block_frozen _ _ 4 _ _ bX
  have u5 : wr.frozen? ⟨w.heap.size + 1, 5, none⟩ = false := @block_frozen _ _ 5 _ _ bX
  have BR := Lib.hid bR; have BX := Lib.hid bX; have HROW := Lib.hid hrow; have HCV := Lib.hid hcv
  clear bR bX hrow hcv
  haveI : GrC w wr := ⟨(Gr.trans (by rw [← HW1.out]; exact gri) HGR.out).below⟩
  by_cases hr0 : r.data.toList = []
  ·have hre : r.toList.isEmpty = true := by rw [Lib.toList_data, hr0]; rfl
   have hr1 : r = ⟨#[]⟩ := by cases r; simp_all
   have hst9 : LSt t pre ⟨#[]⟩ := by rw [← hr1]; exact HST.out
   have HST9 := Lib.hid hst9
   clear hr0 hr1 hst9 HST
   rcases Nat.eq_zero_or_pos i with hi | hi
   ·subst hi
    obtain rfl : pre = [] := List.eq_nil_of_length_eq_zero HPL.out
    have HG := Lib.hid HST9.out.none
    go_wp2
    rw [Exit.noGoto_ret]
    (try rw [Exit.noGoto_ret]); exact bodyPost_ret (v := .tuple #[.agg #[.int .i64 0, .int .i64 0, .int .i64 0, .int .i64 0, .int .i64 0, .slice none 0 0], .int .i64 0, .int .i64 4]) (by simp [results, Tryz.results26, go_sem, x0, x1, x2, x3, x4, x5, y0, y1, y2, y3, y4, y5, z0, z1, z2, z3, z4, z5, u0, u1, u2, u3, u4, u5]) rfl ⟨none, 0, by obtain ⟨h1, h2, h3, h4, h5, h6, h7⟩ := HNO.out HG.out.1; rw [h1, h2, h3, h4, h5, h6, h7, HG.out.2]; first | rfl | (rw [HPL.out]; rfl), Nat.le_trans (by rw [(HNO.out HG.out.1).2.2.2.2.2.1]; exact Nat.le_refl _) (Nat.le_refl _), by rw [(HNO.out HG.out.1).2.2.2.2.2.1]; exact RowA.nil, gri⟩
   ·have hi9 : ((i : Int) == 0) = false := by simp; omega
    have hne : pre ≠ [] := by rintro rfl; have := HPL.out; simp at this; omega
    have HG := Lib.hid (HST9.out.done hne)
    have hf : pS t 1 = m0 ∧ pS t 3 = m1 ∧ pS t 2 = d0 ∧ pS t 4 = d1 ∧ pS t 5 = g ∧ pActs t = xs.map (·.a) ∧ pAt t = 0 ∧ pE t = 0 := by
     obtain ⟨h1, h2, h3, h4, h5, h6, h7, h8⟩ := HYES.out HG.out.1
     obtain ⟨n1, n2, n3, n4, n5⟩ := HNUM.out hi
     rw [h1, h2, h3, h4, h5, h6, HG.out.2, HMAP.out]
     exact ⟨n1.symm, n2.symm, n3.symm, n4.symm, n5.symm, rfl, h7, h8⟩
    have HF := Lib.hid hf; clear hf hne
    haveI := BR.out
    go_wp2
    rw [Exit.noGoto_ret]
    exact bodyPost_ret (v := .tuple #[.agg #[.int .i64 m0, .int .i64 m1, .int .i64 d0, .int .i64 d1, .int .i64 g, .slice Av xs.length cv], .int .i64 0, .int .i64 0]) (by simp [results, Tryz.results26, go_sem, x0, x1, x2, x3, x4, x5, y0, y1, y2, y3, y4, y5, z0, z1, z2, z3, z4, z5, u0, u1, u2, u3, u4, u5]) rfl ⟨Av, cv, by obtain ⟨h1, h2, h3, h4, h5, h6, h7, h8⟩ := HF.out; rw [h1, h2, h3, h4, h5, h6, h7, h8, List.length_map]; rfl, by rw [HF.out.2.2.2.2.2.1, List.length_map]; exact HCV.out, by rw [HF.out.2.2.2.2.2.1]; exact RA.row ((((((RA.set_ ⟨HOW.out, HOK.out⟩ w.heap.size 0 _).set_ w.heap.size 1 _).set_ w.heap.size 2 _).set_ w.heap.size 3 _).set_ w.heap.size 4 _).set_ w.heap.size 5 _), gri⟩
  ·have hre : r.toList.isEmpty = false := by
    rw [Lib.toList_data]
    cases hd : r.data.toList with
    | nil => exact absurd hd hr0
    | cons => rfl
   have HR0 := Lib.hid hr0; clear hr0
   rcases Nat.eq_zero_or_pos i with hi | hi
   ·subst hi
    obtain rfl : pre = [] := List.eq_nil_of_length_eq_zero HPL.out
    obtain rfl : xs = [] := by have := HMAP.out; simpa using this
    obtain ⟨a1, ha1⟩ : ∃ a : Int, ((nW (cutX r) 1 : Nat) : Int) = a := ⟨_, rfl⟩
    obtain ⟨a2, ha2⟩ : ∃ a : Int, ((nW (cutX r) 2 : Nat) : Int) = a := ⟨_, rfl⟩
    obtain ⟨a3, ha3⟩ : ∃ a : Int, ((nW (cutX r) 3 : Nat) : Int) = a := ⟨_, rfl⟩
    obtain ⟨a4, ha4⟩ : ∃ a : Int, ((nW (cutX r) 4 : Nat) : Int) = a := ⟨_, rfl⟩
    obtain ⟨a5, ha5⟩ : ∃ a : Int, ((nW (cutX r) 5 : Nat) : Int) = a := ⟨_, rfl⟩
    have HA := Lib.hid (And.intro ha1 (And.intro ha2 (And.intro ha3 (And.intro ha4 ha5))))
    rcases Bool.eq_false_or_eq_true (goodSt (cutX r)) with hG | hG
    ·have HSO := Lib.hid (fun W (_ : Tb W) (_ : Ml W) => stageOf_row (cutX r) (by have := HXS.out; omega) true hG a1 a3 a2 a4 a5 0 ha1 ha3 ha2 ha4 ha5 rfl W)
     clear ha1 ha2 ha3 ha4 ha5
     rcases Bool.eq_false_or_eq_true (cutB r) with hC | hC
     ·rw [hC] at HCUT
      have HNX := Lib.hid (HST.out.next hC hG)
      go_wp2_with (first | (go_at_call 64; ((with_reducible refine (HCUT.out _ inferInstance).mono ?_); rintro _ _ ⟨rfl, g1, rfl⟩)) | (go_at_call 65; ((with_reducible refine (HSO.out _ inferInstance inferInstance).mono ?_); rintro _ _ ⟨rfl, g2, rfl⟩)))
      go_roundw
      case rel => exact ⟨1, [cutX r], cutM r, a1, a3, a2, a4, a5, [], .slice Av 0 cv, by go_num, rfl, rfl, rfl, HNX.out, fun _ => ⟨HA.out.1.symm, HA.out.2.2.1.symm, HA.out.2.1.symm, HA.out.2.2.2.1.symm, HA.out.2.2.2.2.symm⟩, by haveI := BX.out; show BlockAt _ _ #[.int .i64 a1, .int .i64 a3, .int .i64 a2, .int .i64 a4, .int .i64 a5, .slice Av 0 cv] _; infer_instance, (by haveI := BX.out; exact ((((((RA.gr ⟨HOW.out, HOK.out⟩ gri).set_ (w.heap.size + 1) 0 _).set_ (w.heap.size + 1) 1 _).set_ (w.heap.size + 1) 2 _).set_ (w.heap.size + 1) 3 _).set_ (w.heap.size + 1) 4 _).own), (fun x hx => by simp at hx), rfl, Gr.of (by have hz := HN1.out; (with_reducible repeat (first | exact HGR.out.below | apply below_alloc | refine below_set_le ?_ (by omega) _ | refine below_trans ?_ (grown_below _ _) | apply Below.drew))), (inferInstance : Old (w.heap.size + 1) _).lt⟩
      case measure => exact cutM_lt hC
     ·rw [hC] at HCUT
      have HG := Lib.hid (HST.out.open_ HR0.out hC)
      go_wp2_with (first | (go_at_call 64; ((with_reducible refine (HCUT.out _ inferInstance).mono ?_); rintro _ _ ⟨rfl, g1, rfl⟩)) | (go_at_call 65; ((with_reducible refine (HSO.out _ inferInstance inferInstance).mono ?_); rintro _ _ ⟨rfl, g2, rfl⟩)))
      (try rw [Exit.noGoto_ret]); exact bodyPost_ret (v := .tuple #[.agg #[.int .i64 0, .int .i64 0, .int .i64 0, .int .i64 0, .int .i64 0, .slice none 0 0], .int .i64 0, .int .i64 4]) (by simp [results, Tryz.results26, go_sem, x0, x1, x2, x3, x4, x5, y0, y1, y2, y3, y4, y5, z0, z1, z2, z3, z4, z5, u0, u1, u2, u3, u4, u5]) rfl ⟨none, 0, by obtain ⟨h1, h2, h3, h4, h5, h6, h7⟩ := HNO.out HG.out.1; rw [h1, h2, h3, h4, h5, h6, h7, HG.out.2]; first | rfl | (rw [HPL.out]; rfl), Nat.le_trans (by rw [(HNO.out HG.out.1).2.2.2.2.2.1]; exact Nat.le_refl _) (Nat.le_refl _), by rw [(HNO.out HG.out.1).2.2.2.2.2.1]; exact RowA.nil, gri⟩
    ·have HSO := Lib.hid (fun W (_ : Tb W) (_ : Ml W) => stageOf_row (cutX r) (by have := HXS.out; omega) false hG 0 0 0 0 0 4 rfl rfl rfl rfl rfl rfl W)
     clear ha1 ha2 ha3 ha4 ha5
     rcases Bool.eq_false_or_eq_true (cutB r) with hC | hC
     ·rw [hC] at HCUT
      have HG := Lib.hid (HST.out.bad hC hG)
      go_wp2_with (first | (go_at_call 64; ((with_reducible refine (HCUT.out _ inferInstance).mono ?_); rintro _ _ ⟨rfl, g1, rfl⟩)) | (go_at_call 65; ((with_reducible refine (HSO.out _ inferInstance inferInstance).mono ?_); rintro _ _ ⟨rfl, g2, rfl⟩)))
      (try rw [Exit.noGoto_ret]); exact bodyPost_ret (v := .tuple #[.agg #[.int .i64 0, .int .i64 0, .int .i64 0, .int .i64 0, .int .i64 0, .slice none 0 0], .int .i64 0, .int .i64 4]) (by simp [results, Tryz.results26, go_sem, x0, x1, x2, x3, x4, x5, y0, y1, y2, y3, y4, y5, z0, z1, z2, z3, z4, z5, u0, u1, u2, u3, u4, u5]) rfl ⟨none, 0, by obtain ⟨h1, h2, h3, h4, h5, h6, h7⟩ := HNO.out HG.out.1; rw [h1, h2, h3, h4, h5, h6, h7, HG.out.2]; first | rfl | (rw [HPL.out]; rfl), Nat.le_trans (by rw [(HNO.out HG.out.1).2.2.2.2.2.1]; exact Nat.le_refl _) (Nat.le_refl _), by rw [(HNO.out HG.out.1).2.2.2.2.2.1]; exact RowA.nil, gri⟩
     ·rw [hC] at HCUT
      have HG := Lib.hid (HST.out.open_ HR0.out hC)
      go_wp2_with (first | (go_at_call 64; ((with_reducible refine (HCUT.out _ inferInstance).mono ?_); rintro _ _ ⟨rfl, g1, rfl⟩)) | (go_at_call 65; ((with_reducible refine (HSO.out _ inferInstance inferInstance).mono ?_); rintro _ _ ⟨rfl, g2, rfl⟩)))
      (try rw [Exit.noGoto_ret]); exact bodyPost_ret (v := .tuple #[.agg #[.int .i64 0, .int .i64 0, .int .i64 0, .int .i64 0, .int .i64 0, .slice none 0 0], .int .i64 0, .int .i64 4]) (by simp [results, Tryz.results26, go_sem, x0, x1, x2, x3, x4, x5, y0, y1, y2, y3, y4, y5, z0, z1, z2, z3, z4, z5, u0, u1, u2, u3, u4, u5]) rfl ⟨none, 0, by obtain ⟨h1, h2, h3, h4, h5, h6, h7⟩ := HNO.out HG.out.1; rw [h1, h2, h3, h4, h5, h6, h7, HG.out.2]; first | rfl | (rw [HPL.out]; rfl), Nat.le_trans (by rw [(HNO.out HG.out.1).2.2.2.2.2.1]; exact Nat.le_refl _) (Nat.le_refl _), by rw [(HNO.out HG.out.1).2.2.2.2.2.1]; exact RowA.nil, gri⟩
   ·have hi9 : ((i : Int) == 0) = false := by simp; omega
    have HI := Lib.hid hi
    have hne : pre ≠ [] := by rintro rfl; have := HPL.out; simp at this; omega
    have HNE := Lib.hid hne; clear hi hne
    have HAO := Lib.hid (fun W (_ : Tb W) (_ : Ml W) => actOf_own (cutX r) HXS.out W)
    have hle : i ≤ 200001 := by have := HST.out.short; have := HPL.out; have := HT.out; omega
    have hlen : xs.length + 1 = i := by
     have h1 := congrArg List.length HMAP.out
     have h2 := HPL.out
     have h3 := HI.out
     simp only [List.length_map, List.length_tail] at h1
     omega
    have hbd := actRes_bd (cutX r) HXS.out
    have hgl : goodL pre.length (cutX r) = (decide (i ≤ 5000) && goodA (cutX r)) := by rw [goodL, if_neg (by have := HPL.out; have := HI.out; omega), HPL.out]
    obtain ⟨a9, hA9⟩ : ∃ a9, actRes (cutX r) = a9 := ⟨_, rfl⟩
    obtain ⟨E9, hE9⟩ : ∃ E9, actE (cutX r) = E9 := ⟨_, rfl⟩
    rw [hA9, hE9] at HAO
    rw [hA9] at hbd
    obtain ⟨ak, an, am, ⟨ok, ov, ot, os, oa, oc, od⟩, af, ap⟩ := a9
    have HAO := Lib.hid (fun W (h1 : Tb W) (h2 : Ml W) => (show Calls Tryz.prog 19 #[.string (cutX r)] W (fun e w' => ∃ Ad qd Av qv, e = .returned (.tuple #[.agg #[.int .i64 ak, .int .i64 an, .int .i64 am, .int .i64 ok, .int .u64 ov, .int .u64 ot, .int .i64 os, .int .i64 oa, .int .i64 oc, .slice Ad od.length qd, .bool af, .slice Av ap.length qv], .int .i64 E9]) ∧ od.length ≤ qd ∧ (∃ b, OwnR bv 5 b w' (.slice Ad od.length qd) od) ∧ ap.length ≤ qv ∧ (∃ b, OwnR (Value.int .i64) 3 b w' (.slice Av ap.length qv) ap) ∧ Gr W w') from HAO.out W h1 h2))
    have HLE := Lib.hid hle; have HLN := Lib.hid hlen; have HBD := Lib.hid hbd; have HGL := Lib.hid hgl; have HA9 := Lib.hid hA9
    clear hle hlen hbd hgl hA9
    have hE0 : goodA (cutX r) = true → E9 = 0 := fun h => by rw [← hE9, actE, if_pos h]
    have hE4 : goodA (cutX r) = false → E9 = 4 := fun h => by rw [← hE9, actE, h]; rfl
    clear hE9
    rcases Bool.eq_false_or_eq_true (goodA (cutX r)) with hG | hG
    ·obtain rfl := hE0 hG
     clear hE0 hE4
     go_wp2_with (first | (go_at_call 64; ((with_reducible refine (HCUT.out _ inferInstance).mono ?_); rintro _ _ ⟨rfl, g1, rfl⟩)) | (go_at_call 19; ((with_reducible refine (HAO.out _ inferInstance inferInstance).mono ?_); rintro _ _ ⟨Ad, qd, Ap, qp, rfl, hd1, hd2, hp1, hp2, g2, rfl⟩; have HD1 := Lib.hid hd1; have HD2 := Lib.hid hd2; have HP1 := Lib.hid hp1; have HP2 := Lib.hid hp2; clear hd1 hd2 hp1 hp2)) | (at_builtin; refine wp_append_act rfl _ _ rfl (w.heap.size + 2) (.slice Av xs.length cv) xs ?hs1 ?own1 ⟨⟨ak, an, am, ⟨ok, ov, ot, os, oa, oc, od⟩, af, ap⟩, Ad, qd, Ap, qp⟩ _ rfl ?hc1 ?len1 ?base1 ?_))
     case hs1 => rfl
     case own1 => exact HOW.out.gr gri
     case hc1 => show BlockAt _ _ #[.int .i64 ak, .int .i64 an, .int .i64 am, .int .i64 ok, .int .u64 ov, .int .u64 ot, .int .i64 os, .int .i64 oa, .int .i64 oc, .slice Ad od.length qd, .bool af, .slice Ap ap.length qp] 42; infer_instance
     case len1 => have := HLE.out; have := HLN.out; omega
     case base1 => exact Nat.le_trans HSZ.out (gri : Gr wr _).below.size
     intro v4 W4 a4
     have hy : AM.Ok (grown (grown wr g1) g2) ⟨⟨ak, an, am, ⟨ok, ov, ot, os, oa, oc, od⟩, af, ap⟩, Ad, qd, Ap, qp⟩ := ⟨HBD.out.bd, HBD.out.n0, HBD.out.n1, HBD.out.m0, HBD.out.m1, HD1.out, HBD.out.bq, HD2.out, HP1.out, HBD.out.bv, HBD.out.pk, HP2.out⟩
     have hra := RA.put (RA.gr (W := wr) ⟨HOW.out, HOK.out⟩ gri) (hy.gr gri) a4
     obtain ⟨A4, c4, rfl, hc4, _⟩ := hra.own.row hra.oks
     have hl4 : (xs ++ [(⟨⟨ak, an, am, ⟨ok, ov, ot, os, oa, oc, od⟩, af, ap⟩, Ad, qd, Ap, qp⟩ : AM)]).length = i := by have := HLN.out; simpa using this
     have bX4 : BlockAt W4 (w.heap.size + 1) #[.int .i64 m0, .int .i64 m1, .int .i64 d0, .int .i64 d1, .int .i64 g, (.slice Av xs.length cv)] 58 := a4.keep _ _ _ (BX.out.gr gri) (by decide)
     have bR4 : BlockAt W4 w.heap.size #[.int .i64 0, .int .i64 0, .int .i64 0, .int .i64 0, .int .i64 0, .slice none 0 0] 58 := a4.keep _ _ _ (BR.out.gr gri) (by decide)
     haveI : GrC w W4 := ⟨(show GrC w _ from inferInstance).b.trans (a4.below.mono (by omega))⟩
     have hw4 : Gr W1 W4 := Gr.of (((HGR.out.trans gri : Gr W1 _)).below.trans (a4.below.mono (by have := HN1.out; omega)))
     rw [hl4] at hc4
     have hsz4 : w.heap.size + 2 ≤ W4.heap.size := Nat.le_trans (Nat.le_trans HSZ.out (gri : Gr wr _).below.size) a4.size
     have HRA := Lib.hid hra; have HC4 := Lib.hid hc4; have BX4 := Lib.hid bX4; have BR4 := Lib.hid bR4; have HW4 := Lib.hid hw4; have HL4 := Lib.hid hl4; have HSZ4 := Lib.hid hsz4
     rw [hl4]
     haveI : Old (w.heap.size + 1) W4 := bX4.old
     haveI : Old w.heap.size W4 := bR4.old
     clear x0 x1 x2 x3 x4 x5 y0 y1 y2 y3 y4 y5 z0 z1 z2 z3 z4 z5 u0 u1 u2 u3 u4 u5 hy hra a4 hl4 hw4 hsz4 hc4
     have x0 : W4.cell? ⟨w.heap.size + 1, 0, none⟩ = some (.int .i64 m0) := (@block_cells _ _ 0 _ _ bX4).trans rfl
     have u0 : W4.frozen? ⟨w.heap.size + 1, 0, none⟩ = false := @block_frozen _ _ 0 _ _ bX4
     have y0 : W4.cell? ⟨w.heap.size, 0, none⟩ = some (.int .i64 0) := (@block_cells _ _ 0 _ _ bR4).trans rfl
     have z0 : W4.frozen? ⟨w.heap.size, 0, none⟩ = false := @block_frozen _ _ 0 _ _ bR4
     have x1 : W4.cell? ⟨w.heap.size + 1, 1, none⟩ = some (.int .i64 m1) := (@block_cells _ _ 1 _ _ bX4).trans rfl
     have u1 : W4.frozen? ⟨w.heap.size + 1, 1, none⟩ = false := @block_frozen _ _ 1 _ _ bX4
     have y1 : W4.cell? ⟨w.heap.size, 1, none⟩ = some (.int .i64 0) := (@block_cells _ _ 1 _ _ bR4).trans rfl
     have z1 : W4.frozen? ⟨w.heap.size, 1, none⟩ = false := @block_frozen _ _ 1 _ _ bR4
     have x2 : W4.cell? ⟨w.heap.size + 1, 2, none⟩ = some (.int .i64 d0) := (@block_cells _ _ 2 _ _ bX4).trans rfl
     have u2 : W4.frozen? ⟨w.heap.size + 1, 2, none⟩ = false := @block_frozen _ _ 2 _ _ bX4
     have y2 : W4.cell? ⟨w.heap.size, 2, none⟩ = some (.int .i64 0) := (@block_cells _ _ 2 _ _ bR4).trans rfl
     have z2 : W4.frozen? ⟨w.heap.size, 2, none⟩ = false := @block_frozen _ _ 2 _ _ bR4
     have x3 : W4.cell? ⟨w.heap.size + 1, 3, none⟩ = some (.int .i64 d1) := (@block_cells _ _ 3 _ _ bX4).trans rfl
     have u3 : W4.frozen? ⟨w.heap.size + 1, 3, none⟩ = false := @block_frozen _ _ 3 _ _ bX4
     have y3 : W4.cell? ⟨w.heap.size, 3, none⟩ = some (.int .i64 0) := (@block_cells _ _ 3 _ _ bR4).trans rfl
     have z3 : W4.frozen? ⟨w.heap.size, 3, none⟩ = false := @block_frozen _ _ 3 _ _ bR4
     have x4 : W4.cell? ⟨w.heap.size + 1, 4, none⟩ = some (.int .i64 g) := (@block_cells _ _ 4 _ _ bX4).trans rfl
     have u4 : W4.frozen? ⟨w.heap.size + 1, 4, none⟩ = false := @block_frozen _ _ 4 _ _ bX4
     have y4 : W4.cell? ⟨w.heap.size, 4, none⟩ = some (.int .i64 0) := (@block_cells _ _ 4 _ _ bR4).trans rfl
     have z4 : W4.frozen? ⟨w.heap.size, 4, none⟩ = false := @block_frozen _ _ 4 _ _ bR4
     have x5 : W4.cell? ⟨w.heap.size + 1, 5, none⟩ = some (.slice Av xs.length cv) := (@block_cells _ _ 5 _ _ bX4).trans rfl
     have u5 : W4.frozen? ⟨w.heap.size + 1, 5, none⟩ = false := @block_frozen _ _ 5 _ _ bX4
     have y5 : W4.cell? ⟨w.heap.size, 5, none⟩ = some (.slice none 0 0) := (@block_cells _ _ 5 _ _ bR4).trans rfl
     have z5 : W4.frozen? ⟨w.heap.size, 5, none⟩ = false := @block_frozen _ _ 5 _ _ bR4
     clear bX4 bR4
     rcases Bool.eq_false_or_eq_true (cutB r) with hC | hC
     ·by_cases h5 : i ≤ 5000
      ·have hGL : goodL pre.length (cutX r) = true := by rw [HGL.out, hG, decide_eq_true h5]; rfl
       have HNX := Lib.hid (HST.out.next hC hGL)
       have h5i : ¬ (5000 : Int) < (i : Int) := by omega
       go_wp2
       go_roundw
       case rel =>
        haveI := BX4.out
        have hr9 : RA (w.heap.size + 2) W4 (.slice A4 i c4) (xs ++ [⟨⟨ak, an, am, ⟨ok, ov, ot, os, oa, oc, od⟩, af, ap⟩, Ad, qd, Ap, qp⟩]) := by have h := HRA.out; rw [HL4.out] at h; exact h
        have hr8 := hr9.set_ (w.heap.size + 1) 5 (.slice A4 i c4)
        refine ⟨i + 1, pre ++ [cutX r], cutM r, m0, m1, d0, d1, g, xs ++ [⟨⟨ak, an, am, ⟨ok, ov, ot, os, oa, oc, od⟩, af, ap⟩, Ad, qd, Ap, qp⟩], .slice A4 i c4, by go_num, rfl, rfl, by have := HPL.out; simpa using this, HNX.out, fun _ => ?_, by show BlockAt _ _ #[.int .i64 m0, .int .i64 m1, .int .i64 d0, .int .i64 d1, .int .i64 g, .slice A4 i c4] _; infer_instance, hr8.own, hr8.oks, ?_, Gr.of (below_set_le HW4.out.below (by have := HN1.out; omega) _), Nat.le_trans HSZ4.out (by simp [World.setCell])⟩
        ·rw [hdW_app HNE.out]; exact HNUM.out HI.out
        ·rw [List.tail_append_of_ne_nil HNE.out, List.map_append, List.map_append, HMAP.out]
         simp only [List.map_cons, List.map_nil, HA9.out]
       case measure => exact cutM_lt hC
      ·have hGL : goodL pre.length (cutX r) = false := by rw [HGL.out, hG, decide_eq_false h5]; rfl
       have HG := Lib.hid (HST.out.bad hC hGL)
       have h5i : (5000 : Int) < (i : Int) := by omega
       go_wp2
       (try rw [Exit.noGoto_ret]); exact bodyPost_ret (v := .tuple #[.agg #[.int .i64 0, .int .i64 0, .int .i64 0, .int .i64 0, .int .i64 0, .slice none 0 0], .int .i64 i, .int .i64 4]) (by simp [results, Tryz.results26, go_sem, x0, x1, x2, x3, x4, x5, y0, y1, y2, y3, y4, y5, z0, z1, z2, z3, z4, z5, u0, u1, u2, u3, u4, u5]) rfl ⟨none, 0, by obtain ⟨h1, h2, h3, h4, h5, h6, h7⟩ := HNO.out HG.out.1; rw [h1, h2, h3, h4, h5, h6, h7, HG.out.2]; first | rfl | (rw [HPL.out]; rfl), Nat.le_trans (by rw [(HNO.out HG.out.1).2.2.2.2.2.1]; exact Nat.le_refl _) (Nat.le_refl _), by rw [(HNO.out HG.out.1).2.2.2.2.2.1]; exact RowA.nil, gri⟩
     ·have HG := Lib.hid (HST.out.open_ HR0.out hC)
      go_wp2
      (try rw [Exit.noGoto_ret]); exact bodyPost_ret (v := .tuple #[.agg #[.int .i64 0, .int .i64 0, .int .i64 0, .int .i64 0, .int .i64 0, .slice none 0 0], .int .i64 i, .int .i64 4]) (by simp [results, Tryz.results26, go_sem, x0, x1, x2, x3, x4, x5, y0, y1, y2, y3, y4, y5, z0, z1, z2, z3, z4, z5, u0, u1, u2, u3, u4, u5]) rfl ⟨none, 0, by obtain ⟨h1, h2, h3, h4, h5, h6, h7⟩ := HNO.out HG.out.1; rw [h1, h2, h3, h4, h5, h6, h7, HG.out.2]; first | rfl | (rw [HPL.out]; rfl), Nat.le_trans (by rw [(HNO.out HG.out.1).2.2.2.2.2.1]; exact Nat.le_refl _) (Nat.le_refl _), by rw [(HNO.out HG.out.1).2.2.2.2.2.1]; exact RowA.nil, gri⟩
    ·obtain rfl := hE4 hG
     clear hE0 hE4
     have hgood : pGood t = false ∧ pAt t = pre.length := by
      rcases Bool.eq_false_or_eq_true (cutB r) with hC | hC
      ·exact HST.out.bad hC (by rw [HGL.out, hG, Bool.and_false])
      ·exact HST.out.open_ HR0.out hC
     have HG := Lib.hid hgood
     go_wp2_with (first | (go_at_call 64; ((with_reducible refine (HCUT.out _ inferInstance).mono ?_); rintro _ _ ⟨rfl, g1, rfl⟩)) | (go_at_call 19; ((with_reducible refine (HAO.out _ inferInstance inferInstance).mono ?_); rintro _ _ ⟨Ad, qd, Ap, qp, rfl, hd1, hd2, hp1, hp2, g2, rfl⟩; have HD1 := Lib.hid hd1; have HD2 := Lib.hid hd2; have HP1 := Lib.hid hp1; have HP2 := Lib.hid hp2; clear hd1 hd2 hp1 hp2)) | (at_builtin; refine wp_append_act rfl _ _ rfl (w.heap.size + 2) (.slice Av xs.length cv) xs ?hs2 ?own2 ⟨⟨ak, an, am, ⟨ok, ov, ot, os, oa, oc, od⟩, af, ap⟩, Ad, qd, Ap, qp⟩ _ rfl ?hc2 ?len2 ?base2 ?_))
     case hs2 => rfl
     case own2 => exact HOW.out.gr gri
     case hc2 => show BlockAt _ _ #[.int .i64 ak, .int .i64 an, .int .i64 am, .int .i64 ok, .int .u64 ov, .int .u64 ot, .int .i64 os, .int .i64 oa, .int .i64 oc, .slice Ad od.length qd, .bool af, .slice Ap ap.length qp] 42; infer_instance
     case len2 => have := HLE.out; have := HLN.out; omega
     case base2 => exact Nat.le_trans HSZ.out (gri : Gr wr _).below.size
     intro v4 W4 a4
     have hy : AM.Ok (grown (grown wr g1) g2) ⟨⟨ak, an, am, ⟨ok, ov, ot, os, oa, oc, od⟩, af, ap⟩, Ad, qd, Ap, qp⟩ := ⟨HBD.out.bd, HBD.out.n0, HBD.out.n1, HBD.out.m0, HBD.out.m1, HD1.out, HBD.out.bq, HD2.out, HP1.out, HBD.out.bv, HBD.out.pk, HP2.out⟩
     have hra := RA.put (RA.gr (W := wr) ⟨HOW.out, HOK.out⟩ gri) (hy.gr gri) a4
     obtain ⟨A4, c4, rfl, hc4, _⟩ := hra.own.row hra.oks
     have hl4 : (xs ++ [(⟨⟨ak, an, am, ⟨ok, ov, ot, os, oa, oc, od⟩, af, ap⟩, Ad, qd, Ap, qp⟩ : AM)]).length = i := by have := HLN.out; simpa using this
     have bX4 : BlockAt W4 (w.heap.size + 1) #[.int .i64 m0, .int .i64 m1, .int .i64 d0, .int .i64 d1, .int .i64 g, (.slice Av xs.length cv)] 58 := a4.keep _ _ _ (BX.out.gr gri) (by decide)
     have bR4 : BlockAt W4 w.heap.size #[.int .i64 0, .int .i64 0, .int .i64 0, .int .i64 0, .int .i64 0, .slice none 0 0] 58 := a4.keep _ _ _ (BR.out.gr gri) (by decide)
     haveI : GrC w W4 := ⟨(show GrC w _ from inferInstance).b.trans (a4.below.mono (by omega))⟩
     have hw4 : Gr W1 W4 := Gr.of (((HGR.out.trans gri : Gr W1 _)).below.trans (a4.below.mono (by have := HN1.out; omega)))
     rw [hl4] at hc4
     have hsz4 : w.heap.size + 2 ≤ W4.heap.size := Nat.le_trans (Nat.le_trans HSZ.out (gri : Gr wr _).below.size) a4.size
     have HRA := Lib.hid hra; have HC4 := Lib.hid hc4; have BX4 := Lib.hid bX4; have BR4 := Lib.hid bR4; have HW4 := Lib.hid hw4; have HL4 := Lib.hid hl4; have HSZ4 := Lib.hid hsz4
     rw [hl4]
     haveI : Old (w.heap.size + 1) W4 := bX4.old
     haveI : Old w.heap.size W4 := bR4.old
     clear x0 x1 x2 x3 x4 x5 y0 y1 y2 y3 y4 y5 z0 z1 z2 z3 z4 z5 u0 u1 u2 u3 u4 u5 hy hra a4 hl4 hw4 hsz4 hc4
     have x0 : W4.cell? ⟨w.heap.size + 1, 0, none⟩ = some (.int .i64 m0) := (@block_cells _ _ 0 _ _ bX4).trans rfl
     have u0 : W4.frozen? ⟨w.heap.size + 1, 0, none⟩ = false := @block_frozen _ _ 0 _ _ bX4
     have y0 : W4.cell? ⟨w.heap.size, 0, none⟩ = some (.int .i64 0) := (@block_cells _ _ 0 _ _ bR4).trans rfl
     have z0 : W4.frozen? ⟨w.heap.size, 0, none⟩ = false := @block_frozen _ _ 0 _ _ bR4
     have x1 : W4.cell? ⟨w.heap.size + 1, 1, none⟩ = some (.int .i64 m1) := (@block_cells _ _ 1 _ _ bX4).trans rfl
     have u1 : W4.frozen? ⟨w.heap.size + 1, 1, none⟩ = false := @block_frozen _ _ 1 _ _ bX4
     have y1 : W4.cell? ⟨w.heap.size, 1, none⟩ = some (.int .i64 0) := (@block_cells _ _ 1 _ _ bR4).trans rfl
     have z1 : W4.frozen? ⟨w.heap.size, 1, none⟩ = false := @block_frozen _ _ 1 _ _ bR4
     have x2 : W4.cell? ⟨w.heap.size + 1, 2, none⟩ = some (.int .i64 d0) := (@block_cells _ _ 2 _ _ bX4).trans rfl
     have u2 : W4.frozen? ⟨w.heap.size + 1, 2, none⟩ = false := @block_frozen _ _ 2 _ _ bX4
     have y2 : W4.cell? ⟨w.heap.size, 2, none⟩ = some (.int .i64 0) := (@block_cells _ _ 2 _ _ bR4).trans rfl
     have z2 : W4.frozen? ⟨w.heap.size, 2, none⟩ = false := @block_frozen _ _ 2 _ _ bR4
     have x3 : W4.cell? ⟨w.heap.size + 1, 3, none⟩ = some (.int .i64 d1) := (@block_cells _ _ 3 _ _ bX4).trans rfl
     have u3 : W4.frozen? ⟨w.heap.size + 1, 3, none⟩ = false := @block_frozen _ _ 3 _ _ bX4
     have y3 : W4.cell? ⟨w.heap.size, 3, none⟩ = some (.int .i64 0) := (@block_cells _ _ 3 _ _ bR4).trans rfl
     have z3 : W4.frozen? ⟨w.heap.size, 3, none⟩ = false := @block_frozen _ _ 3 _ _ bR4
     have x4 : W4.cell? ⟨w.heap.size + 1, 4, none⟩ = some (.int .i64 g) := (@block_cells _ _ 4 _ _ bX4).trans rfl
     have u4 : W4.frozen? ⟨w.heap.size + 1, 4, none⟩ = false := @block_frozen _ _ 4 _ _ bX4
     have y4 : W4.cell? ⟨w.heap.size, 4, none⟩ = some (.int .i64 0) := (@block_cells _ _ 4 _ _ bR4).trans rfl
     have z4 : W4.frozen? ⟨w.heap.size, 4, none⟩ = false := @block_frozen _ _ 4 _ _ bR4
     have x5 : W4.cell? ⟨w.heap.size + 1, 5, none⟩ = some (.slice Av xs.length cv) := (@block_cells _ _ 5 _ _ bX4).trans rfl
     have u5 : W4.frozen? ⟨w.heap.size + 1, 5, none⟩ = false := @block_frozen _ _ 5 _ _ bX4
     have y5 : W4.cell? ⟨w.heap.size, 5, none⟩ = some (.slice none 0 0) := (@block_cells _ _ 5 _ _ bR4).trans rfl
     have z5 : W4.frozen? ⟨w.heap.size, 5, none⟩ = false := @block_frozen _ _ 5 _ _ bR4
     clear bX4 bR4
     go_wp2
     (try rw [Exit.noGoto_ret]); exact bodyPost_ret (v := .tuple #[.agg #[.int .i64 0, .int .i64 0, .int .i64 0, .int .i64 0, .int .i64 0, .slice none 0 0], .int .i64 i, .int .i64 4]) (by simp [results, Tryz.results26, go_sem, x0, x1, x2, x3, x4, x5, y0, y1, y2, y3, y4, y5, z0, z1, z2, z3, z4, z5, u0, u1, u2, u3, u4, u5]) rfl ⟨none, 0, by obtain ⟨h1, h2, h3, h4, h5, h6, h7⟩ := HNO.out HG.out.1; rw [h1, h2, h3, h4, h5, h6, h7, HG.out.2]; first | rfl | (rw [HPL.out]; rfl), Nat.le_trans (by rw [(HNO.out HG.out.1).2.2.2.2.2.1]; exact Nat.le_refl _) (Nat.le_refl _), by rw [(HNO.out HG.out.1).2.2.2.2.2.1]; exact RowA.nil, gri⟩
theorem strOf_bytes (l : List UInt8) : strOfNums (l.map fun b => ((b.toNat : Nat) : Int)) = ⟨l.toArray⟩ := by
 unfold strOfNums
 congr 2
 rw [List.map_map]
 conv => rhs; rw [← List.map_id l]
 refine List.map_congr_left (fun b _ => ?_)
 show UInt8.ofNat b.toNat = b
 simp
theorem conv_row (A : Option Addr) (n q : Nat) (l : List UInt8) (W : World) (hl : l.length = n) (hr : Row bv W A l) : (convert 24 9 (.slice A n q)).run Tryz.prog W = .ok (.string ⟨l.toArray⟩) W := by
 by_cases h0 : l = []
 ·subst h0
  obtain rfl : n = 0 := by simpa using hl.symm
  cases A with
  | none => exact run_convert_bytes_nil W 24 5 Tryz.underlying24 Tryz.underlying5 0 q 9 Tryz.underlying9
  | some a =>
   rw [run_convert_bytes_string W 24 9 5 (some a) 0 q Tryz.underlying24 Tryz.underlying5 Tryz.underlying9]
   rw [run_bytesToString W a 0 q [] (by simpa using run_loadCells_list (P := Tryz.prog) W a [] (fun j v hj => by simp at hj))]
   rfl
 ·obtain ⟨b, o, rfl, hb, hc⟩ := hr.at_ h0
  rw [run_convert_bytes_arg W 24 5 Tryz.underlying24 Tryz.underlying5 b o n q (l.map fun b => ((b.toNat : Nat) : Int)) (by simpa using hl) (fun i hi => ?_) 9 Tryz.underlying9, strOf_bytes]
  have hil : i < l.length := by omega
  rw [hc i l[i] (List.getElem?_eq_getElem hil)]
  simp [bv, List.getD, List.getElem?_map, List.getElem?_eq_getElem hil]
set_option maxHeartbeats 2000000 in
theorem same13r_any (xk xv xt xs xa xc yk yv yt ys ya yc : Int) (xD yD : Option Addr) (xn xq yn yq : Nat) (lx ly : List UInt8) (w : World) (hx : lx.length = xn) (hy : ly.length = yn) (h1 : Row bv w xD lx) (h2 : Row bv w yD ly) :
  Calls Tryz.prog 12 #[(Value.agg #[.int .i64 xk, .int .u64 xv, .int .u64 xt, .int .i64 xs, .int .i64 xa, .int .i64 xc, .slice xD xn xq]), (Value.agg #[.int .i64 yk, .int .u64 yv, .int .u64 yt, .int .i64 ys, .int .i64 ya, .int .i64 yc, .slice yD yn yq])] w fun e w' => e = .returned (.bool (sameB xk xv xt xs xa xc yk yv yt ys ya yc lx ly)) ∧ Gr w w' := by
 have CV1 : ∀ (W : World) [GrC w W], (convert 24 9 (.slice xD xn xq)).run Tryz.prog W = .ok (.string ⟨lx.toArray⟩) W := fun W hW => conv_row _ _ _ _ _ hx (h1.gr (Gr.of hW.b))
 have CV2 : ∀ (W : World) [GrC w W], (convert 24 9 (.slice yD yn yq)).run Tryz.prog W = .ok (.string ⟨ly.toArray⟩) W := fun W hW => conv_row _ _ _ _ _ hy (h2.gr (Gr.of hW.b))
 clear hx hy h1 h2
 rcases Bool.eq_false_or_eq_true (xk == yk) with k1 | k1
 rotate_left
 ·go_enter Tryz.func12, Tryz.ntmps12
  go_wp2
  go_ret
  exact ⟨ret_bool (by simp [sameB, k1]), gri⟩
 rcases Bool.eq_false_or_eq_true (xv == yv) with k2 | k2
 rotate_left
 ·go_enter Tryz.func12, Tryz.ntmps12
  go_wp2
  go_ret
  exact ⟨ret_bool (by simp [sameB, k2]), gri⟩
 rcases Bool.eq_false_or_eq_true (xt == yt) with k3 | k3
 rotate_left
 ·go_enter Tryz.func12, Tryz.ntmps12
  go_wp2
  go_ret
  exact ⟨ret_bool (by simp [sameB, k3]), gri⟩
 rcases Bool.eq_false_or_eq_true (xs == ys) with k4 | k4
 rotate_left
 ·go_enter Tryz.func12, Tryz.ntmps12
  go_wp2
  go_ret
  exact ⟨ret_bool (by simp [sameB, k4]), gri⟩
 rcases Bool.eq_false_or_eq_true (xa == ya) with k5 | k5
 rotate_left
 ·go_enter Tryz.func12, Tryz.ntmps12
  go_wp2
  go_ret
  exact ⟨ret_bool (by simp [sameB, k5]), gri⟩
 rcases Bool.eq_false_or_eq_true (xc == yc) with k6 | k6
 rotate_left
 ·go_enter Tryz.func12, Tryz.ntmps12
  go_wp2
  go_ret
  exact ⟨ret_bool (by simp [sameB, k6]), gri⟩
 rcases Bool.eq_false_or_eq_true (lx == ly) with k7 | k7
 ·go_enter Tryz.func12, Tryz.ntmps12
  go_wp2
  go_ret
  exact ⟨ret_bool (by simp [sameB, k1, k2, k3, k4, k5, k6, k7]), gri⟩
 ·go_enter Tryz.func12, Tryz.ntmps12
  go_wp2
  go_ret
  exact ⟨ret_bool (by simp [sameB, k1, k2, k3, k4, k5, k6, k7]), gri⟩
theorem hexcut_fin : ∀ i : Fin 16, (⟨#[48, 49, 50, 51, 52, 53, 54, 55, 56, 57, 97, 98, 99, 100, 101, 102]⟩ : ByteArray).extract i.val (i.val + 1) = ⟨#[hexd i.val]⟩ := by decide +kernel
theorem hexcut (i : Nat) (h : i < 16) : (⟨#[48, 49, 50, 51, 52, 53, 54, 55, 56, 57, 97, 98, 99, 100, 101, 102]⟩ : ByteArray).extract i (i + 1) = ⟨#[hexd i]⟩ := hexcut_fin ⟨i, h⟩
theorem u8_wrap (n : Int) : IntKind.u8.wrap n = n % 256 := by simp [IntKind.wrap, IntKind.bits, IntKind.signed]
set_option maxRecDepth 100000 in
set_option maxHeartbeats 2000000 in
theorem rhex_any (A : Option Addr) (n c : Nat) (l : List UInt8) (w : World) (hl : l.length = n) (hnc : n ≤ c) (hn : n ≤ 1000000) (h : Row bv w A l) :
  Calls Tryz.prog 94 #[.slice A n c] w fun e w' => e = .returned (.string ⟨(hexL l).toArray⟩) ∧ Gr w w' := by
 have HL := Lib.hid hl; clear hl
 have H := Lib.hid h; clear h
 go_enter Tryz.func94, Tryz.ntmps94
 go_wp2
 go_loopw [4, 5] (fun v i wr => ∃ k : Nat, i = .int .i64 k ∧ k ≤ n ∧ v = .string ⟨(hexL (l.take k)).toArray⟩ ∧ Gr w wr) (fun _ i _ => n - (intOf i).toNat)
 case atStart => exact ⟨0, rfl, Nat.zero_le _, rfl, Gr.refl _⟩
 case round =>
  obtain ⟨k, rfl, hk, rfl, hg⟩ := hrel
  have HG := Lib.hid hg; clear hg
  by_cases hlt : k < n
  ·have hkx : k < l.length := by have := HL.out; omega
   obtain ⟨x, hx⟩ : ∃ x, l[k]? = some x := ⟨l[k], List.getElem?_eq_getElem hkx⟩
   obtain ⟨b, o, rfl, hb, hc⟩ := (H.out.gr HG.out).at_ (by intro e; subst e; simp at hkx)
   have c1 := hc k x hx
   clear hc
   simp only [bv] at c1
   have HX := Lib.hid hx; clear hx hkx
   have hu := x.toNat_lt
   generalize hxu : x.toNat = u at c1 hu
   have HU := Lib.hid hxu; clear hxu
   have hu2 : u < 256 := by omega
   have hsl : (hexL (l.take k)).length ≤ 2000000 := by rw [hexL_len, List.length_take]; omega
   generalize hhs : hexL (l.take k) = hs at *
   have HHS := Lib.hid hhs; clear hhs
   have q1 : IntKind.u8.wrap ((u : Int) / 16) = ((u / 16 : Nat) : Int) := by rw [u8_wrap]; omega
   have q2 : IntKind.u8.wrap (((u / 16 : Nat) : Int) + 1) = ((u / 16 + 1 : Nat) : Int) := by rw [u8_wrap]; omega
   have r1 : IntKind.u8.wrap ((u : Int) % 16) = ((u % 16 : Nat) : Int) := by rw [u8_wrap]; omega
   have r2 : IntKind.u8.wrap (((u % 16 : Nat) : Int) + 1) = ((u % 16 + 1 : Nat) : Int) := by rw [u8_wrap]; omega
   have x1 := hexcut (u / 16) (by omega)
   have x2 := hexcut (u % 16) (by omega)
   have d1 : u / 16 < 16 := by omega
   have d2 : u % 16 < 16 := by omega
   generalize hua : u / 16 = ua at *
   have HUA := Lib.hid hua; clear hua
   have X2 := Lib.hid x2
   go_wp2
   go_region
   go_wp2
   go_roundw
   case rel =>
    refine ⟨k + 1, by go_num, by omega, ?_, HG.out.trans (Gr.of (Below.refl _ _).drew)⟩
    have e1 : l.take (k + 1) = l.take k ++ [x] := by rw [List.take_add_one, HX.out]; rfl
    rw [e1, hexL_snoc, HHS.out, HU.out, HUA.out]
    have := X2.out
    try simp only [this]
    apply congrArg
    apply ByteArray.ext
    simp
   case measure => simp [intOf]; omega
  ·have hkn : k = n := by omega
   have e1 : l.take k = l := List.take_of_length_le (by have := HL.out; omega)
   rw [e1]
   go_wp2
   go_ret
   exact ⟨rfl, HG.out⟩
theorem join_snoc44 (ls : List (List UInt8)) (hne : ls ≠ []) (x : List UInt8) : Lib.join (ls ++ [x]) [44] = Lib.join ls [44] ++ [44] ++ x := by
 induction ls with
 | nil => exact absurd rfl hne
 | cons a ls ih =>
  cases ls with
  | nil => simp [join_one, join_two]
  | cons b ls =>
   have := ih (by simp)
   rw [List.cons_append, List.cons_append, join_two, ← List.cons_append, this, join_two]
   simp [List.append_assoc]
theorem join_take_le (ls : List (List UInt8)) (k : Nat) : (Lib.join (ls.take k) [44]).length ≤ (Lib.join ls [44]).length := by
 induction ls generalizing k with
 | nil => simp
 | cons a ls ih =>
  cases k with
  | zero => simp [Lib.join]
  | succ k =>
   cases ls with
   | nil => simp
   | cons b ls =>
    cases k with
    | zero => simp [join_one, join_two]
    | succ k =>
     have := ih (k + 1)
     rw [List.take_succ_cons, List.take_succ_cons, join_two, join_two, ← List.take_succ_cons]
     simp only [List.length_append]
     omega
set_option maxRecDepth 100000 in
set_option maxHeartbeats 2000000 in
theorem rrow_any (A : Option Addr) (n c : Nat) (xs : List ByteArray) (w : World) (hl : xs.length = n) (hnc : n ≤ c) (hn : n ≤ 1000000) (hj : (Lib.join (xs.map (·.data.toList)) [44]).length ≤ 1000000000) (h : Row Value.string w A xs) :
  Calls Tryz.prog 63 #[.slice A n c] w fun e w' => e = .returned (.string ⟨(rowL xs).toArray⟩) ∧ Gr w w' := by
 rcases Nat.eq_zero_or_pos n with h0 | h0
 ·subst h0
  obtain rfl : xs = [] := List.eq_nil_of_length_eq_zero hl
  go_enter Tryz.func63, Tryz.ntmps63
  go_wp2
  go_ret
  exact ⟨rfl, Gr.refl _⟩
 ·have hx0 : xs ≠ [] := by rintro rfl; simp at hl; omega
  obtain ⟨b, o, rfl, hb, hc⟩ := h.at_ hx0
  obtain ⟨x0, hx⟩ : ∃ x, xs[0]? = some x := ⟨xs[0]'(by omega), List.getElem?_eq_getElem _⟩
  have c0 : w.cell? ⟨b, o, none⟩ = some (.string x0) := hc 0 x0 hx
  have HC := Lib.hid hc; have HL := Lib.hid hl; have HJ := Lib.hid hj; have HX0 := Lib.hid hx; have HNE := Lib.hid hx0
  clear hc hl hj h hx hx0
  have f0 : ((n : Int) == 0) = false := by simp; omega
  have f1 : (0 : Int) < (n : Int) := by omega
  go_enter Tryz.func63, Tryz.ntmps63
  go_wp2
  go_loopw [3, 4] (fun v i wr => ∃ k : Nat, i = .int .i64 k ∧ 1 ≤ k ∧ k ≤ n ∧ v = .string ⟨(Lib.join ((xs.take k).map (·.data.toList)) [44]).toArray⟩ ∧ Gr w wr) (fun _ i _ => n - (intOf i).toNat)
  case atStart =>
   refine ⟨1, rfl, Nat.le_refl _, h0, ?_, Gr.refl _⟩
   have : xs.take 1 = [x0] := by
    have := HX0.out
    cases xs with
    | nil => cases this
    | cons y r => simp at this; subst this; rfl
   rw [this]
   simp [join_one]
  case round =>
   obtain ⟨k, rfl, hk1, hk, rfl, hg⟩ := hrel
   by_cases hlt : k < n
   ·have hkx : k < xs.length := by have := HL.out; omega
    obtain ⟨x, hx⟩ : ∃ x, xs[k]? = some x := ⟨xs[k], List.getElem?_eq_getElem hkx⟩
    have c1 := (hg.below.cell (p := ⟨b, o + k, none⟩) hb).trans (HC.out k x hx)
    have e1 : (xs.take (k + 1)).map (·.data.toList) = (xs.take k).map (·.data.toList) ++ [x.data.toList] := by rw [List.take_add_one, hx]; simp
    have hne : (xs.take k).map (·.data.toList) ≠ [] := by
     intro e
     have := congrArg List.length e
     rw [List.length_map, List.length_take, List.length_nil] at this
     omega
    have e2 := join_snoc44 _ hne x.data.toList
    rw [← e1] at e2
    have hle := join_take_le (xs.map (·.data.toList)) (k + 1)
    rw [← List.map_take, e2] at hle
    have hj2 := HJ.out
    simp only [List.length_append, List.length_singleton] at hle
    have E2 := Lib.hid e2; clear e2 e1 hne hx hkx
    have hxs : x.data.toList.length = x.size := (Lib.size_eq x).symm
    rw [hxs] at hle
    have HG := Lib.hid hg; clear hg
    generalize hJ : Lib.join ((xs.take k).map (·.data.toList)) [44] = js at *
    have hjs : js.length ≤ 1000000000 := by omega
    have hxz : x.size ≤ 1000000000 := by omega
    clear hle hj2 hxs
    go_wp2
    go_roundw
    case rel =>
     refine ⟨k + 1, by go_num, by omega, by omega, ?_, HG.out⟩
     rw [E2.out]
     apply congrArg
     apply ByteArray.ext
     simp
    case measure => simp [intOf]; omega
   ·have hkn : k = n := by omega
    have e1 : xs.take k = xs := List.take_of_length_le (by have := HL.out; omega)
    rw [e1]
    have HG := Lib.hid hg; clear hg
    go_wp2
    go_ret
    exact ⟨by rw [rowL, if_neg HNE.out]; rfl, HG.out⟩
set_option maxRecDepth 100000 in
set_option maxHeartbeats 4000000 in
theorem rdata_any (A : Option Addr) (n c : Nat) (l : List UInt8) (w : World) (hl : l.length = n) (hnc : n ≤ c) (hn : n ≤ 60000) (hr : Row bv w A l) :
  Calls Tryz.prog 48 #[.slice A n c] w fun e w' => e = .returned (.string ⟨(dataL l).toArray⟩) ∧ Gr w w' := by
 have HR := Lib.hid hr; clear hr
 have HL := Lib.hid hl; clear hl
 go_enter Tryz.func48, Tryz.ntmps48
 go_wp2
 go_loopw [3, 4] (fun v i wr => ∃ k : Nat, i = .int .i64 k ∧ k ≤ n / 64 ∧ OwnS w.heap.size wr v (secs l k) ∧ Below w.heap.size w wr) (fun _ i _ => n - (intOf i).toNat)
 case atStart => exact ⟨0, rfl, Nat.zero_le _, OwnS.nil _ _, Below.refl _ _⟩
 case round =>
  obtain ⟨k, rfl, hk, hown, hbw⟩ := hrel
  have hq0 : Int.tdiv (n : Int) 64 = ((n / 64 : Nat) : Int) := by rw [Int.tdiv_eq_ediv_of_nonneg (by omega)]; omega
  have HOWN := Lib.hid hown; have HB := Lib.hid hbw; clear hown hbw
  have hszw := HB.out.size
  generalize hqq : n / 64 = q at *
  by_cases hlt : k < q
  ·have hlen : ((l.drop (64 * k)).take 64).length = 64 := by
    have := HL.out; rw [List.length_take, List.length_drop]; omega
   have hcut : Row bv w (A.map (·.add (64 * k))) ((l.drop (64 * k)).take 64) := HR.out.cut _ _
   obtain ⟨b, o, hA, hb, hc⟩ := HR.out.at_ (by intro e; have := HL.out; rw [e] at this; simp at this; omega)
   subst hA
   have hcell : ∀ (j : Nat) (x : UInt8), ((l.drop (64 * k)).take 64)[j]? = some x → w.cell? ⟨b, o + (64 * k + j), none⟩ = some (bv x) := by
    intro j x hj
    rw [List.getElem?_take] at hj
    split at hj
    ·rw [List.getElem?_drop] at hj
     exact hc _ _ hj
    ·cases hj
   have hcut2 : ∀ m, Row bv w (some ⟨b, o + 64 * k, none⟩) (((l.drop (64 * k)).take 64).take m) := fun m => by
    have := hcut.cut 0 m
    rw [List.drop_zero] at this
    simpa only [Option.map_some, Go.WideShapes.add_plain, Nat.add_zero] using this
   have hsec : secs l (k + 1) = secs l k ++ [⟨(secL ((l.drop (64 * k)).take 64)).toArray⟩] := secs_succ l k
   have HSEC := Lib.hid hsec; clear hsec
   generalize (l.drop (64 * k)).take 64 = sl at *
   have HC := Lib.hid hcell; have HCUT := Lib.hid hcut2; have HLEN := Lib.hid hlen
   clear hcell hcut2 hlen hcut hc
   go_wp2
   go_loopw [5] (fun i wx => ∃ m : Nat, i = .int .i64 m ∧ m ≤ 64 ∧ Hid (trimZ (sl.take m) = trimZ sl) ∧ wx = wr) (fun i _ => (intOf i).toNat)
   case atStart => exact ⟨64, rfl, Nat.le_refl _, by rw [List.take_of_length_le (by have := HLEN.out; omega)]; exact Lib.hid rfl, rfl⟩
   case round =>
    obtain ⟨m, rfl, hm, hT, rfl⟩ := hrel
    rcases Nat.eq_zero_or_pos m with h0 | h0
    ·subst h0
     have e0 : (⟨(secL sl).toArray⟩ : ByteArray) = ⟨#[45]⟩ := by
      have := hT.out
      have e1 : trimZ sl = [] := by rw [← this]; rfl
      simp [secL, e1]
     have E := Lib.hid e0; clear e0
     go_wp2_with (at_builtin; refine wp_append_str rfl _ _ rfl w.heap.size ?vv1 (secs l k) ?hs1 ?own1 _ ⟨#[45]⟩ rfl ?hc1 (by rw [secs_len]; omega) ?hb1 ?_)
     case hs1 => rfl
     case own1 => first | exact HOWN.out.alloc_ _ | exact (HOWN.out.grown_ _).alloc_ _
     case hc1 => simp [go_sem]
     case hb1 => simp; omega
     intro v2 W2 a2
     have hown2 := a2.own
     have hb2 := Below.trans (by (with_reducible repeat (first | exact HB.out | apply below_alloc | refine below_trans ?_ (grown_below _ _)))) a2.below
     clear a2
     go_wp2
     go_roundw
     case rel =>
      refine ⟨k + 1, by go_num, by omega, ?_, hb2⟩
      rw [HSEC.out, E.out]
      exact hown2
     case measure => simp [intOf]; omega
    ·obtain ⟨q2, rfl⟩ : ∃ q, m = q + 1 := ⟨m - 1, by omega⟩
     have hqx : q2 < sl.length := by have := HLEN.out; omega
     obtain ⟨x, hx⟩ : ∃ x, sl[q2]? = some x := ⟨sl[q2], List.getElem?_eq_getElem hqx⟩
     have c1 := (HB.out.cell (p := ⟨b, o + (64 * k + q2), none⟩) hb).trans (HC.out q2 x hx)
     simp only [bv] at c1
     have HX := Lib.hid hx; clear hx hqx h0
     have i1 : 64 * (k : Int) + ((q2 + 1 : Nat) : Int) - 1 = ((64 * k + q2 : Nat) : Int) := by omega
     by_cases hz : x = 0
     ·have hxu : x.toNat = 0 := by rw [hz]; rfl
      have hb0 : ((x.toNat : Int) == 0) = true := by simp [hxu]
      have HZ := Lib.hid hz; clear hz hxu
      go_wp2
      go_roundw
      case rel => exact ⟨q2, by go_num, by omega, by
       have := hT.out
       rw [take_snoc1 HX.out, HZ.out, trimZ_zero] at this
       exact Lib.hid this, trivial⟩
      case measure => simp [intOf]
     ·have hxu : x.toNat ≠ 0 := fun h => hz (UInt8.toNat_inj.1 (by simpa using h))
      have hb0 : ((x.toNat : Int) == 0) = false := by simp; omega
      have e1 : trimZ sl = sl.take (q2 + 1) := by
       have := hT.out
       rw [take_snoc1 HX.out, trimZ_ne _ _ hz] at this
       rw [take_snoc1 HX.out]; exact this.symm
      have e2 : (⟨(secL sl).toArray⟩ : ByteArray) = ⟨(hexL (sl.take (q2 + 1))).toArray⟩ := by
       have hne : sl.take (q2 + 1) ≠ [] := by rw [take_snoc1 HX.out]; simp
       rw [secL, e1, if_neg hne]
      have E := Lib.hid e2; clear e2 e1 hz hxu hT
      have hlt2 : (sl.take (q2 + 1)).length = q2 + 1 := by
       have := HLEN.out; rw [List.length_take]; omega
      have HT := Lib.hid hlt2; clear hlt2
      have hHX : ∀ c', q2 + 1 ≤ c' → Calls Tryz.prog 94 #[.slice (some ⟨b, o + 64 * k, none⟩) (q2 + 1) c'] wr fun e w' => e = .returned (.string ⟨(hexL (sl.take (q2 + 1))).toArray⟩) ∧ Gr wr w' :=
       fun c' hc' => rhex_any _ _ _ _ wr HT.out hc' (by omega) ((HCUT.out (q2 + 1)).gr (Gr.of HB.out))
      have HHX := Lib.hid (hHX (c - 64 * k) (by omega)); clear hHX
      go_wp2_with ((go_at_call 94; ((with_reducible refine HHX.out.mono ?_))))
      rintro _ W1 ⟨rfl, hg⟩
      have hg1 := hg.below.size
      go_wp2_with (at_builtin; refine wp_append_str rfl _ _ rfl w.heap.size ?vv2 (secs l k) ?hs2 ?own2 _ ⟨(hexL (sl.take (q2 + 1))).toArray⟩ rfl ?hc2 (by rw [secs_len]; omega) ?hb2 ?_)
      case hs2 => rfl
      case own2 => first | exact HOWN.out.alloc_ _ | exact (HOWN.out.gr hg).alloc_ _
      case hc2 => simp [go_sem]
      case hb2 => simp; omega
      intro v2 W2 a2
      have hown2 := a2.own
      have hb2 := Below.trans (below_alloc (below_trans HB.out hg.below) _) a2.below
      clear a2
      go_wp2
      go_roundw
      case rel =>
       refine ⟨k + 1, by go_num, by omega, ?_, hb2⟩
       rw [HSEC.out, E.out]
       exact hown2
      case measure => simp [intOf]; omega
  ·obtain rfl : k = q := by omega
   have e0 : dataL l = rowL (secs l k) := by rw [dataL, HL.out, hqq]
   have E := Lib.hid e0; clear e0
   have hJ := Lib.hid (secs_join l k)
   have hSL := Lib.hid (secs_len l k)
   obtain ⟨VA, vc, hv, hvc, hrow⟩ := HOWN.out.form
   rw [secs_len] at hvc hv
   subst hv
   have HROW := Lib.hid hrow; clear hrow
   have HRW := Lib.hid (rrow_any VA k vc (secs l k) wr hSL.out hvc (by omega) (by have := hJ.out; omega) HROW.out)
   go_wp2_with ((go_at_call 63; ((with_reducible refine HRW.out.mono ?_))))
   rintro _ W1 ⟨rfl, hg⟩
   go_wp2
   go_ret
   exact ⟨by rw [E.out]; rfl, Gr.of (below_trans HB.out hg.below)⟩
def hexw (u : Nat) : Int := if hexv u < 0 then 16 else hexv u
theorem digit_any (u : Nat) (hu : u < 256) (w : World) : Calls Tryz.prog 123 #[.int .u8 u] w fun e w' => e = .returned (.int .i64 (hexw u)) ∧ Gr w w' := by
 by_cases h1 : 48 ≤ u
 ·by_cases h2 : u ≤ 57
  ·have e : hexw u = (u : Int) - 48 := by have hv : hexv u = (u : Int) - 48 := by { unfold hexv; rw [if_pos ⟨h1, h2⟩] }; rw [hexw, hv, if_neg (by omega)]
   rw [e]
   have d1 : decide ((48 : Int) ≤ (u : Int)) = true := decide_eq_true (by omega)
   have d2 : decide ((u : Int) ≤ 57) = true := decide_eq_true (by omega)
   have q1 : IntKind.u8.wrap ((u : Int) - 48) = (u : Int) - 48 := by rw [u8_wrap]; omega
   have q2 : IntKind.i64.wrap ((u : Int) - 48) = (u : Int) - 48 := by rw [IntKind.wrap_i64]; omega
   go_enter Tryz.func123, Tryz.ntmps123
   go_wp2
   go_ret
   exact ⟨rfl, Gr.refl _⟩
  ·have d1 : decide ((48 : Int) ≤ (u : Int)) = true := decide_eq_true (by omega)
   have d2 : decide ((u : Int) ≤ 57) = false := decide_eq_false (by omega)
   by_cases h3 : 97 ≤ u
   ·have d3 : decide ((97 : Int) ≤ (u : Int)) = true := decide_eq_true (by omega)
    by_cases h4 : u ≤ 102
    ·have d4 : decide ((u : Int) ≤ 102) = true := decide_eq_true (by omega)
     have e : hexw u = (u : Int) - 87 := by have hv : hexv u = (u : Int) - 87 := by { unfold hexv; rw [if_neg (by omega), if_pos ⟨h3, h4⟩] }; rw [hexw, hv, if_neg (by omega)]
     rw [e]
     have q1 : IntKind.u8.wrap ((u : Int) - 97) = (u : Int) - 97 := by rw [u8_wrap]; omega
     have q2 : IntKind.i64.wrap ((u : Int) - 97) = (u : Int) - 97 := by rw [IntKind.wrap_i64]; omega
     have q3 : (u : Int) - 97 + 10 = (u : Int) - 87 := by omega
     go_enter Tryz.func123, Tryz.ntmps123
     go_wp2
     go_ret
     exact ⟨by rw [← q3]; rfl, Gr.refl _⟩
    ·have d4 : decide ((u : Int) ≤ 102) = false := decide_eq_false (by omega)
     have e : hexw u = 16 := by have hv : hexv u = -1 := by { unfold hexv; rw [if_neg (by omega), if_neg (by omega)] }; rw [hexw, hv, if_pos (by omega)]
     rw [e]
     go_enter Tryz.func123, Tryz.ntmps123
     go_wp2
     go_ret
     exact ⟨rfl, Gr.refl _⟩
   ·have d3 : decide ((97 : Int) ≤ (u : Int)) = false := decide_eq_false (by omega)
    have e : hexw u = 16 := by have hv : hexv u = -1 := by { unfold hexv; rw [if_neg (by omega), if_neg (by omega)] }; rw [hexw, hv, if_pos (by omega)]
    rw [e]
    go_enter Tryz.func123, Tryz.ntmps123
    go_wp2
    go_ret
    exact ⟨rfl, Gr.refl _⟩
 ·have d1 : decide ((48 : Int) ≤ (u : Int)) = false := decide_eq_false (by omega)
  have d3 : decide ((97 : Int) ≤ (u : Int)) = false := decide_eq_false (by omega)
  have e : hexw u = 16 := by have hv : hexv u = -1 := by { unfold hexv; rw [if_neg (by omega), if_neg (by omega)] }; rw [hexw, hv, if_pos (by omega)]
  rw [e]
  go_enter Tryz.func123, Tryz.ntmps123
  go_wp2
  go_ret
  exact ⟨rfl, Gr.refl _⟩
set_option maxRecDepth 100000 in
set_option maxHeartbeats 4000000 in
theorem runhex_any (x : ByteArray) (hx : x.size ≤ 1000000) (w : World) :
  Calls Tryz.prog 109 #[.string x] w fun e w' => ∃ v, e = .returned (.tuple #[v, .bool (unhexL x.data.toList).isSome]) ∧ OwnR bv 5 w.heap.size w' v ((unhexL x.data.toList).getD []) ∧ Below w.heap.size w w' := by
 have hL : x.data.toList.length = x.size := (Lib.size_eq x).symm
 by_cases ho : x.size % 2 = 1
 ·have d1 : (((x.size : Int) % 2) == 1) = true := by simp; omega
  have hn := unhexL_odd x.data.toList (by omega)
  have HN := Lib.hid hn; clear hn
  go_enter Tryz.func109, Tryz.ntmps109
  go_wp2
  go_ret2
  exact ⟨.slice none 0 0, by rw [HN.out]; rfl, by rw [HN.out]; exact OwnR.nil _ _, Below.refl _ _⟩
 ·have d1 : (((x.size : Int) % 2) == 1) = false := by simp; omega
  go_enter Tryz.func109, Tryz.ntmps109
  go_wp2
  go_loopw [4, 5] (fun v i wr => ∃ (k : Nat) (out : List UInt8), i = .int .i64 (2 * k : Nat) ∧ 2 * k ≤ x.size ∧ OwnR bv 5 w.heap.size wr v out ∧ unhexL (x.data.toList.take (2 * k)) = some out ∧ out.length ≤ k ∧ Below w.heap.size w wr) (fun _ i _ => x.size - (intOf i).toNat)
  case atStart => exact ⟨0, [], rfl, Nat.zero_le _, OwnR.nil _ _, rfl, Nat.le_refl _, Below.refl _ _⟩
  case round =>
   obtain ⟨k, out, rfl, hk, hown, hun, hol, hbw⟩ := hrel
   have hsz := hbw.size
   have HUN := Lib.hid hun; clear hun
   have HOL := Lib.hid hol
   generalize h2k : 2 * k = i at *
   have H2K := Lib.hid h2k; clear h2k
   by_cases hlt : i < x.size
   ·have hlt2 : i + 1 < x.size := by have := H2K.out; omega
    have hA : (x[i]'hlt).toNat < 256 := (x[i]'hlt).toNat_lt
    have hB : (x[i + 1]'hlt2).toNat < 256 := (x[i + 1]'hlt2).toNat_lt
    have hj0 : (0 : Int) ≤ (i : Int) + 1 := by omega
    have hj1 : (i : Int) + 1 < (x.size : Int) := by omega
    have hj2 : ((i : Int) + 1).toNat = i + 1 := by omega
    have hl1 : i < x.data.toList.length := by omega
    have hl2 : i + 1 < x.data.toList.length := by omega
    have ea : x.data.toList[i] = x[i]'hlt := rfl
    have eb : x.data.toList[i + 1] = x[i + 1]'hlt2 := rfl
    have ra := hexv_range (x[i]'hlt).toNat
    have rb := hexv_range (x[i + 1]'hlt2).toNat
    have HB1 := Lib.hid (fun (h : hexv (x.data.toList[i]).toNat < 0) => unhexL_bad x.data.toList (x.data.toList[i]) (List.getElem_mem hl1) h)
    have HB2 := Lib.hid (fun (h : hexv (x.data.toList[i + 1]).toNat < 0) => unhexL_bad x.data.toList (x.data.toList[i + 1]) (List.getElem_mem hl2) h)
    have HS0 := Lib.hid (unhexL_snoc (x.data.toList.take (i)) out (x.data.toList[i]) (x.data.toList[i + 1]) HUN.out)
    have htk : x.data.toList.take (i + 2) = x.data.toList.take (i) ++ [x.data.toList[i], x.data.toList[i + 1]] := by
     rw [show i + 2 = i + 1 + 1 by omega, List.take_succ_eq_append_getElem hl2, List.take_succ_eq_append_getElem hl1, List.append_assoc]; rfl
    rw [← htk, ea, eb] at HS0
    rw [ea] at HB1
    rw [eb] at HB2
    clear htk ea eb
    rcases Int.lt_or_le (hexv (x[i]'hlt).toNat) 0 with hna | hna
    ·have HN := Lib.hid (HB1.out hna)
     have HP := Lib.hid (show hexw (x[i]'hlt).toNat = 16 by rw [hexw, if_pos hna])
     obtain ⟨q, hq⟩ : ∃ q, hexw (x[i + 1]'hlt2).toNat = q := ⟨_, rfl⟩
     have HQ := Lib.hid hq; clear hq hna ra rb
     have HD1 := Lib.hid (fun W => digit_any (x[i]'hlt).toNat hA W)
     have HD2 := Lib.hid (fun W => digit_any (x[i + 1]'hlt2).toNat hB W)
     rw [HP.out] at HD1
     rw [HQ.out] at HD2
     go_wp2
     refine wp_region_grow (by kernel_rfl) (by kernel_rfl) ?_
     repeat (go_big_quiet_step ((first | (go_at_call 123; with_reducible exact grow_call (HD1.out _)) | (go_at_call 123; with_reducible exact grow_call (HD2.out _)))))
     refine wpQuiet_nil ?_
     intro g
     go_wp2
     go_ret2
     exact ⟨.slice none 0 0, by rw [HN.out]; rfl, by rw [HN.out]; exact OwnR.nil _ _, below_trans hbw (grown_below _ _)⟩
    ·obtain ⟨p, hp⟩ : ∃ p, hexv (x[i]'hlt).toNat = p := ⟨_, rfl⟩
     have HP := Lib.hid (show hexw (x[i]'hlt).toNat = p by rw [hexw, if_neg (by omega), hp])
     have d1 : decide ((15 : Int) < p) = false := decide_eq_false (by omega)
     have hp0 : 0 ≤ p ∧ p ≤ 15 := by omega
     rcases Int.lt_or_le (hexv (x[i + 1]'hlt2).toNat) 0 with hnb | hnb
     ·have HN := Lib.hid (HB2.out hnb)
      have HQ := Lib.hid (show hexw (x[i + 1]'hlt2).toNat = 16 by rw [hexw, if_pos hnb])
      clear hnb hna ra rb hp
      have HD1 := Lib.hid (fun W => digit_any (x[i]'hlt).toNat hA W)
      have HD2 := Lib.hid (fun W => digit_any (x[i + 1]'hlt2).toNat hB W)
      rw [HP.out] at HD1
      rw [HQ.out] at HD2
      go_wp2
      refine wp_region_grow (by kernel_rfl) (by kernel_rfl) ?_
      repeat (go_big_quiet_step ((first | (go_at_call 123; with_reducible exact grow_call (HD1.out _)) | (go_at_call 123; with_reducible exact grow_call (HD2.out _)))))
      refine wpQuiet_nil ?_
      intro g
      go_wp2
      go_ret2
      exact ⟨.slice none 0 0, by rw [HN.out]; rfl, by rw [HN.out]; exact OwnR.nil _ _, below_trans hbw (grown_below _ _)⟩
     ·obtain ⟨q, hq⟩ : ∃ q, hexv (x[i + 1]'hlt2).toNat = q := ⟨_, rfl⟩
      have HQ := Lib.hid (show hexw (x[i + 1]'hlt2).toNat = q by rw [hexw, if_neg (by omega), hq])
      have d2 : decide ((15 : Int) < q) = false := decide_eq_false (by omega)
      have hq0 : 0 ≤ q ∧ q ≤ 15 := by omega
      have hS := HS0.out hna hnb
      rw [hp, hq] at hS
      have HS := Lib.hid hS
      have hwr : IntKind.u8.wrap (16 * p + q) = 16 * p + q := by rw [u8_wrap]; omega
      have hwi : IntKind.i64.wrap (16 * p) = 16 * p := by rw [IntKind.wrap_i64]; omega
      have hwj : IntKind.i64.wrap (16 * p + q) = 16 * p + q := by rw [IntKind.wrap_i64]; omega
      clear hS hnb hna ra rb hp hq
      have HD1 := Lib.hid (fun W => digit_any (x[i]'hlt).toNat hA W)
      have HD2 := Lib.hid (fun W => digit_any (x[i + 1]'hlt2).toNat hB W)
      rw [HP.out] at HD1
      rw [HQ.out] at HD2
      go_wp2
      refine wp_region_grow (by kernel_rfl) (by kernel_rfl) ?_
      repeat (go_big_quiet_step ((first | (go_at_call 123; with_reducible exact grow_call (HD1.out _)) | (go_at_call 123; with_reducible exact grow_call (HD2.out _)))))
      refine wpQuiet_nil ?_
      intro g
      go_wp2_with (at_builtin; refine wp_append_byte rfl _ _ rfl w.heap.size ?vv out ?hs1 ?own1 _ 0 1 [UInt8.ofNat (16 * p + q).toNat] 1 rfl rfl ?hc1 ?hl1 ?hb1 ?_)
      case hs1 => rfl
      case own1 => exact (hown.grown_ g).alloc_ _
      case hc1 =>
       intro j y hj
       match j, hj with
       | 0, hj =>
        simp only [List.getElem?_cons_zero, Option.some.injEq] at hj
        subst hj
        have e8 : ((UInt8.ofNat (16 * p + q).toNat).toNat : Int) = 16 * p + q := by
         rw [UInt8.toNat_ofNat', Nat.mod_eq_of_lt (by omega)]; omega
        simp only [bv, e8]
        simp [go_sem]
      case hl1 =>
       have h9 := HOL.out
       have h7 := H2K.out
       have h8 : out.length + 1 ≤ 100000000 := by omega
       exact h8
      case hb1 => exact Nat.le_trans hsz (Nat.le_trans (grown_below _ g).size (by simp))
      intro v2 w2 a2
      have hown3 := a2.own
      have hbw3 : Below w.heap.size w w2 := Below.trans ((below_trans hbw (grown_below _ g)).alloc (Nat.le_trans hsz (grown_below _ g).size) _) a2.below
      clear a2
      go_wp2
      go_roundw
      case rel =>
       have e9 := H2K.out
       have e8 : 2 * (k + 1) = i + 2 := by omega
       refine ⟨k + 1, _, by rw [e8]; go_num, by omega, hown3, ?_, by have h9 := HOL.out; simp only [List.length_append, List.length_singleton]; omega, hbw3⟩
       rw [e8]; exact HS.out
      case measure => simp [intOf]; omega
   ·have hkn : x.data.toList.take (i) = x.data.toList := List.take_of_length_le (by omega)
    have hun := HUN.out
    rw [hkn] at hun
    have HN := Lib.hid hun; clear hun hkn
    go_wp2
    go_ret2
    exact ⟨_, by rw [HN.out]; rfl, by rw [HN.out]; exact hown, hbw⟩
theorem kinds_any (w : World) : Calls Tryz.prog 45 #[] w fun e w' => e = .returned (.slice (some ⟨w.heap.size, 0, none⟩) 9 9) ∧ w' = w.alloc (.cells #[.string ⟨#[99, 114, 101, 97, 116, 101]⟩, .string ⟨#[100, 101, 108, 101, 116, 101]⟩, .string ⟨#[114, 101, 115, 105, 122, 101]⟩, .string ⟨#[115, 110, 97, 112]⟩, .string ⟨#[119, 114, 105, 116, 101]⟩, .string ⟨#[122, 101, 114, 111]⟩, .string ⟨#[100, 105, 115, 99, 97, 114, 100]⟩, .string ⟨#[102, 108, 117, 115, 104]⟩, .string ⟨#[114, 101, 97, 100]⟩] 9) := by
 go_enter Tryz.func45, Tryz.ntmps45
 go_wp2
 go_ret
 exact ⟨rfl, rfl⟩
set_option maxHeartbeats 2000000 in
theorem place_any (b o c : Nat) (xs : List ByteArray) (n : Nat) (hn : xs.length = n) (y : ByteArray) (w : World) (hbig : n ≤ 1000000) (hc : ∀ j z, xs[j]? = some z → w.cell? ⟨b, o + j, none⟩ = some (.string z)) :
  Calls Tryz.prog 57 #[.slice (some ⟨b, o, none⟩) n c, .string y] w fun e w' => e = .returned (.int .i64 (Lib.idxOfS xs y + 1)) ∧ w = w' := by
 have HC := Lib.hid hc; clear hc
 have HN := Lib.hid hn; clear hn
 go_enter Tryz.func57, Tryz.ntmps57
 go_wp2
 go_loopw [5] (fun i wr => ∃ k : Nat, i = .int .i64 k ∧ k ≤ n ∧ Hid (∀ j, j < k → xs.getD j ByteArray.empty ≠ y) ∧ wr = w) (fun i _ => n - (intOf i).toNat)
 case atStart => exact ⟨0, rfl, Nat.zero_le _, Lib.hid (fun j hj => by omega), rfl⟩
 case round =>
  obtain ⟨k, rfl, hk, hne, rfl⟩ := hrel
  by_cases hlt : k < n
  ·have hkx : k < xs.length := by have := HN.out; omega
   obtain ⟨z, hz⟩ : ∃ z, xs[k]? = some z := ⟨xs[k], List.getElem?_eq_getElem hkx⟩
   have c1 := HC.out k z hz
   have hzd : xs.getD k ByteArray.empty = z := by rw [List.getD_eq_getElem?_getD, hz]; rfl
   have HZ := Lib.hid hzd; clear hzd hz hkx
   rcases Bool.eq_false_or_eq_true (z.toList == y.toList) with hb | hb
   ·have hzy : z = y := by
     have := eq_of_beq hb
     rw [Lib.toList_data, Lib.toList_data] at this
     exact ByteArray.ext (Array.ext' this)
    have e : Lib.idxOfS (xs.take n) y = k := Lib.idxOfS_hit xs n k y hlt (by have := HN.out; omega) (by rw [HZ.out, hzy]) hne.out
    rw [List.take_of_length_le (by have := HN.out; omega)] at e
    have E := Lib.hid e; clear e hzy
    go_wp2
    go_ret
    exact ⟨by rw [E.out]; rfl, rfl⟩
   ·have hzy : z ≠ y := fun h => by rw [h] at hb; simp at hb
    have HZY := Lib.hid hzy; clear hzy
    go_wp2
    go_roundw
    case rel => exact ⟨k + 1, by go_num, by omega, Lib.hid (fun j hj => by
     rcases Nat.lt_or_ge j k with h | h
     ·exact hne.out j h
     ·obtain rfl : j = k := by omega
      rw [HZ.out]; exact HZY.out), trivial⟩
    case measure => simp [intOf]; omega
  ·obtain rfl : k = n := by omega
   have e : Lib.idxOfS (xs.take k) y = -1 := Lib.idxOfS_miss xs k y hne.out
   rw [List.take_of_length_le (by have := HN.out; omega)] at e
   have E := Lib.hid e; clear e
   go_wp2
   go_ret
   exact ⟨by rw [E.out]; rfl, rfl⟩
end Go.Proofs.YtgjdgafoidppaaaGreatDoor
