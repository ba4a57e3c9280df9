/- script.ActOf: an act that is read. Conditions: a text of at most 200000 bytes; the tables stand. Rows of acts in memory. Conditions: none. A slice of acts of the call's own, and 'l = append(l, an act)'. Conditions: at most 10^6 acts. A script's text, line by line (no program in sight). Conditions: none. What an act that may be told is (no program in sight). Conditions: none. -/
import Derived.Test.YtgjdgafoidppaaaGreatDoorP07
import Derived.Test.YtgjdgafoidppaaaGreatDoorP10
import Derived.Test.YtgjdgafoidppaaaGreatDoorP09
import Derived.Test.YtgjdgafoidppaaaGreatDoorP05
import Derived.Shelf.Strings.Cut
namespace Go.Proofs.YtgjdgafoidppaaaGreatDoor
open Go.RowKit
set_option linter.unusedVariables false
set_option linter.unusedSimpArgs false
set_option linter.unnecessarySimpa false
def acWl : List ByteArray := [⟨#[]⟩, ⟨#[97, 115, 107]⟩, ⟨#[99, 97, 114, 114, 121]⟩, ⟨#[116, 105, 99, 107]⟩, ⟨#[111, 102, 102]⟩, ⟨#[111, 110]⟩, ⟨#[102, 117, 115, 101]⟩, ⟨#[108, 101, 97, 100]⟩, ⟨#[100, 101, 103, 114, 97, 100, 101]⟩, ⟨#[103, 114, 111, 119]⟩, ⟨#[97, 108, 108]⟩]
def isForce (x : ByteArray) : Bool := x.data.toList == [102, 111, 114, 99, 101]
def aKOf (x : ByteArray) : Int := if isForce x then 7 else max (Lib.idxOfS acWl x) 0
theorem aKOf_le (x : ByteArray) : 0 ≤ aKOf x ∧ aKOf x ≤ 10 := by
 have := idxFrom_le x acWl 0 (by simp [acWl])
 have e : acWl.length = 11 := rfl
 rw [e] at this
 unfold aKOf Lib.idxOfS
 split <;> omega
theorem force_idx (x : ByteArray) (h : isForce x = true) : Lib.idxOfS acWl x = -1 := by
 have e : x = ⟨#[102, 111, 114, 99, 101]⟩ := ByteArray.ext (Array.ext' (by simpa [isForce] using h))
 subst e
 decide
structure ActV where
 k : Int
 nd : Int
 m : Int
 o : OpV
 f : Bool
 pk : List Int
def acV (K : Int) (F : Bool) (ws : List ByteArray) : ActV :=
 if K = 1 then ⟨1, nD ws 1 1, 0, opValK (kOf (hdW (ws.drop 2))) (ws.drop 2), F, []⟩ else if K = 2 then ⟨2, 0, nD ws 1 1000000, zOp, F, []⟩ else if K = 3 then ⟨3, nD ws 1 1, 0, zOp, F, []⟩
 else if K = 4 then ⟨4, nD ws 1 1, 0, zOp, F, pkOf (hdW (ws.drop 2))⟩ else if K = 5 then ⟨5, nD ws 1 1, 0, zOp, F, pkOf (hdW (ws.drop 2))⟩ else if K = 6 then ⟨6, nD ws 1 1, nD ws 2 1000000, zOp, F, []⟩ else if K = 7 then ⟨7, nD ws 1 1, 0, zOp, F, []⟩ else if K = 8 then ⟨8, nD ws 1 1, 0, zOp, F, []⟩ else if K = 9 then ⟨9, nD ws 1 1, nD ws 2 1000000, zOp, F, []⟩ else ⟨K, 0, 0, zOp, F, []⟩
def acRest (K : Int) (ws : List ByteArray) : List ByteArray :=
 if K = 1 then (ws.drop 2).drop (opLenK (kOf (hdW (ws.drop 2)))) else if K = 2 ∨ K = 3 ∨ K = 7 ∨ K = 8 then ws.drop 2 else if K = 4 ∨ K = 5 ∨ K = 6 ∨ K = 9 then ws.drop 3 else ws.drop 1
def acBad (K : Int) (ws : List ByteArray) : Bool :=
 if K = 1 then opBadK (kOf (hdW (ws.drop 2))) (ws.drop 2) (false || bD ws 1 1) else if K = 2 then (false || bD ws 1 1000000) else if K = 3 ∨ K = 7 ∨ K = 8 then (false || bD ws 1 1) else if K = 4 ∨ K = 5 then (((false || bD ws 1 1) || (ws.drop 2).isEmpty) || pkBad (hdW (ws.drop 2))) else if K = 6 ∨ K = 9 then ((false || bD ws 1 1) || bD ws 2 1000000) else false
theorem hd_le {ws : List ByteArray} {m : Nat} (h : ∀ x ∈ ws, x.size ≤ m) (j : Nat) : (hdW (ws.drop j)).size ≤ m := by
 cases hd : ws.drop j with
 | nil => exact Nat.zero_le _
 | cons y r => exact h y (List.mem_of_mem_drop (i := j) (by rw [hd]; simp))
theorem small_n (ws : List ByteArray) (i : Nat) (p : Nat) (W : World) (bad : Bool) (h : WS p W (ws.drop i) bad) :
  Calls Tryz.prog 53 #[.pointer (some ⟨p, 0, none⟩), .int .i64 1000000] W fun e W' => e = .returned (.int .i64 (nD ws i 1000000)) ∧ WS p W' (ws.drop (i + 1)) (bad || bD ws i 1000000) ∧ Wrd p W W' :=
 (small_any p 1000000 (by omega) W _ bad h).mono fun e W' ⟨he, hw, hr⟩ => ⟨he, by rw [List.tail_drop] at hw; exact hw, hr⟩
theorem small_1 (ws : List ByteArray) (i : Nat) (p : Nat) (W : World) (bad : Bool) (h : WS p W (ws.drop i) bad) :
  Calls Tryz.prog 53 #[.pointer (some ⟨p, 0, none⟩), .int .i64 1] W fun e W' => e = .returned (.int .i64 (nD ws i 1)) ∧ WS p W' (ws.drop (i + 1)) (bad || bD ws i 1) ∧ Wrd p W W' :=
 (small_any p 1 (by omega) W _ bad h).mono fun e W' ⟨he, hw, hr⟩ => ⟨he, by rw [List.tail_drop] at hw; exact hw, hr⟩
theorem below_wrd {p : Nat} {w V W : World} (h : Below w.heap.size w V) (r : Wrd p V W) (hp : w.heap.size ≤ p) : Below w.heap.size w W := h.trans (r.below hp h.size)
theorem op_w (p : Nat) (W : World) [hm : Ml W] [htb : Tb W] [hfp : Far p] (ws : List ByteArray) (bad : Bool) (h : WS p W ws bad) (hw : ∀ x ∈ ws, x.size ≤ 200000) (k v t s a c : Int) (d : List UInt8) (hO : opValK (kOf (hdW ws)) ws = ⟨k, v, t, s, a, c, d⟩) :
  Calls Tryz.prog 37 #[.pointer (some ⟨p, 0, none⟩)] W fun e W' => ∃ A q, e = .returned (.agg #[.int .i64 k, .int .u64 v, .int .u64 t, .int .i64 s, .int .i64 a, .int .i64 c, .slice A d.length q]) ∧ d.length ≤ q ∧ OwnR bv 5 W.heap.size W' (.slice A d.length q) d ∧ WS p W' (ws.drop (opLenK (kOf (hdW ws)))) (opBadK (kOf (hdW ws)) ws bad) ∧ Wrd p W W' := by
 refine (op_any p W ws bad h hw).mono ?_
 rintro e W' ⟨dv, rfl, ho, h1, r1⟩
 rw [hO] at ho ⊢
 obtain ⟨A, q, rfl, hq, hr⟩ := ho.form
 exact ⟨A, q, rfl, hq, ho, h1, r1⟩
theorem frm_iter {p X k : Nat} {V W : World} {s : ByteArray} {pos : Nat} [h : IterAt V k s pos] (r : Frm V.heap.size p X V W) (h1 : k ≠ p) (h2 : k ≠ X) : IterAt W k s pos := ⟨(r.old k h.lt h1 h2).trans h.eq⟩
theorem frm_block {base p X B : Nat} {V W : World} {cs : Array Value} {T : TypeId} [h : BlockAt V B cs T] (r : Frm base p X V W) (hT : T ≠ 3) (h1 : B ≠ p) (h2 : B ≠ X) : BlockAt W B cs T := r.typ B cs T h hT h1 h2
theorem below_frm {p X : Nat} {w V W : World} (h : Below w.heap.size w V) (r : Frm V.heap.size p X V W) (hp : w.heap.size ≤ p) (hX : w.heap.size ≤ X) : Below w.heap.size w W :=
 h.trans ⟨r.os, r.tape, r.output, r.size, fun i hi => r.old i (Nat.lt_of_lt_of_le hi h.size) (by omega) (by omega)⟩
theorem OwnR.row {α : Type} {enc : α → Value} {E : TypeId} {base : Nat} {W : World} {A : Option Addr} {n q : Nat} {l : List α} (h : OwnR enc E base W (.slice A n q) l) : Row enc W A l := by
 obtain ⟨A', c', e, _, hr⟩ := h.form
 cases e
 exact hr
def actB (a : ActV) (Ad : Option Addr) (qd : Nat) (Av : Option Addr) (qv : Nat) : Array Value := #[.int .i64 a.k, .int .i64 a.nd, .int .i64 a.m, .int .i64 a.o.k, .int .u64 a.o.v, .int .u64 a.o.t, .int .i64 a.o.s, .int .i64 a.o.a, .int .i64 a.o.c, .slice Ad a.o.d.length qd, .bool a.f, .slice Av a.pk.length qv]
def zA : ActV := ⟨0, 0, 0, zOp, false, []⟩
def ActV.may (a : ActV) : Bool := mayActB a.k a.nd a.m a.o.k a.o.v a.o.t a.o.s a.o.a a.o.c a.f a.o.d.length a.pk.length a.o.d a.pk
def ActV.text (a : ActV) : List UInt8 := actTextL a.k a.nd a.m a.o.k a.o.v a.o.t a.o.s a.o.a a.o.c a.f a.o.d a.pk
def acX (x : ByteArray) : ActV := acV (aKOf (hdW (wordsB 32 x))) (isForce (hdW (wordsB 32 x))) (wordsB 32 x)
def goodA (x : ByteArray) : Bool := !acBad (aKOf (hdW (wordsB 32 x))) (wordsB 32 x) && (acRest (aKOf (hdW (wordsB 32 x))) (wordsB 32 x)).isEmpty && (acX x).may && ((acX x).text == x.data.toList)
def actRes (x : ByteArray) : ActV := if goodA x then acX x else zA
def actE (x : ByteArray) : Int := if goodA x then 0 else 4
theorem acV_bd (K : Int) (hK : 0 ≤ K ∧ K ≤ 10) (F : Bool) (ws : List ByteArray) (hw : ∀ y ∈ ws, y.size ≤ 200000) : Bd (acV K F ws).o.v (acV K F ws).o.t (acV K F ws).o.s (acV K F ws).o.a (acV K F ws).o.c ∧ (0 ≤ (acV K F ws).nd ∧ (acV K F ws).nd ≤ 1) ∧ (0 ≤ (acV K F ws).m ∧ (acV K F ws).m ≤ 1000000) ∧ (acV K F ws).o.d.length ≤ 64000000 ∧ (acV K F ws).pk.length ≤ 300000 ∧ (∀ n ∈ (acV K F ws).pk, 0 ≤ n ∧ n ≤ 1000000) := by
 have b1 := opValK_bd (kOf (hdW (ws.drop 2))) (ws.drop 2)
 have b2 := opValK_d (kOf (hdW (ws.drop 2))) (ws.drop 2) (fun y hy => hw y (List.mem_of_mem_drop hy))
 have z1 : Bd 0 0 0 0 0 := ⟨by omega, by omega, by omega, by omega, by omega, by omega, by omega, by omega, by omega, by omega⟩
 have n1 := nD_le ws 1 1
 have n2 := nD_le ws 1 1000000
 have n3 := nD_le ws 2 1000000
 have p1 : (pkOf (hdW (ws.drop 2))).length ≤ 300000 := by
  have h1 := hd_le hw 2
  have h2 := wordsB_le 44 (hdW (ws.drop 2))
  unfold pkOf
  split
  ·exact Nat.zero_le _
  ·rw [List.length_map]; omega
 have p2 : ∀ n ∈ pkOf (hdW (ws.drop 2)), 0 ≤ n ∧ n ≤ 1000000 := by
  intro n hn
  unfold pkOf at hn
  split at hn
  ·cases hn
  ·obtain ⟨y, _, rfl⟩ := List.mem_map.1 hn
   have := decV_le y.data.toList 1000000
   unfold numN
   omega
 unfold acV
 repeat' split
 all_goals refine ⟨?_, ?_, ?_, ?_, ?_, ?_⟩
 all_goals first | exact b1 | exact z1 | exact b2 | exact p1 | exact p2 | exact Nat.zero_le _ | (simp only []; omega) | (intro n hn; cases hn)
structure ActAt (W0 : World) (p Wc X : Nat) (a : ActV) (W : World) (rest : List ByteArray) (bad : Bool) : Prop where
 below : Below W0.heap.size W0 W
 ws : WS p W rest bad
 wc : BlockAt W Wc #[.pointer (some ⟨p, 0, none⟩)] 76
 r : BlockAt W W0.heap.size (actC 0 0 0 false (.slice none 0 0)) 42
 x : ∃ Ad qd Av qv b1 b2, BlockAt W X (actB a Ad qd Av qv) 42 ∧ a.o.d.length ≤ qd ∧ OwnR bv 5 b1 W (.slice Ad a.o.d.length qd) a.o.d ∧ a.pk.length ≤ qv ∧ OwnR (Value.int .i64) 3 b2 W (.slice Av a.pk.length qv) a.pk
set_option maxRecDepth 100000 in
set_option maxHeartbeats 8000000 in
theorem actOf_own (x : ByteArray) (hx : x.size ≤ 200000) (w : World) [hk : Tb w] [hm : Ml w] : Calls Tryz.prog 19 #[.string x] w fun e w' => ∃ Ad qd Av qv, e = .returned (.tuple #[.agg (actB (actRes x) Ad qd Av qv), .int .i64 (actE x)]) ∧ (actRes x).o.d.length ≤ qd ∧ (∃ b, OwnR bv 5 b w' (.slice Ad (actRes x).o.d.length qd) (actRes x).o.d) ∧ (actRes x).pk.length ≤ qv ∧ (∃ b, OwnR (Value.int .i64) 3 b w' (.slice Av (actRes x).pk.length qv) (actRes x).pk) ∧ Gr w w' := by
 have few : (wordsB 32 x).length ≤ 1000000 := by have := wordsB_le 32 x; omega
 have short : ∀ y ∈ wordsB 32 x, y.size ≤ 1000000000 := fun y hy => by have := wordsB_each 32 x y hy; omega
 have hw : ∀ y ∈ wordsB 32 x, y.size ≤ 200000 := fun y hy => Nat.le_trans (wordsB_each 32 x y hy) hx
 have hne0 : (wordsB 32 x).isEmpty = false := by have := wordsB_ne 32 x; cases h : wordsB 32 x with | nil => exact absurd h this | cons => rfl
 have FEW := Lib.hid few; have SHORT := Lib.hid short; have HW := Lib.hid hw; have HNE := Lib.hid hne0; clear few short hw hne0
 have HTB := Lib.hid (fun W (h : Below w.heap.size w W) => (hk.of_below h : Tb W))
 have HML := Lib.hid (fun W (h : Below w.heap.size w W) => (hm.keep (h.block _ hm.lt) : Ml W))
 have HKL := Lib.hid (aKOf_le (hdW (wordsB 32 x)))
 have hks := hk.size
 go_enter Tryz.func19, Tryz.ntmps19
 go_wp2_with ((go_at_call 36; ((with_reducible refine (split_any x 32 _ (by omega)).mono ?_))))
 rintro _ _ ⟨rfl, rfl⟩
 generalize hws : wordsB 32 x = ws at *
 have HWS := Lib.hid hws; clear hws
 haveI : Far (w.heap.size + 1 + 1) := ⟨by omega⟩
 go_wp2_with ((go_at_call 49; ((with_reducible refine (word_any (w.heap.size + 1 + 1) _ ws false ?wsa).mono ?_))))
 case wsa => exact (WS.start _ _ _ (w.heap.size + 1) _ 79 rfl (by omega) FEW.out SHORT.out).gr2 (Gr.of (below_alloc (Below.refl _ _) _))
 rintro _ W1 ⟨rfl, h1, r1⟩
 rw [HNE.out] at h1
 have h1' : WS (w.heap.size + 1 + 1) W1 (ws.drop 1) false := by rw [List.drop_one]; exact h1
 have bR1 : BlockAt W1 w.heap.size #[.int .i64 0, .int .i64 0, .int .i64 0, .int .i64 0, .int .u64 0, .int .u64 0, .int .i64 0, .int .i64 0, .int .i64 0, .slice none 0 0, .bool false, .slice none 0 0] 42 := r1.blockAt inferInstance (by omega)
 have bW1 : BlockAt W1 (w.heap.size + 1 + 1 + 1) #[.pointer (some ⟨w.heap.size + 1 + 1, 0, none⟩)] 76 := r1.blockAt inferInstance (by omega)
 have hb1 : Below w.heap.size w W1 := Below.trans (by ((with_reducible repeat (first | exact Below.refl _ _ | apply below_alloc)))) (r1.below (by omega) (by simp; omega))
 have hs1 : w.heap.size + 1 + 1 + 1 < W1.heap.size := bW1.lt
 have H1 := Lib.hid h1'; have BR1 := Lib.hid bR1; have BW1 := Lib.hid bW1; have HB1 := Lib.hid hb1
 clear h1 h1' r1 bR1 bW1 hb1
 go_wp2_with ((go_at_call 51; ((with_reducible refine (actWords_any _).mono ?_))))
 rintro _ _ ⟨rfl, rfl⟩
 have bL : BlockAt (W1.alloc (.cells (acWl.map Value.string).toArray 9)) W1.heap.size (acWl.map Value.string).toArray 9 := inferInstance
 have hcl : ∀ j, j < acWl.length → (W1.alloc (.cells (acWl.map Value.string).toArray 9)).cell? ⟨W1.heap.size, 0 + j, none⟩ = some (.string (acWl.getD j ByteArray.empty)) := by
  intro j hj
  rw [Nat.zero_add, @block_cells _ _ j _ _ bL, List.getD_eq_getElem?_getD]
  simp [hj]
 have HIX0 := Tryz.slices_Index_string W1.heap.size 0 11 11 acWl (hdW ws) (W1.alloc (.cells (acWl.map Value.string).toArray 9)) (by decide) (by decide) hcl
 have HIX : Hid (Calls Tryz.prog 50 #[.slice (some ⟨W1.heap.size, 0, none⟩) 11 11, .string (hdW ws)] (W1.alloc (.cells #[.string ⟨#[]⟩, .string ⟨#[97, 115, 107]⟩, .string ⟨#[99, 97, 114, 114, 121]⟩, .string ⟨#[116, 105, 99, 107]⟩, .string ⟨#[111, 102, 102]⟩, .string ⟨#[111, 110]⟩, .string ⟨#[102, 117, 115, 101]⟩, .string ⟨#[108, 101, 97, 100]⟩, .string ⟨#[100, 101, 103, 114, 97, 100, 101]⟩, .string ⟨#[103, 114, 111, 119]⟩, .string ⟨#[97, 108, 108]⟩] 9)) (fun e w' => e = .returned (.int .i64 (Lib.idxOfS acWl (hdW ws))) ∧ W1.alloc (.cells #[.string ⟨#[]⟩, .string ⟨#[97, 115, 107]⟩, .string ⟨#[99, 97, 114, 114, 121]⟩, .string ⟨#[116, 105, 99, 107]⟩, .string ⟨#[111, 102, 102]⟩, .string ⟨#[111, 110]⟩, .string ⟨#[102, 117, 115, 101]⟩, .string ⟨#[108, 101, 97, 100]⟩, .string ⟨#[100, 101, 103, 114, 97, 100, 101]⟩, .string ⟨#[103, 114, 111, 119]⟩, .string ⟨#[97, 108, 108]⟩] 9) = w')) := Lib.hid (HIX0.mono fun _ _ ⟨a, b⟩ => ⟨a, b.symm⟩)
 clear HIX0
 clear hcl bL
 have hfi := force_idx (hdW ws)
 have hfk : aKOf (hdW ws) = if isForce (hdW ws) then 7 else max (Lib.idxOfS acWl (hdW ws)) 0 := rfl
 have hff : isForce (hdW ws) = ((hdW ws).toList == [102, 111, 114, 99, 101]) := by rw [isForce, Lib.toList_data]
 generalize Lib.idxOfS acWl (hdW ws) = ix at *
 have HFI := Lib.hid hfi; have HFK := Lib.hid hfk; have HFF := Lib.hid hff; clear hfi hfk hff
 go_wp2_with ((go_at_call 50; ((with_reducible refine HIX.out.mono ?_))))
 rintro _ _ ⟨rfl, rfl⟩
 clear HIX
 go_upto_if 21 with fail
 go_cut [6] from 14 to 23 (fun u6 wx => ∃ X, u6 = .pointer (some ⟨X, 0, none⟩) ∧ w.heap.size + 1 + 1 + 1 < X ∧ BlockAt wx X #[.int .i64 (aKOf (hdW ws)), .int .i64 0, .int .i64 0, .int .i64 0, .int .u64 0, .int .u64 0, .int .i64 0, .int .i64 0, .int .i64 0, .slice none 0 0, .bool (isForce (hdW ws)), .slice none 0 0] 42 ∧ BlockAt wx w.heap.size #[.int .i64 0, .int .i64 0, .int .i64 0, .int .i64 0, .int .u64 0, .int .u64 0, .int .i64 0, .int .i64 0, .int .i64 0, .slice none 0 0, .bool false, .slice none 0 0] 42 ∧ BlockAt wx (w.heap.size + 1 + 1 + 1) #[.pointer (some ⟨w.heap.size + 1 + 1, 0, none⟩)] 76 ∧ WS (w.heap.size + 1 + 1) wx (ws.drop 1) false ∧ Below w.heap.size w wx)
 case first =>
  have gA : ∀ (o : Obj), Gr W1 ((W1.alloc (.cells #[.string ⟨#[]⟩, .string ⟨#[97, 115, 107]⟩, .string ⟨#[99, 97, 114, 114, 121]⟩, .string ⟨#[116, 105, 99, 107]⟩, .string ⟨#[111, 102, 102]⟩, .string ⟨#[111, 110]⟩, .string ⟨#[102, 117, 115, 101]⟩, .string ⟨#[108, 101, 97, 100]⟩, .string ⟨#[100, 101, 103, 114, 97, 100, 101]⟩, .string ⟨#[103, 114, 111, 119]⟩, .string ⟨#[97, 108, 108]⟩] 9)).alloc o) := fun o => Gr.of (below_alloc (below_alloc (Below.refl _ _) _) _)
  haveI : BNe w.heap.size (W1.heap.size + 1) := ⟨by omega⟩
  haveI : BNe (w.heap.size + 1 + 1 + 1) (W1.heap.size + 1) := ⟨by omega⟩
  go_wp2
  ·rename_i hf
   have e1 : isForce (hdW ws) = true := by rw [HFF.out, hf]
   have e2 : aKOf (hdW ws) = 7 := by rw [HFK.out, if_pos e1]
   have E1 := Lib.hid e1; have E2 := Lib.hid e2; clear e1 e2
   go_meet
   case rel =>
    refine ⟨W1.heap.size + 1, rfl, by omega, by rw [E1.out, E2.out]; infer_instance, ?_, ?_, ?_, ?_⟩
    ·haveI := BR1.out; infer_instance
    ·haveI := BW1.out; infer_instance
    ·(with_reducible repeat (first | exact H1.out | refine WS.alloc ?_ _ | refine WS.setB ?_ _ (by omega) (by rfl)))
    ·(with_reducible repeat (first | exact HB1.out | apply below_alloc | refine below_set_le ?_ (by omega) _ | apply Below.drew))
  ·rename_i hf
   have e1 : isForce (hdW ws) = false := by rw [HFF.out, hf]
   have e2 : aKOf (hdW ws) = max ix 0 := by rw [HFK.out, if_neg (by rw [e1]; simp)]
   have E1 := Lib.hid e1; have E2 := Lib.hid e2; clear e1 e2
   go_meet
   case rel =>
    refine ⟨W1.heap.size + 1, rfl, by omega, by rw [E1.out, E2.out]; infer_instance, ?_, ?_, ?_, ?_⟩
    ·haveI := BR1.out; infer_instance
    ·haveI := BW1.out; infer_instance
    ·exact H1.out.gr2 (gA _)
    ·exact HB1.out.trans ((gA _).below.mono (by have := HB1.out.size; omega))
 case rest =>
  obtain ⟨X, rfl, hX, bX, bR, bW, hw1, hb⟩ := hcut
  have hFK : isForce (hdW ws) = true → aKOf (hdW ws) = 7 := fun h => by rw [aKOf, if_pos h]
  clear hs1 H1 BR1 BW1 HB1 HFI HFK HFF
  generalize hKK : aKOf (hdW ws) = K at *
  generalize hFF : isForce (hdW ws) = F at *
  have HKK := Lib.hid hKK; have HF9 := Lib.hid hFF; clear hKK hFF
  have HW1 := Lib.hid hw1; have HB := Lib.hid hb; have HXX := Lib.hid hX; have HFF := Lib.hid hFK; clear hw1 hb hX hFK
  haveI : Tb wc := HTB.out _ HB.out
  haveI : Ml wc := HML.out _ HB.out
  go_upto_region 6 with fail
  go_cut [27] from 24 to 27 (fun u27 wx => ∃ it, u27 = .pointer (some ⟨it, 0, none⟩) ∧ X < it ∧ IterAt wx it (actPartsB K) 0 ∧ BlockAt wx X #[.int .i64 K, .int .i64 0, .int .i64 0, .int .i64 0, .int .u64 0, .int .u64 0, .int .i64 0, .int .i64 0, .int .i64 0, .slice none 0 0, .bool F, .slice none 0 0] 42 ∧ BlockAt wx w.heap.size #[.int .i64 0, .int .i64 0, .int .i64 0, .int .i64 0, .int .u64 0, .int .u64 0, .int .i64 0, .int .i64 0, .int .i64 0, .slice none 0 0, .bool false, .slice none 0 0] 42 ∧ BlockAt wx (w.heap.size + 1 + 1 + 1) #[.pointer (some ⟨w.heap.size + 1 + 1, 0, none⟩)] 76 ∧ WS (w.heap.size + 1 + 1) wx (ws.drop 1) false ∧ Below w.heap.size w wx)
  case first =>
   have x0 : wc.cell? ⟨X, 0, none⟩ = some (.int .i64 K) := (@block_cells _ _ 0 _ _ bX).trans rfl
   go_wp2_with ((go_at_call 52; ((with_reducible refine (actPartsB_any K _).mono ?_); rintro _ _ ⟨rfl, g, rfl⟩)))
   go_meet
   case rel =>
    refine ⟨_, rfl, ?_, inferInstance, inferInstance, inferInstance, inferInstance, ?_, ?_⟩
    ·have := (inferInstance : BlockAt (grown wc g) X _ _).lt; omega
    ·exact (HW1.out.gr g).gr2 (Gr.of (below_alloc (Below.refl _ _) _))
    ·(with_reducible repeat (first | exact HB.out | apply below_alloc | refine below_trans ?_ (grown_below _ _)))
  case rest =>
   clear bX bR bW HW1 HB
   obtain ⟨it, rfl, hit, iI, bX, bR, bW, hw1, hb⟩ := hcut
   have HW1 := Lib.hid hw1; have HB := Lib.hid hb; have HIT := Lib.hid hit; clear hw1 hb hit
   haveI : BNe X it := ⟨by have := HIT.out; omega⟩
   haveI : BNe w.heap.size X := ⟨by have := HXX.out; omega⟩
   haveI : BNe (w.heap.size + 1 + 1 + 1) X := ⟨by have := HXX.out; omega⟩
   have hX := HXX.out
   have hit := HIT.out
   haveI : Tb wc := HTB.out _ HB.out
   haveI : Ml wc := HML.out _ HB.out
   haveI : Far (w.heap.size + 1 + 1) := ⟨by omega⟩
   haveI : Far it := ⟨by omega⟩
   haveI : Far X := ⟨by omega⟩
   have cW1 : wc.cell? ⟨w.heap.size + 1 + 1 + 1, 0, none⟩ = some (.pointer (some ⟨w.heap.size + 1 + 1, 0, none⟩)) := (@block_cells _ _ 0 _ _ bW).trans rfl
   obtain ⟨op2, hO2⟩ : ∃ o, opValK (kOf (hdW (ws.drop 2))) (ws.drop 2) = o := ⟨_, rfl⟩
   have HO2 := Lib.hid hO2; clear hO2
   have HW2 := Lib.hid (fun y hy => HW.out y (List.mem_of_mem_drop hy) : ∀ y ∈ ws.drop 2, y.size ≤ 200000)
   go_upto_block 0 with fail
   go_cut [8] from 28 to 49 (fun u8 wx => ActAt w (w.heap.size + 1 + 1) (w.heap.size + 1 + 1 + 1) X (acV K F ws) wx (acRest K ws) (acBad K ws))
   case first =>
    have hk3 : K = 0 ∨ K = 1 ∨ K = 2 ∨ K = 3 ∨ K = 4 ∨ K = 5 ∨ K = 6 ∨ K = 7 ∨ K = 8 ∨ K = 9 ∨ K = 10 := by have := HKL.out; omega
    rcases hk3 with rfl | rfl | rfl | rfl | rfl | rfl | rfl | rfl | rfl | rfl | rfl
    ·-- 0
     have ep : actPartsB 0 = ⟨#[]⟩ := rfl
     rw [ep] at iI
     clear ep
     have HBa := HB
     go_wp2
     refine wp_loop_rounds 1 ?_
     rw [rounds_succ]
     go_wp2
     go_meet
     case rel =>
      refine ⟨?_, ?_, inferInstance, by show BlockAt _ w.heap.size #[.int .i64 0, .int .i64 0, .int .i64 0, .int .i64 0, .int .u64 0, .int .u64 0, .int .i64 0, .int .i64 0, .int .i64 0, .slice none 0 0, .bool false, .slice none 0 0] _; infer_instance, ⟨none, 0, none, 0, 0, 0, by show BlockAt _ X #[.int .i64 0, .int .i64 0, .int .i64 0, .int .i64 0, .int .u64 0, .int .u64 0, .int .i64 0, .int .i64 0, .int .i64 0, .slice none 0 0, .bool F, .slice none 0 0] _; infer_instance, Nat.le_refl _, OwnR.nil _ _, Nat.le_refl _, OwnR.nil _ _⟩⟩
      ·(with_reducible repeat (first | exact HB.out | apply below_alloc | refine below_set_le ?_ (by omega) _ | refine below_trans ?_ (grown_below _ _) | refine below_iter ?_ (by omega) _ _))
      ·show WS _ _ (ws.drop 1) (false)
       repeat (first | with_reducible exact HW1.out | with_reducible refine WS.alloc ?_ _ | with_reducible refine WS.grown_ ?_ _ | with_reducible refine WS.iter_ ?_ _ _ _ _ | refine WS.setB ?_ _ (by omega) (by rfl))
    ·-- 1
     have ep : actPartsB 1 = ⟨#[100, 111]⟩ := rfl
     rw [ep] at iI
     clear ep
     have HBa := HB
     go_wp2
     refine wp_loop_rounds 3 ?_
     rw [rounds_succ]
     go_wp2_with ((go_at_call 53; ((with_reducible refine (small_1 ws 1 _ _ false ?k1w2).mono ?_))))
     case k1w2 => repeat (first | with_reducible exact HW1.out | with_reducible refine WS.alloc ?_ _ | with_reducible refine WS.grown_ ?_ _ | with_reducible refine WS.iter_ ?_ _ _ _ _ | refine WS.setB ?_ _ (by omega) (by rfl))
     rintro _ W2 ⟨rfl, h2, r2⟩
     haveI : Tb W2 := r2.tb
     haveI : Ml W2 := r2.ml
     haveI bR2 : BlockAt W2 w.heap.size #[.int .i64 0, .int .i64 0, .int .i64 0, .int .i64 0, .int .u64 0, .int .u64 0, .int .i64 0, .int .i64 0, .int .i64 0, .slice none 0 0, .bool false, .slice none 0 0] 42 := r2.blockAt inferInstance (by omega)
     haveI bW2 : BlockAt W2 (w.heap.size + 1 + 1 + 1) #[.pointer (some ⟨w.heap.size + 1 + 1, 0, none⟩)] 76 := r2.blockAt inferInstance (by omega)
     haveI bX2 : BlockAt W2 X #[.int .i64 1, .int .i64 0, .int .i64 0, .int .i64 0, .int .u64 0, .int .u64 0, .int .i64 0, .int .i64 0, .int .i64 0, .slice none 0 0, .bool F, .slice none 0 0] 42 := r2.blockAt inferInstance (by omega)
     haveI iI2 : IterAt W2 it ⟨#[100, 111]⟩ 1 := r2.iterAt inferInstance (by omega)
     have hb2 : Below w.heap.size w W2 := below_wrd (by (with_reducible repeat (first | exact HB.out | apply below_alloc | refine below_set_le ?_ (by omega) _ | refine below_trans ?_ (grown_below _ _) | refine below_iter ?_ (by omega) _ _))) r2 (by omega)
     have hs2 : it < W2.heap.size := iI2.lt
     have cX2_1 : W2.cell? ⟨X, 1, none⟩ = some (.int .i64 0) := (@block_cells _ _ 1 _ _ bX2).trans rfl
     have fX2_1 : W2.frozen? ⟨X, 1, none⟩ = false := @block_frozen _ _ 1 _ _ bX2
     have cW2 : W2.cell? ⟨w.heap.size + 1 + 1 + 1, 0, none⟩ = some (.pointer (some ⟨w.heap.size + 1 + 1, 0, none⟩)) := (@block_cells _ _ 0 _ _ bW2).trans rfl
     have H2 := Lib.hid h2; have HB2 := Lib.hid hb2; clear h2 r2 hb2
     go_wp2
     rw [rounds_succ]
     obtain ⟨ok, ov, ot, os, oa, oc, od⟩ := op2
     go_wp2_with ((go_at_call 37; ((with_reducible refine (op_w _ _ (ws.drop 2) (false || bD ws 1 1) ?k1w3 HW2.out ok ov ot os oa oc od HO2.out).mono ?_))))
     case k1w3 => repeat (first | with_reducible exact H2.out | with_reducible refine WS.alloc ?_ _ | with_reducible refine WS.grown_ ?_ _ | with_reducible refine WS.iter_ ?_ _ _ _ _ | refine WS.setB ?_ _ (by omega) (by rfl))
     rintro _ W3 ⟨Ad, cd, rfl, hcd, hrd, h3, r3⟩
     haveI : Tb W3 := r3.tb
     haveI : Ml W3 := r3.ml
     haveI bR3 : BlockAt W3 w.heap.size #[.int .i64 0, .int .i64 0, .int .i64 0, .int .i64 0, .int .u64 0, .int .u64 0, .int .i64 0, .int .i64 0, .int .i64 0, .slice none 0 0, .bool false, .slice none 0 0] 42 := r3.blockAt inferInstance (by omega)
     haveI bW3 : BlockAt W3 (w.heap.size + 1 + 1 + 1) #[.pointer (some ⟨w.heap.size + 1 + 1, 0, none⟩)] 76 := r3.blockAt inferInstance (by omega)
     haveI bX3 : BlockAt W3 X #[.int .i64 1, .int .i64 (nD ws 1 1), .int .i64 0, .int .i64 0, .int .u64 0, .int .u64 0, .int .i64 0, .int .i64 0, .int .i64 0, .slice none 0 0, .bool F, .slice none 0 0] 42 := r3.blockAt inferInstance (by omega)
     haveI iI3 : IterAt W3 it ⟨#[100, 111]⟩ 2 := r3.iterAt inferInstance (by omega)
     have hb3 : Below w.heap.size w W3 := below_wrd (by (with_reducible repeat (first | exact HB2.out | apply below_alloc | refine below_set_le ?_ (by omega) _ | refine below_trans ?_ (grown_below _ _) | refine below_iter ?_ (by omega) _ _))) r3 (by omega)
     have hs3 : it < W3.heap.size := iI3.lt
     have cX3_3 : W3.cell? ⟨X, 3, none⟩ = some (.int .i64 0) := (@block_cells _ _ 3 _ _ bX3).trans rfl
     have fX3_3 : W3.frozen? ⟨X, 3, none⟩ = false := @block_frozen _ _ 3 _ _ bX3
     have cX3_4 : W3.cell? ⟨X, 4, none⟩ = some (.int .u64 0) := (@block_cells _ _ 4 _ _ bX3).trans rfl
     have fX3_4 : W3.frozen? ⟨X, 4, none⟩ = false := @block_frozen _ _ 4 _ _ bX3
     have cX3_5 : W3.cell? ⟨X, 5, none⟩ = some (.int .u64 0) := (@block_cells _ _ 5 _ _ bX3).trans rfl
     have fX3_5 : W3.frozen? ⟨X, 5, none⟩ = false := @block_frozen _ _ 5 _ _ bX3
     have cX3_6 : W3.cell? ⟨X, 6, none⟩ = some (.int .i64 0) := (@block_cells _ _ 6 _ _ bX3).trans rfl
     have fX3_6 : W3.frozen? ⟨X, 6, none⟩ = false := @block_frozen _ _ 6 _ _ bX3
     have cX3_7 : W3.cell? ⟨X, 7, none⟩ = some (.int .i64 0) := (@block_cells _ _ 7 _ _ bX3).trans rfl
     have fX3_7 : W3.frozen? ⟨X, 7, none⟩ = false := @block_frozen _ _ 7 _ _ bX3
     have cX3_8 : W3.cell? ⟨X, 8, none⟩ = some (.int .i64 0) := (@block_cells _ _ 8 _ _ bX3).trans rfl
     have fX3_8 : W3.frozen? ⟨X, 8, none⟩ = false := @block_frozen _ _ 8 _ _ bX3
     have cX3_9 : W3.cell? ⟨X, 9, none⟩ = some (.slice none 0 0) := (@block_cells _ _ 9 _ _ bX3).trans rfl
     have fX3_9 : W3.frozen? ⟨X, 9, none⟩ = false := @block_frozen _ _ 9 _ _ bX3
     have cW3 : W3.cell? ⟨w.heap.size + 1 + 1 + 1, 0, none⟩ = some (.pointer (some ⟨w.heap.size + 1 + 1, 0, none⟩)) := (@block_cells _ _ 0 _ _ bW3).trans rfl
     obtain ⟨b0, hrd0⟩ : ∃ b, OwnR bv 5 b W3 (.slice Ad od.length cd) od := ⟨_, hrd⟩
     have HRD := Lib.hid hrd0; clear hrd hrd0
     have H3 := Lib.hid h3; have HB3 := Lib.hid hb3; clear h3 r3 hb3
     go_wp2
     rw [rounds_succ]
     go_wp2
     go_meet
     case rel =>
      refine ⟨?_, ?_, inferInstance, by show BlockAt _ w.heap.size #[.int .i64 0, .int .i64 0, .int .i64 0, .int .i64 0, .int .u64 0, .int .u64 0, .int .i64 0, .int .i64 0, .int .i64 0, .slice none 0 0, .bool false, .slice none 0 0] _; infer_instance, ⟨Ad, cd, none, 0, b0, 0, by rw [show acV 1 F ws = ⟨1, nD ws 1 1, 0, ⟨ok, ov, ot, os, oa, oc, od⟩, F, []⟩ from by rw [← HO2.out]; rfl]; show BlockAt _ X #[.int .i64 1, .int .i64 (nD ws 1 1), .int .i64 0, .int .i64 ok, .int .u64 ov, .int .u64 ot, .int .i64 os, .int .i64 oa, .int .i64 oc, .slice Ad od.length cd, .bool F, .slice none 0 0] _; infer_instance, by rw [show acV 1 F ws = ⟨1, nD ws 1 1, 0, ⟨ok, ov, ot, os, oa, oc, od⟩, F, []⟩ from by rw [← HO2.out]; rfl]; exact hcd, by rw [show acV 1 F ws = ⟨1, nD ws 1 1, 0, ⟨ok, ov, ot, os, oa, oc, od⟩, F, []⟩ from by rw [← HO2.out]; rfl]; show OwnR bv 5 b0 _ (.slice Ad od.length cd) od; (with_reducible repeat (first | exact HRD.out | refine OwnR.set_ ?_ _ _ _ (by decide))), Nat.le_refl _, OwnR.nil _ _⟩⟩
      ·(with_reducible repeat (first | exact HB3.out | apply below_alloc | refine below_set_le ?_ (by omega) _ | refine below_trans ?_ (grown_below _ _) | refine below_iter ?_ (by omega) _ _))
      ·show WS _ _ ((ws.drop 2).drop (opLenK (kOf (hdW (ws.drop 2))))) (opBadK (kOf (hdW (ws.drop 2))) (ws.drop 2) (false || bD ws 1 1))
       repeat (first | with_reducible exact H3.out | with_reducible refine WS.alloc ?_ _ | with_reducible refine WS.grown_ ?_ _ | with_reducible refine WS.iter_ ?_ _ _ _ _ | refine WS.setB ?_ _ (by omega) (by rfl))
    ·-- 2
     have ep : actPartsB 2 = ⟨#[110]⟩ := rfl
     rw [ep] at iI
     clear ep
     have HBa := HB
     go_wp2
     refine wp_loop_rounds 2 ?_
     rw [rounds_succ]
     go_wp2_with ((go_at_call 53; ((with_reducible refine (small_n ws 1 _ _ false ?k2w2).mono ?_))))
     case k2w2 => repeat (first | with_reducible exact HW1.out | with_reducible refine WS.alloc ?_ _ | with_reducible refine WS.grown_ ?_ _ | with_reducible refine WS.iter_ ?_ _ _ _ _ | refine WS.setB ?_ _ (by omega) (by rfl))
     rintro _ W2 ⟨rfl, h2, r2⟩
     haveI : Tb W2 := r2.tb
     haveI : Ml W2 := r2.ml
     haveI bR2 : BlockAt W2 w.heap.size #[.int .i64 0, .int .i64 0, .int .i64 0, .int .i64 0, .int .u64 0, .int .u64 0, .int .i64 0, .int .i64 0, .int .i64 0, .slice none 0 0, .bool false, .slice none 0 0] 42 := r2.blockAt inferInstance (by omega)
     haveI bW2 : BlockAt W2 (w.heap.size + 1 + 1 + 1) #[.pointer (some ⟨w.heap.size + 1 + 1, 0, none⟩)] 76 := r2.blockAt inferInstance (by omega)
     haveI bX2 : BlockAt W2 X #[.int .i64 2, .int .i64 0, .int .i64 0, .int .i64 0, .int .u64 0, .int .u64 0, .int .i64 0, .int .i64 0, .int .i64 0, .slice none 0 0, .bool F, .slice none 0 0] 42 := r2.blockAt inferInstance (by omega)
     haveI iI2 : IterAt W2 it ⟨#[110]⟩ 1 := r2.iterAt inferInstance (by omega)
     have hb2 : Below w.heap.size w W2 := below_wrd (by (with_reducible repeat (first | exact HB.out | apply below_alloc | refine below_set_le ?_ (by omega) _ | refine below_trans ?_ (grown_below _ _) | refine below_iter ?_ (by omega) _ _))) r2 (by omega)
     have hs2 : it < W2.heap.size := iI2.lt
     have cX2_2 : W2.cell? ⟨X, 2, none⟩ = some (.int .i64 0) := (@block_cells _ _ 2 _ _ bX2).trans rfl
     have fX2_2 : W2.frozen? ⟨X, 2, none⟩ = false := @block_frozen _ _ 2 _ _ bX2
     have cW2 : W2.cell? ⟨w.heap.size + 1 + 1 + 1, 0, none⟩ = some (.pointer (some ⟨w.heap.size + 1 + 1, 0, none⟩)) := (@block_cells _ _ 0 _ _ bW2).trans rfl
     have H2 := Lib.hid h2; have HB2 := Lib.hid hb2; clear h2 r2 hb2
     go_wp2
     rw [rounds_succ]
     go_wp2
     go_meet
     case rel =>
      refine ⟨?_, ?_, inferInstance, by show BlockAt _ w.heap.size #[.int .i64 0, .int .i64 0, .int .i64 0, .int .i64 0, .int .u64 0, .int .u64 0, .int .i64 0, .int .i64 0, .int .i64 0, .slice none 0 0, .bool false, .slice none 0 0] _; infer_instance, ⟨none, 0, none, 0, 0, 0, by show BlockAt _ X #[.int .i64 2, .int .i64 0, .int .i64 (nD ws 1 1000000), .int .i64 0, .int .u64 0, .int .u64 0, .int .i64 0, .int .i64 0, .int .i64 0, .slice none 0 0, .bool F, .slice none 0 0] _; infer_instance, Nat.le_refl _, OwnR.nil _ _, Nat.le_refl _, OwnR.nil _ _⟩⟩
      ·(with_reducible repeat (first | exact HB2.out | apply below_alloc | refine below_set_le ?_ (by omega) _ | refine below_trans ?_ (grown_below _ _) | refine below_iter ?_ (by omega) _ _))
      ·show WS _ _ (ws.drop 2) ((false || bD ws 1 1000000))
       repeat (first | with_reducible exact H2.out | with_reducible refine WS.alloc ?_ _ | with_reducible refine WS.grown_ ?_ _ | with_reducible refine WS.iter_ ?_ _ _ _ _ | refine WS.setB ?_ _ (by omega) (by rfl))
    ·-- 3
     have ep : actPartsB 3 = ⟨#[100]⟩ := rfl
     rw [ep] at iI
     clear ep
     have HBa := HB
     go_wp2
     refine wp_loop_rounds 2 ?_
     rw [rounds_succ]
     go_wp2_with ((go_at_call 53; ((with_reducible refine (small_1 ws 1 _ _ false ?k3w2).mono ?_))))
     case k3w2 => repeat (first | with_reducible exact HW1.out | with_reducible refine WS.alloc ?_ _ | with_reducible refine WS.grown_ ?_ _ | with_reducible refine WS.iter_ ?_ _ _ _ _ | refine WS.setB ?_ _ (by omega) (by rfl))
     rintro _ W2 ⟨rfl, h2, r2⟩
     haveI : Tb W2 := r2.tb
     haveI : Ml W2 := r2.ml
     haveI bR2 : BlockAt W2 w.heap.size #[.int .i64 0, .int .i64 0, .int .i64 0, .int .i64 0, .int .u64 0, .int .u64 0, .int .i64 0, .int .i64 0, .int .i64 0, .slice none 0 0, .bool false, .slice none 0 0] 42 := r2.blockAt inferInstance (by omega)
     haveI bW2 : BlockAt W2 (w.heap.size + 1 + 1 + 1) #[.pointer (some ⟨w.heap.size + 1 + 1, 0, none⟩)] 76 := r2.blockAt inferInstance (by omega)
     haveI bX2 : BlockAt W2 X #[.int .i64 3, .int .i64 0, .int .i64 0, .int .i64 0, .int .u64 0, .int .u64 0, .int .i64 0, .int .i64 0, .int .i64 0, .slice none 0 0, .bool F, .slice none 0 0] 42 := r2.blockAt inferInstance (by omega)
     haveI iI2 : IterAt W2 it ⟨#[100]⟩ 1 := r2.iterAt inferInstance (by omega)
     have hb2 : Below w.heap.size w W2 := below_wrd (by (with_reducible repeat (first | exact HB.out | apply below_alloc | refine below_set_le ?_ (by omega) _ | refine below_trans ?_ (grown_below _ _) | refine below_iter ?_ (by omega) _ _))) r2 (by omega)
     have hs2 : it < W2.heap.size := iI2.lt
     have cX2_1 : W2.cell? ⟨X, 1, none⟩ = some (.int .i64 0) := (@block_cells _ _ 1 _ _ bX2).trans rfl
     have fX2_1 : W2.frozen? ⟨X, 1, none⟩ = false := @block_frozen _ _ 1 _ _ bX2
     have cW2 : W2.cell? ⟨w.heap.size + 1 + 1 + 1, 0, none⟩ = some (.pointer (some ⟨w.heap.size + 1 + 1, 0, none⟩)) := (@block_cells _ _ 0 _ _ bW2).trans rfl
     have H2 := Lib.hid h2; have HB2 := Lib.hid hb2; clear h2 r2 hb2
     go_wp2
     rw [rounds_succ]
     go_wp2
     go_meet
     case rel =>
      refine ⟨?_, ?_, inferInstance, by show BlockAt _ w.heap.size #[.int .i64 0, .int .i64 0, .int .i64 0, .int .i64 0, .int .u64 0, .int .u64 0, .int .i64 0, .int .i64 0, .int .i64 0, .slice none 0 0, .bool false, .slice none 0 0] _; infer_instance, ⟨none, 0, none, 0, 0, 0, by show BlockAt _ X #[.int .i64 3, .int .i64 (nD ws 1 1), .int .i64 0, .int .i64 0, .int .u64 0, .int .u64 0, .int .i64 0, .int .i64 0, .int .i64 0, .slice none 0 0, .bool F, .slice none 0 0] _; infer_instance, Nat.le_refl _, OwnR.nil _ _, Nat.le_refl _, OwnR.nil _ _⟩⟩
      ·(with_reducible repeat (first | exact HB2.out | apply below_alloc | refine below_set_le ?_ (by omega) _ | refine below_trans ?_ (grown_below _ _) | refine below_iter ?_ (by omega) _ _))
      ·show WS _ _ (ws.drop 2) ((false || bD ws 1 1))
       repeat (first | with_reducible exact H2.out | with_reducible refine WS.alloc ?_ _ | with_reducible refine WS.grown_ ?_ _ | with_reducible refine WS.iter_ ?_ _ _ _ _ | refine WS.setB ?_ _ (by omega) (by rfl))
    ·-- 4
     have ep : actPartsB 4 = ⟨#[100, 112]⟩ := rfl
     rw [ep] at iI
     clear ep
     have HBa := HB
     go_wp2
     refine wp_loop_rounds 3 ?_
     rw [rounds_succ]
     go_wp2_with ((go_at_call 53; ((with_reducible refine (small_1 ws 1 _ _ false ?k4w2).mono ?_))))
     case k4w2 => repeat (first | with_reducible exact HW1.out | with_reducible refine WS.alloc ?_ _ | with_reducible refine WS.grown_ ?_ _ | with_reducible refine WS.iter_ ?_ _ _ _ _ | refine WS.setB ?_ _ (by omega) (by rfl))
     rintro _ W2 ⟨rfl, h2, r2⟩
     haveI : Tb W2 := r2.tb
     haveI : Ml W2 := r2.ml
     haveI bR2 : BlockAt W2 w.heap.size #[.int .i64 0, .int .i64 0, .int .i64 0, .int .i64 0, .int .u64 0, .int .u64 0, .int .i64 0, .int .i64 0, .int .i64 0, .slice none 0 0, .bool false, .slice none 0 0] 42 := r2.blockAt inferInstance (by omega)
     haveI bW2 : BlockAt W2 (w.heap.size + 1 + 1 + 1) #[.pointer (some ⟨w.heap.size + 1 + 1, 0, none⟩)] 76 := r2.blockAt inferInstance (by omega)
     haveI bX2 : BlockAt W2 X #[.int .i64 4, .int .i64 0, .int .i64 0, .int .i64 0, .int .u64 0, .int .u64 0, .int .i64 0, .int .i64 0, .int .i64 0, .slice none 0 0, .bool F, .slice none 0 0] 42 := r2.blockAt inferInstance (by omega)
     haveI iI2 : IterAt W2 it ⟨#[100, 112]⟩ 1 := r2.iterAt inferInstance (by omega)
     have hb2 : Below w.heap.size w W2 := below_wrd (by (with_reducible repeat (first | exact HB.out | apply below_alloc | refine below_set_le ?_ (by omega) _ | refine below_trans ?_ (grown_below _ _) | refine below_iter ?_ (by omega) _ _))) r2 (by omega)
     have hs2 : it < W2.heap.size := iI2.lt
     have cX2_1 : W2.cell? ⟨X, 1, none⟩ = some (.int .i64 0) := (@block_cells _ _ 1 _ _ bX2).trans rfl
     have fX2_1 : W2.frozen? ⟨X, 1, none⟩ = false := @block_frozen _ _ 1 _ _ bX2
     have cW2 : W2.cell? ⟨w.heap.size + 1 + 1 + 1, 0, none⟩ = some (.pointer (some ⟨w.heap.size + 1 + 1, 0, none⟩)) := (@block_cells _ _ 0 _ _ bW2).trans rfl
     have H2 := Lib.hid h2; have HB2 := Lib.hid hb2; clear h2 r2 hb2
     go_wp2
     rw [rounds_succ]
     go_wp2_with ((go_at_call 54; ((with_reducible refine (row_any _ _ _ X 4 (nD ws 1 1) 0 F (ws.drop 2) (false || bD ws 1 1) ?k4w3 ?k4h ?k4x ?k4c ?k4n ?k4o ?k4q).mono ?_))))
     case k4w3 => repeat (first | with_reducible exact H2.out | with_reducible refine WS.alloc ?_ _ | with_reducible refine WS.grown_ ?_ _ | with_reducible refine WS.iter_ ?_ _ _ _ _ | refine WS.setB ?_ _ (by omega) (by rfl))
     case k4h => exact hd_le HW.out 2
     case k4x => show BlockAt _ X #[.int .i64 4, .int .i64 (nD ws 1 1), .int .i64 0, .int .i64 0, .int .u64 0, .int .u64 0, .int .i64 0, .int .i64 0, .int .i64 0, .slice none 0 0, .bool F, .slice none 0 0] _; infer_instance
     case k4c => infer_instance
     case k4n => omega
     case k4o => omega
     case k4q => omega
     rintro _ W3 ⟨rfl, hp⟩
     obtain ⟨v9, hv9, ho9⟩ := hp.x
     obtain ⟨Av, cv, rfl, hcv, _⟩ := ho9.form
     have hrv := ho9
     haveI bR3 : BlockAt W3 w.heap.size #[.int .i64 0, .int .i64 0, .int .i64 0, .int .i64 0, .int .u64 0, .int .u64 0, .int .i64 0, .int .i64 0, .int .i64 0, .slice none 0 0, .bool false, .slice none 0 0] 42 := frm_block hp.frm (by decide) (by omega) (by omega)
     haveI bW3 : BlockAt W3 (w.heap.size + 1 + 1 + 1) #[.pointer (some ⟨w.heap.size + 1 + 1, 0, none⟩)] 76 := hp.wc
     haveI bX3 : BlockAt W3 X #[.int .i64 4, .int .i64 (nD ws 1 1), .int .i64 0, .int .i64 0, .int .u64 0, .int .u64 0, .int .i64 0, .int .i64 0, .int .i64 0, .slice none 0 0, .bool F, .slice Av (pkOf (hdW (ws.drop 2))).length cv] 42 := hv9
     haveI iI3 : IterAt W3 it ⟨#[100, 112]⟩ 2 := frm_iter hp.frm (by omega) (by omega)
     have hb3 : Below w.heap.size w W3 := below_frm (by (with_reducible repeat (first | exact HB2.out | apply below_alloc | refine below_set_le ?_ (by omega) _ | refine below_trans ?_ (grown_below _ _) | refine below_iter ?_ (by omega) _ _))) hp.frm (by omega) (by omega)
     have h3 := hp.ws
     rw [List.tail_drop] at h3
     have H3 := Lib.hid h3; have HB3 := Lib.hid hb3; have HRV := Lib.hid hrv; clear h3 hb3 hp hv9 ho9 hrv
     go_wp2
     rw [rounds_succ]
     go_wp2
     go_meet
     case rel =>
      refine ⟨?_, ?_, inferInstance, by show BlockAt _ w.heap.size #[.int .i64 0, .int .i64 0, .int .i64 0, .int .i64 0, .int .u64 0, .int .u64 0, .int .i64 0, .int .i64 0, .int .i64 0, .slice none 0 0, .bool false, .slice none 0 0] _; infer_instance, ⟨none, 0, Av, cv, 0, _, by show BlockAt _ X #[.int .i64 4, .int .i64 (nD ws 1 1), .int .i64 0, .int .i64 0, .int .u64 0, .int .u64 0, .int .i64 0, .int .i64 0, .int .i64 0, .slice none 0 0, .bool F, .slice Av (pkOf (hdW (ws.drop 2))).length cv] _; infer_instance, Nat.le_refl _, OwnR.nil _ _, hcv, HRV.out⟩⟩
      ·(with_reducible repeat (first | exact HB3.out | apply below_alloc | refine below_set_le ?_ (by omega) _ | refine below_trans ?_ (grown_below _ _) | refine below_iter ?_ (by omega) _ _))
      ·show WS _ _ (ws.drop 3) ((((false || bD ws 1 1) || (ws.drop 2).isEmpty) || pkBad (hdW (ws.drop 2))))
       repeat (first | with_reducible exact H3.out | with_reducible refine WS.alloc ?_ _ | with_reducible refine WS.grown_ ?_ _ | with_reducible refine WS.iter_ ?_ _ _ _ _ | refine WS.setB ?_ _ (by omega) (by rfl))
    ·-- 5
     have ep : actPartsB 5 = ⟨#[100, 112]⟩ := rfl
     rw [ep] at iI
     clear ep
     have HBa := HB
     go_wp2
     refine wp_loop_rounds 3 ?_
     rw [rounds_succ]
     go_wp2_with ((go_at_call 53; ((with_reducible refine (small_1 ws 1 _ _ false ?k5w2).mono ?_))))
     case k5w2 => repeat (first | with_reducible exact HW1.out | with_reducible refine WS.alloc ?_ _ | with_reducible refine WS.grown_ ?_ _ | with_reducible refine WS.iter_ ?_ _ _ _ _ | refine WS.setB ?_ _ (by omega) (by rfl))
     rintro _ W2 ⟨rfl, h2, r2⟩
     haveI : Tb W2 := r2.tb
     haveI : Ml W2 := r2.ml
     haveI bR2 : BlockAt W2 w.heap.size #[.int .i64 0, .int .i64 0, .int .i64 0, .int .i64 0, .int .u64 0, .int .u64 0, .int .i64 0, .int .i64 0, .int .i64 0, .slice none 0 0, .bool false, .slice none 0 0] 42 := r2.blockAt inferInstance (by omega)
     haveI bW2 : BlockAt W2 (w.heap.size + 1 + 1 + 1) #[.pointer (some ⟨w.heap.size + 1 + 1, 0, none⟩)] 76 := r2.blockAt inferInstance (by omega)
     haveI bX2 : BlockAt W2 X #[.int .i64 5, .int .i64 0, .int .i64 0, .int .i64 0, .int .u64 0, .int .u64 0, .int .i64 0, .int .i64 0, .int .i64 0, .slice none 0 0, .bool F, .slice none 0 0] 42 := r2.blockAt inferInstance (by omega)
     haveI iI2 : IterAt W2 it ⟨#[100, 112]⟩ 1 := r2.iterAt inferInstance (by omega)
     have hb2 : Below w.heap.size w W2 := below_wrd (by (with_reducible repeat (first | exact HB.out | apply below_alloc | refine below_set_le ?_ (by omega) _ | refine below_trans ?_ (grown_below _ _) | refine below_iter ?_ (by omega) _ _))) r2 (by omega)
     have hs2 : it < W2.heap.size := iI2.lt
     have cX2_1 : W2.cell? ⟨X, 1, none⟩ = some (.int .i64 0) := (@block_cells _ _ 1 _ _ bX2).trans rfl
     have fX2_1 : W2.frozen? ⟨X, 1, none⟩ = false := @block_frozen _ _ 1 _ _ bX2
     have cW2 : W2.cell? ⟨w.heap.size + 1 + 1 + 1, 0, none⟩ = some (.pointer (some ⟨w.heap.size + 1 + 1, 0, none⟩)) := (@block_cells _ _ 0 _ _ bW2).trans rfl
     have H2 := Lib.hid h2; have HB2 := Lib.hid hb2; clear h2 r2 hb2
     go_wp2
     rw [rounds_succ]
     go_wp2_with ((go_at_call 54; ((with_reducible refine (row_any _ _ _ X 5 (nD ws 1 1) 0 F (ws.drop 2) (false || bD ws 1 1) ?k5w3 ?k5h ?k5x ?k5c ?k5n ?k5o ?k5q).mono ?_))))
     case k5w3 => repeat (first | with_reducible exact H2.out | with_reducible refine WS.alloc ?_ _ | with_reducible refine WS.grown_ ?_ _ | with_reducible refine WS.iter_ ?_ _ _ _ _ | refine WS.setB ?_ _ (by omega) (by rfl))
     case k5h => exact hd_le HW.out 2
     case k5x => show BlockAt _ X #[.int .i64 5, .int .i64 (nD ws 1 1), .int .i64 0, .int .i64 0, .int .u64 0, .int .u64 0, .int .i64 0, .int .i64 0, .int .i64 0, .slice none 0 0, .bool F, .slice none 0 0] _; infer_instance
     case k5c => infer_instance
     case k5n => omega
     case k5o => omega
     case k5q => omega
     rintro _ W3 ⟨rfl, hp⟩
     obtain ⟨v9, hv9, ho9⟩ := hp.x
     obtain ⟨Av, cv, rfl, hcv, _⟩ := ho9.form
     have hrv := ho9
     haveI bR3 : BlockAt W3 w.heap.size #[.int .i64 0, .int .i64 0, .int .i64 0, .int .i64 0, .int .u64 0, .int .u64 0, .int .i64 0, .int .i64 0, .int .i64 0, .slice none 0 0, .bool false, .slice none 0 0] 42 := frm_block hp.frm (by decide) (by omega) (by omega)
     haveI bW3 : BlockAt W3 (w.heap.size + 1 + 1 + 1) #[.pointer (some ⟨w.heap.size + 1 + 1, 0, none⟩)] 76 := hp.wc
     haveI bX3 : BlockAt W3 X #[.int .i64 5, .int .i64 (nD ws 1 1), .int .i64 0, .int .i64 0, .int .u64 0, .int .u64 0, .int .i64 0, .int .i64 0, .int .i64 0, .slice none 0 0, .bool F, .slice Av (pkOf (hdW (ws.drop 2))).length cv] 42 := hv9
     haveI iI3 : IterAt W3 it ⟨#[100, 112]⟩ 2 := frm_iter hp.frm (by omega) (by omega)
     have hb3 : Below w.heap.size w W3 := below_frm (by (with_reducible repeat (first | exact HB2.out | apply below_alloc | refine below_set_le ?_ (by omega) _ | refine below_trans ?_ (grown_below _ _) | refine below_iter ?_ (by omega) _ _))) hp.frm (by omega) (by omega)
     have h3 := hp.ws
     rw [List.tail_drop] at h3
     have H3 := Lib.hid h3; have HB3 := Lib.hid hb3; have HRV := Lib.hid hrv; clear h3 hb3 hp hv9 ho9 hrv
     go_wp2
     rw [rounds_succ]
     go_wp2
     go_meet
     case rel =>
      refine ⟨?_, ?_, inferInstance, by show BlockAt _ w.heap.size #[.int .i64 0, .int .i64 0, .int .i64 0, .int .i64 0, .int .u64 0, .int .u64 0, .int .i64 0, .int .i64 0, .int .i64 0, .slice none 0 0, .bool false, .slice none 0 0] _; infer_instance, ⟨none, 0, Av, cv, 0, _, by show BlockAt _ X #[.int .i64 5, .int .i64 (nD ws 1 1), .int .i64 0, .int .i64 0, .int .u64 0, .int .u64 0, .int .i64 0, .int .i64 0, .int .i64 0, .slice none 0 0, .bool F, .slice Av (pkOf (hdW (ws.drop 2))).length cv] _; infer_instance, Nat.le_refl _, OwnR.nil _ _, hcv, HRV.out⟩⟩
      ·(with_reducible repeat (first | exact HB3.out | apply below_alloc | refine below_set_le ?_ (by omega) _ | refine below_trans ?_ (grown_below _ _) | refine below_iter ?_ (by omega) _ _))
      ·show WS _ _ (ws.drop 3) ((((false || bD ws 1 1) || (ws.drop 2).isEmpty) || pkBad (hdW (ws.drop 2))))
       repeat (first | with_reducible exact H3.out | with_reducible refine WS.alloc ?_ _ | with_reducible refine WS.grown_ ?_ _ | with_reducible refine WS.iter_ ?_ _ _ _ _ | refine WS.setB ?_ _ (by omega) (by rfl))
    ·-- 6
     have ep : actPartsB 6 = ⟨#[100, 110]⟩ := rfl
     rw [ep] at iI
     clear ep
     have HBa := HB
     go_wp2
     refine wp_loop_rounds 3 ?_
     rw [rounds_succ]
     go_wp2_with ((go_at_call 53; ((with_reducible refine (small_1 ws 1 _ _ false ?k6w2).mono ?_))))
     case k6w2 => repeat (first | with_reducible exact HW1.out | with_reducible refine WS.alloc ?_ _ | with_reducible refine WS.grown_ ?_ _ | with_reducible refine WS.iter_ ?_ _ _ _ _ | refine WS.setB ?_ _ (by omega) (by rfl))
     rintro _ W2 ⟨rfl, h2, r2⟩
     haveI : Tb W2 := r2.tb
     haveI : Ml W2 := r2.ml
     haveI bR2 : BlockAt W2 w.heap.size #[.int .i64 0, .int .i64 0, .int .i64 0, .int .i64 0, .int .u64 0, .int .u64 0, .int .i64 0, .int .i64 0, .int .i64 0, .slice none 0 0, .bool false, .slice none 0 0] 42 := r2.blockAt inferInstance (by omega)
     haveI bW2 : BlockAt W2 (w.heap.size + 1 + 1 + 1) #[.pointer (some ⟨w.heap.size + 1 + 1, 0, none⟩)] 76 := r2.blockAt inferInstance (by omega)
     haveI bX2 : BlockAt W2 X #[.int .i64 6, .int .i64 0, .int .i64 0, .int .i64 0, .int .u64 0, .int .u64 0, .int .i64 0, .int .i64 0, .int .i64 0, .slice none 0 0, .bool F, .slice none 0 0] 42 := r2.blockAt inferInstance (by omega)
     haveI iI2 : IterAt W2 it ⟨#[100, 110]⟩ 1 := r2.iterAt inferInstance (by omega)
     have hb2 : Below w.heap.size w W2 := below_wrd (by (with_reducible repeat (first | exact HB.out | apply below_alloc | refine below_set_le ?_ (by omega) _ | refine below_trans ?_ (grown_below _ _) | refine below_iter ?_ (by omega) _ _))) r2 (by omega)
     have hs2 : it < W2.heap.size := iI2.lt
     have cX2_1 : W2.cell? ⟨X, 1, none⟩ = some (.int .i64 0) := (@block_cells _ _ 1 _ _ bX2).trans rfl
     have fX2_1 : W2.frozen? ⟨X, 1, none⟩ = false := @block_frozen _ _ 1 _ _ bX2
     have cW2 : W2.cell? ⟨w.heap.size + 1 + 1 + 1, 0, none⟩ = some (.pointer (some ⟨w.heap.size + 1 + 1, 0, none⟩)) := (@block_cells _ _ 0 _ _ bW2).trans rfl
     have H2 := Lib.hid h2; have HB2 := Lib.hid hb2; clear h2 r2 hb2
     go_wp2
     rw [rounds_succ]
     go_wp2_with ((go_at_call 53; ((with_reducible refine (small_n ws 2 _ _ (false || bD ws 1 1) ?k6w3).mono ?_))))
     case k6w3 => repeat (first | with_reducible exact H2.out | with_reducible refine WS.alloc ?_ _ | with_reducible refine WS.grown_ ?_ _ | with_reducible refine WS.iter_ ?_ _ _ _ _ | refine WS.setB ?_ _ (by omega) (by rfl))
     rintro _ W3 ⟨rfl, h3, r3⟩
     haveI : Tb W3 := r3.tb
     haveI : Ml W3 := r3.ml
     haveI bR3 : BlockAt W3 w.heap.size #[.int .i64 0, .int .i64 0, .int .i64 0, .int .i64 0, .int .u64 0, .int .u64 0, .int .i64 0, .int .i64 0, .int .i64 0, .slice none 0 0, .bool false, .slice none 0 0] 42 := r3.blockAt inferInstance (by omega)
     haveI bW3 : BlockAt W3 (w.heap.size + 1 + 1 + 1) #[.pointer (some ⟨w.heap.size + 1 + 1, 0, none⟩)] 76 := r3.blockAt inferInstance (by omega)
     haveI bX3 : BlockAt W3 X #[.int .i64 6, .int .i64 (nD ws 1 1), .int .i64 0, .int .i64 0, .int .u64 0, .int .u64 0, .int .i64 0, .int .i64 0, .int .i64 0, .slice none 0 0, .bool F, .slice none 0 0] 42 := r3.blockAt inferInstance (by omega)
     haveI iI3 : IterAt W3 it ⟨#[100, 110]⟩ 2 := r3.iterAt inferInstance (by omega)
     have hb3 : Below w.heap.size w W3 := below_wrd (by (with_reducible repeat (first | exact HB2.out | apply below_alloc | refine below_set_le ?_ (by omega) _ | refine below_trans ?_ (grown_below _ _) | refine below_iter ?_ (by omega) _ _))) r3 (by omega)
     have hs3 : it < W3.heap.size := iI3.lt
     have cX3_2 : W3.cell? ⟨X, 2, none⟩ = some (.int .i64 0) := (@block_cells _ _ 2 _ _ bX3).trans rfl
     have fX3_2 : W3.frozen? ⟨X, 2, none⟩ = false := @block_frozen _ _ 2 _ _ bX3
     have cW3 : W3.cell? ⟨w.heap.size + 1 + 1 + 1, 0, none⟩ = some (.pointer (some ⟨w.heap.size + 1 + 1, 0, none⟩)) := (@block_cells _ _ 0 _ _ bW3).trans rfl
     have H3 := Lib.hid h3; have HB3 := Lib.hid hb3; clear h3 r3 hb3
     go_wp2
     rw [rounds_succ]
     go_wp2
     go_meet
     case rel =>
      refine ⟨?_, ?_, inferInstance, by show BlockAt _ w.heap.size #[.int .i64 0, .int .i64 0, .int .i64 0, .int .i64 0, .int .u64 0, .int .u64 0, .int .i64 0, .int .i64 0, .int .i64 0, .slice none 0 0, .bool false, .slice none 0 0] _; infer_instance, ⟨none, 0, none, 0, 0, 0, by show BlockAt _ X #[.int .i64 6, .int .i64 (nD ws 1 1), .int .i64 (nD ws 2 1000000), .int .i64 0, .int .u64 0, .int .u64 0, .int .i64 0, .int .i64 0, .int .i64 0, .slice none 0 0, .bool F, .slice none 0 0] _; infer_instance, Nat.le_refl _, OwnR.nil _ _, Nat.le_refl _, OwnR.nil _ _⟩⟩
      ·(with_reducible repeat (first | exact HB3.out | apply below_alloc | refine below_set_le ?_ (by omega) _ | refine below_trans ?_ (grown_below _ _) | refine below_iter ?_ (by omega) _ _))
      ·show WS _ _ (ws.drop 3) (((false || bD ws 1 1) || bD ws 2 1000000))
       repeat (first | with_reducible exact H3.out | with_reducible refine WS.alloc ?_ _ | with_reducible refine WS.grown_ ?_ _ | with_reducible refine WS.iter_ ?_ _ _ _ _ | refine WS.setB ?_ _ (by omega) (by rfl))
    ·-- 7
     have ep : actPartsB 7 = ⟨#[100]⟩ := rfl
     rw [ep] at iI
     clear ep
     have HBa := HB
     go_wp2
     refine wp_loop_rounds 2 ?_
     rw [rounds_succ]
     go_wp2_with ((go_at_call 53; ((with_reducible refine (small_1 ws 1 _ _ false ?k7w2).mono ?_))))
     case k7w2 => repeat (first | with_reducible exact HW1.out | with_reducible refine WS.alloc ?_ _ | with_reducible refine WS.grown_ ?_ _ | with_reducible refine WS.iter_ ?_ _ _ _ _ | refine WS.setB ?_ _ (by omega) (by rfl))
     rintro _ W2 ⟨rfl, h2, r2⟩
     haveI : Tb W2 := r2.tb
     haveI : Ml W2 := r2.ml
     haveI bR2 : BlockAt W2 w.heap.size #[.int .i64 0, .int .i64 0, .int .i64 0, .int .i64 0, .int .u64 0, .int .u64 0, .int .i64 0, .int .i64 0, .int .i64 0, .slice none 0 0, .bool false, .slice none 0 0] 42 := r2.blockAt inferInstance (by omega)
     haveI bW2 : BlockAt W2 (w.heap.size + 1 + 1 + 1) #[.pointer (some ⟨w.heap.size + 1 + 1, 0, none⟩)] 76 := r2.blockAt inferInstance (by omega)
     haveI bX2 : BlockAt W2 X #[.int .i64 7, .int .i64 0, .int .i64 0, .int .i64 0, .int .u64 0, .int .u64 0, .int .i64 0, .int .i64 0, .int .i64 0, .slice none 0 0, .bool F, .slice none 0 0] 42 := r2.blockAt inferInstance (by omega)
     haveI iI2 : IterAt W2 it ⟨#[100]⟩ 1 := r2.iterAt inferInstance (by omega)
     have hb2 : Below w.heap.size w W2 := below_wrd (by (with_reducible repeat (first | exact HB.out | apply below_alloc | refine below_set_le ?_ (by omega) _ | refine below_trans ?_ (grown_below _ _) | refine below_iter ?_ (by omega) _ _))) r2 (by omega)
     have hs2 : it < W2.heap.size := iI2.lt
     have cX2_1 : W2.cell? ⟨X, 1, none⟩ = some (.int .i64 0) := (@block_cells _ _ 1 _ _ bX2).trans rfl
     have fX2_1 : W2.frozen? ⟨X, 1, none⟩ = false := @block_frozen _ _ 1 _ _ bX2
     have cW2 : W2.cell? ⟨w.heap.size + 1 + 1 + 1, 0, none⟩ = some (.pointer (some ⟨w.heap.size + 1 + 1, 0, none⟩)) := (@block_cells _ _ 0 _ _ bW2).trans rfl
     have H2 := Lib.hid h2; have HB2 := Lib.hid hb2; clear h2 r2 hb2
     go_wp2
     rw [rounds_succ]
     go_wp2
     go_meet
     case rel =>
      refine ⟨?_, ?_, inferInstance, by show BlockAt _ w.heap.size #[.int .i64 0, .int .i64 0, .int .i64 0, .int .i64 0, .int .u64 0, .int .u64 0, .int .i64 0, .int .i64 0, .int .i64 0, .slice none 0 0, .bool false, .slice none 0 0] _; infer_instance, ⟨none, 0, none, 0, 0, 0, by show BlockAt _ X #[.int .i64 7, .int .i64 (nD ws 1 1), .int .i64 0, .int .i64 0, .int .u64 0, .int .u64 0, .int .i64 0, .int .i64 0, .int .i64 0, .slice none 0 0, .bool F, .slice none 0 0] _; infer_instance, Nat.le_refl _, OwnR.nil _ _, Nat.le_refl _, OwnR.nil _ _⟩⟩
      ·(with_reducible repeat (first | exact HB2.out | apply below_alloc | refine below_set_le ?_ (by omega) _ | refine below_trans ?_ (grown_below _ _) | refine below_iter ?_ (by omega) _ _))
      ·show WS _ _ (ws.drop 2) ((false || bD ws 1 1))
       repeat (first | with_reducible exact H2.out | with_reducible refine WS.alloc ?_ _ | with_reducible refine WS.grown_ ?_ _ | with_reducible refine WS.iter_ ?_ _ _ _ _ | refine WS.setB ?_ _ (by omega) (by rfl))
    ·-- 8
     have ep : actPartsB 8 = ⟨#[100]⟩ := rfl
     rw [ep] at iI
     clear ep
     have HBa := HB
     go_wp2
     refine wp_loop_rounds 2 ?_
     rw [rounds_succ]
     go_wp2_with ((go_at_call 53; ((with_reducible refine (small_1 ws 1 _ _ false ?k8w2).mono ?_))))
     case k8w2 => repeat (first | with_reducible exact HW1.out | with_reducible refine WS.alloc ?_ _ | with_reducible refine WS.grown_ ?_ _ | with_reducible refine WS.iter_ ?_ _ _ _ _ | refine WS.setB ?_ _ (by omega) (by rfl))
     rintro _ W2 ⟨rfl, h2, r2⟩
     haveI : Tb W2 := r2.tb
     haveI : Ml W2 := r2.ml
     haveI bR2 : BlockAt W2 w.heap.size #[.int .i64 0, .int .i64 0, .int .i64 0, .int .i64 0, .int .u64 0, .int .u64 0, .int .i64 0, .int .i64 0, .int .i64 0, .slice none 0 0, .bool false, .slice none 0 0] 42 := r2.blockAt inferInstance (by omega)
     haveI bW2 : BlockAt W2 (w.heap.size + 1 + 1 + 1) #[.pointer (some ⟨w.heap.size + 1 + 1, 0, none⟩)] 76 := r2.blockAt inferInstance (by omega)
     haveI bX2 : BlockAt W2 X #[.int .i64 8, .int .i64 0, .int .i64 0, .int .i64 0, .int .u64 0, .int .u64 0, .int .i64 0, .int .i64 0, .int .i64 0, .slice none 0 0, .bool F, .slice none 0 0] 42 := r2.blockAt inferInstance (by omega)
     haveI iI2 : IterAt W2 it ⟨#[100]⟩ 1 := r2.iterAt inferInstance (by omega)
     have hb2 : Below w.heap.size w W2 := below_wrd (by (with_reducible repeat (first | exact HB.out | apply below_alloc | refine below_set_le ?_ (by omega) _ | refine below_trans ?_ (grown_below _ _) | refine below_iter ?_ (by omega) _ _))) r2 (by omega)
     have hs2 : it < W2.heap.size := iI2.lt
     have cX2_1 : W2.cell? ⟨X, 1, none⟩ = some (.int .i64 0) := (@block_cells _ _ 1 _ _ bX2).trans rfl
     have fX2_1 : W2.frozen? ⟨X, 1, none⟩ = false := @block_frozen _ _ 1 _ _ bX2
     have cW2 : W2.cell? ⟨w.heap.size + 1 + 1 + 1, 0, none⟩ = some (.pointer (some ⟨w.heap.size + 1 + 1, 0, none⟩)) := (@block_cells _ _ 0 _ _ bW2).trans rfl
     have H2 := Lib.hid h2; have HB2 := Lib.hid hb2; clear h2 r2 hb2
     go_wp2
     rw [rounds_succ]
     go_wp2
     go_meet
     case rel =>
      refine ⟨?_, ?_, inferInstance, by show BlockAt _ w.heap.size #[.int .i64 0, .int .i64 0, .int .i64 0, .int .i64 0, .int .u64 0, .int .u64 0, .int .i64 0, .int .i64 0, .int .i64 0, .slice none 0 0, .bool false, .slice none 0 0] _; infer_instance, ⟨none, 0, none, 0, 0, 0, by show BlockAt _ X #[.int .i64 8, .int .i64 (nD ws 1 1), .int .i64 0, .int .i64 0, .int .u64 0, .int .u64 0, .int .i64 0, .int .i64 0, .int .i64 0, .slice none 0 0, .bool F, .slice none 0 0] _; infer_instance, Nat.le_refl _, OwnR.nil _ _, Nat.le_refl _, OwnR.nil _ _⟩⟩
      ·(with_reducible repeat (first | exact HB2.out | apply below_alloc | refine below_set_le ?_ (by omega) _ | refine below_trans ?_ (grown_below _ _) | refine below_iter ?_ (by omega) _ _))
      ·show WS _ _ (ws.drop 2) ((false || bD ws 1 1))
       repeat (first | with_reducible exact H2.out | with_reducible refine WS.alloc ?_ _ | with_reducible refine WS.grown_ ?_ _ | with_reducible refine WS.iter_ ?_ _ _ _ _ | refine WS.setB ?_ _ (by omega) (by rfl))
    ·-- 9
     have ep : actPartsB 9 = ⟨#[100, 110]⟩ := rfl
     rw [ep] at iI
     clear ep
     have HBa := HB
     go_wp2
     refine wp_loop_rounds 3 ?_
     rw [rounds_succ]
     go_wp2_with ((go_at_call 53; ((with_reducible refine (small_1 ws 1 _ _ false ?k9w2).mono ?_))))
     case k9w2 => repeat (first | with_reducible exact HW1.out | with_reducible refine WS.alloc ?_ _ | with_reducible refine WS.grown_ ?_ _ | with_reducible refine WS.iter_ ?_ _ _ _ _ | refine WS.setB ?_ _ (by omega) (by rfl))
     rintro _ W2 ⟨rfl, h2, r2⟩
     haveI : Tb W2 := r2.tb
     haveI : Ml W2 := r2.ml
     haveI bR2 : BlockAt W2 w.heap.size #[.int .i64 0, .int .i64 0, .int .i64 0, .int .i64 0, .int .u64 0, .int .u64 0, .int .i64 0, .int .i64 0, .int .i64 0, .slice none 0 0, .bool false, .slice none 0 0] 42 := r2.blockAt inferInstance (by omega)
     haveI bW2 : BlockAt W2 (w.heap.size + 1 + 1 + 1) #[.pointer (some ⟨w.heap.size + 1 + 1, 0, none⟩)] 76 := r2.blockAt inferInstance (by omega)
     haveI bX2 : BlockAt W2 X #[.int .i64 9, .int .i64 0, .int .i64 0, .int .i64 0, .int .u64 0, .int .u64 0, .int .i64 0, .int .i64 0, .int .i64 0, .slice none 0 0, .bool F, .slice none 0 0] 42 := r2.blockAt inferInstance (by omega)
     haveI iI2 : IterAt W2 it ⟨#[100, 110]⟩ 1 := r2.iterAt inferInstance (by omega)
     have hb2 : Below w.heap.size w W2 := below_wrd (by (with_reducible repeat (first | exact HB.out | apply below_alloc | refine below_set_le ?_ (by omega) _ | refine below_trans ?_ (grown_below _ _) | refine below_iter ?_ (by omega) _ _))) r2 (by omega)
     have hs2 : it < W2.heap.size := iI2.lt
     have cX2_1 : W2.cell? ⟨X, 1, none⟩ = some (.int .i64 0) := (@block_cells _ _ 1 _ _ bX2).trans rfl
     have fX2_1 : W2.frozen? ⟨X, 1, none⟩ = false := @block_frozen _ _ 1 _ _ bX2
     have cW2 : W2.cell? ⟨w.heap.size + 1 + 1 + 1, 0, none⟩ = some (.pointer (some ⟨w.heap.size + 1 + 1, 0, none⟩)) := (@block_cells _ _ 0 _ _ bW2).trans rfl
     have H2 := Lib.hid h2; have HB2 := Lib.hid hb2; clear h2 r2 hb2
     go_wp2
     rw [rounds_succ]
     go_wp2_with ((go_at_call 53; ((with_reducible refine (small_n ws 2 _ _ (false || bD ws 1 1) ?k9w3).mono ?_))))
     case k9w3 => repeat (first | with_reducible exact H2.out | with_reducible refine WS.alloc ?_ _ | with_reducible refine WS.grown_ ?_ _ | with_reducible refine WS.iter_ ?_ _ _ _ _ | refine WS.setB ?_ _ (by omega) (by rfl))
     rintro _ W3 ⟨rfl, h3, r3⟩
     haveI : Tb W3 := r3.tb
     haveI : Ml W3 := r3.ml
     haveI bR3 : BlockAt W3 w.heap.size #[.int .i64 0, .int .i64 0, .int .i64 0, .int .i64 0, .int .u64 0, .int .u64 0, .int .i64 0, .int .i64 0, .int .i64 0, .slice none 0 0, .bool false, .slice none 0 0] 42 := r3.blockAt inferInstance (by omega)
     haveI bW3 : BlockAt W3 (w.heap.size + 1 + 1 + 1) #[.pointer (some ⟨w.heap.size + 1 + 1, 0, none⟩)] 76 := r3.blockAt inferInstance (by omega)
     haveI bX3 : BlockAt W3 X #[.int .i64 9, .int .i64 (nD ws 1 1), .int .i64 0, .int .i64 0, .int .u64 0, .int .u64 0, .int .i64 0, .int .i64 0, .int .i64 0, .slice none 0 0, .bool F, .slice none 0 0] 42 := r3.blockAt inferInstance (by omega)
     haveI iI3 : IterAt W3 it ⟨#[100, 110]⟩ 2 := r3.iterAt inferInstance (by omega)
     have hb3 : Below w.heap.size w W3 := below_wrd (by (with_reducible repeat (first | exact HB2.out | apply below_alloc | refine below_set_le ?_ (by omega) _ | refine below_trans ?_ (grown_below _ _) | refine below_iter ?_ (by omega) _ _))) r3 (by omega)
     have hs3 : it < W3.heap.size := iI3.lt
     have cX3_2 : W3.cell? ⟨X, 2, none⟩ = some (.int .i64 0) := (@block_cells _ _ 2 _ _ bX3).trans rfl
     have fX3_2 : W3.frozen? ⟨X, 2, none⟩ = false := @block_frozen _ _ 2 _ _ bX3
     have cW3 : W3.cell? ⟨w.heap.size + 1 + 1 + 1, 0, none⟩ = some (.pointer (some ⟨w.heap.size + 1 + 1, 0, none⟩)) := (@block_cells _ _ 0 _ _ bW3).trans rfl
     have H3 := Lib.hid h3; have HB3 := Lib.hid hb3; clear h3 r3 hb3
     go_wp2
     rw [rounds_succ]
     go_wp2
     go_meet
     case rel =>
      refine ⟨?_, ?_, inferInstance, by show BlockAt _ w.heap.size #[.int .i64 0, .int .i64 0, .int .i64 0, .int .i64 0, .int .u64 0, .int .u64 0, .int .i64 0, .int .i64 0, .int .i64 0, .slice none 0 0, .bool false, .slice none 0 0] _; infer_instance, ⟨none, 0, none, 0, 0, 0, by show BlockAt _ X #[.int .i64 9, .int .i64 (nD ws 1 1), .int .i64 (nD ws 2 1000000), .int .i64 0, .int .u64 0, .int .u64 0, .int .i64 0, .int .i64 0, .int .i64 0, .slice none 0 0, .bool F, .slice none 0 0] _; infer_instance, Nat.le_refl _, OwnR.nil _ _, Nat.le_refl _, OwnR.nil _ _⟩⟩
      ·(with_reducible repeat (first | exact HB3.out | apply below_alloc | refine below_set_le ?_ (by omega) _ | refine below_trans ?_ (grown_below _ _) | refine below_iter ?_ (by omega) _ _))
      ·show WS _ _ (ws.drop 3) (((false || bD ws 1 1) || bD ws 2 1000000))
       repeat (first | with_reducible exact H3.out | with_reducible refine WS.alloc ?_ _ | with_reducible refine WS.grown_ ?_ _ | with_reducible refine WS.iter_ ?_ _ _ _ _ | refine WS.setB ?_ _ (by omega) (by rfl))
    ·-- 10
     have ep : actPartsB 10 = ⟨#[]⟩ := rfl
     rw [ep] at iI
     clear ep
     have HBa := HB
     go_wp2
     refine wp_loop_rounds 1 ?_
     rw [rounds_succ]
     go_wp2
     go_meet
     case rel =>
      refine ⟨?_, ?_, inferInstance, by show BlockAt _ w.heap.size #[.int .i64 0, .int .i64 0, .int .i64 0, .int .i64 0, .int .u64 0, .int .u64 0, .int .i64 0, .int .i64 0, .int .i64 0, .slice none 0 0, .bool false, .slice none 0 0] _; infer_instance, ⟨none, 0, none, 0, 0, 0, by show BlockAt _ X #[.int .i64 10, .int .i64 0, .int .i64 0, .int .i64 0, .int .u64 0, .int .u64 0, .int .i64 0, .int .i64 0, .int .i64 0, .slice none 0 0, .bool F, .slice none 0 0] _; infer_instance, Nat.le_refl _, OwnR.nil _ _, Nat.le_refl _, OwnR.nil _ _⟩⟩
      ·(with_reducible repeat (first | exact HB.out | apply below_alloc | refine below_set_le ?_ (by omega) _ | refine below_trans ?_ (grown_below _ _) | refine below_iter ?_ (by omega) _ _))
      ·show WS _ _ (ws.drop 1) (false)
       repeat (first | with_reducible exact HW1.out | with_reducible refine WS.alloc ?_ _ | with_reducible refine WS.grown_ ?_ _ | with_reducible refine WS.iter_ ?_ _ _ _ _ | refine WS.setB ?_ _ (by omega) (by rfl))
   case rest =>
    clear iI bX bR bW HW1 HB HIT
    have hbd := acV_bd K HKL.out F ws HW.out
    have hgood : goodA x = (!acBad K ws && (acRest K ws).isEmpty && (acV K F ws).may && ((acV K F ws).text == x.data.toList)) := by
     rw [goodA, acX, HWS.out, HKK.out, HF9.out]
    have hres : acX x = acV K F ws := by rw [acX, HWS.out, HKK.out, HF9.out]
    obtain ⟨a9, hA⟩ : ∃ a, acV K F ws = a := ⟨_, rfl⟩
    rw [hA] at hcut hbd hgood hres
    obtain ⟨k, nd, m, ⟨ok, ov, ot, os, oa, oc, od⟩, f, pk⟩ := a9
    obtain ⟨hb, hws9, bW, bR, Ad, qd, Av, qv, b1, b2, bX, hqd, hrd, hqv, hrv⟩ := hcut
    simp only at hbd hqd hrd hqv hrv
    obtain ⟨hB, ⟨nd0, nd1⟩, ⟨m0, m1⟩, hdl, hpl, hpk⟩ := hbd
    have hPk : Pk pk := ⟨fun n hn => by have := hpk n hn; omega, fun n hn => by have := hpk n hn; omega⟩
    have hno : goodA x = false → actRes x = zA ∧ actE x = 4 := fun h => by simp [actRes, actE, h]
    have hyes : goodA x = true → actRes x = ⟨k, nd, m, ⟨ok, ov, ot, os, oa, oc, od⟩, f, pk⟩ ∧ actE x = 0 := fun h => by rw [actRes, actE, if_pos h, if_pos h]; exact ⟨hres, rfl⟩
    have HNO := Lib.hid hno; have HYES := Lib.hid hyes; have HGD := Lib.hid hgood; have HBB := Lib.hid hb; have HRD := Lib.hid hrd; have HRV := Lib.hid hrv
    have HQD := Lib.hid hqd; have HQV := Lib.hid hqv
    have p1 := hws9.c1
    have hop := hws9.old
    obtain ⟨A6, n6, p0, hn6, _, _⟩ := hws9.c0
    clear hno hyes hgood hb hrd hrv hws9 hA hres hpk hqd hqv
    haveI : Tb wc := HTB.out _ HBB.out
    haveI : Old (w.heap.size + 1 + 1) wc := hop
    haveI : Old X wc := bX.old
    haveI : Old w.heap.size wc := bR.old
    haveI : Old (w.heap.size + 1 + 1 + 1) wc := bW.old
    haveI : GrC w wc := ⟨HBB.out⟩
    have e1 : (w.heap.size = X) = False := by simp; omega
    have e2 : (X = w.heap.size) = False := by simp; omega
    have yw : wc.cell? ⟨w.heap.size + 1 + 1 + 1, 0, none⟩ = some (.pointer (some ⟨w.heap.size + 1 + 1, 0, none⟩)) := (@block_cells _ _ 0 _ _ bW).trans rfl
    have x0 : wc.cell? ⟨X, 0, none⟩ = some (.int .i64 k) := (@block_cells _ _ 0 _ _ bX).trans rfl
    have x1 : wc.cell? ⟨X, 1, none⟩ = some (.int .i64 nd) := (@block_cells _ _ 1 _ _ bX).trans rfl
    have x2 : wc.cell? ⟨X, 2, none⟩ = some (.int .i64 m) := (@block_cells _ _ 2 _ _ bX).trans rfl
    have x3 : wc.cell? ⟨X, 3, none⟩ = some (.int .i64 ok) := (@block_cells _ _ 3 _ _ bX).trans rfl
    have x4 : wc.cell? ⟨X, 4, none⟩ = some (.int .u64 ov) := (@block_cells _ _ 4 _ _ bX).trans rfl
    have x5 : wc.cell? ⟨X, 5, none⟩ = some (.int .u64 ot) := (@block_cells _ _ 5 _ _ bX).trans rfl
    have x6 : wc.cell? ⟨X, 6, none⟩ = some (.int .i64 os) := (@block_cells _ _ 6 _ _ bX).trans rfl
    have x7 : wc.cell? ⟨X, 7, none⟩ = some (.int .i64 oa) := (@block_cells _ _ 7 _ _ bX).trans rfl
    have x8 : wc.cell? ⟨X, 8, none⟩ = some (.int .i64 oc) := (@block_cells _ _ 8 _ _ bX).trans rfl
    have x9 : wc.cell? ⟨X, 9, none⟩ = some (.slice Ad od.length qd) := (@block_cells _ _ 9 _ _ bX).trans rfl
    have x10 : wc.cell? ⟨X, 10, none⟩ = some (.bool f) := (@block_cells _ _ 10 _ _ bX).trans rfl
    have x11 : wc.cell? ⟨X, 11, none⟩ = some (.slice Av pk.length qv) := (@block_cells _ _ 11 _ _ bX).trans rfl
    have y0 : wc.cell? ⟨w.heap.size, 0, none⟩ = some (.int .i64 0) := (@block_cells _ _ 0 _ _ bR).trans rfl
    have y1 : wc.cell? ⟨w.heap.size, 1, none⟩ = some (.int .i64 0) := (@block_cells _ _ 1 _ _ bR).trans rfl
    have y2 : wc.cell? ⟨w.heap.size, 2, none⟩ = some (.int .i64 0) := (@block_cells _ _ 2 _ _ bR).trans rfl
    have y3 : wc.cell? ⟨w.heap.size, 3, none⟩ = some (.int .i64 0) := (@block_cells _ _ 3 _ _ bR).trans rfl
    have y4 : wc.cell? ⟨w.heap.size, 4, none⟩ = some (.int .u64 0) := (@block_cells _ _ 4 _ _ bR).trans rfl
    have y5 : wc.cell? ⟨w.heap.size, 5, none⟩ = some (.int .u64 0) := (@block_cells _ _ 5 _ _ bR).trans rfl
    have y6 : wc.cell? ⟨w.heap.size, 6, none⟩ = some (.int .i64 0) := (@block_cells _ _ 6 _ _ bR).trans rfl
    have y7 : wc.cell? ⟨w.heap.size, 7, none⟩ = some (.int .i64 0) := (@block_cells _ _ 7 _ _ bR).trans rfl
    have y8 : wc.cell? ⟨w.heap.size, 8, none⟩ = some (.int .i64 0) := (@block_cells _ _ 8 _ _ bR).trans rfl
    have y9 : wc.cell? ⟨w.heap.size, 9, none⟩ = some (.slice none 0 0) := (@block_cells _ _ 9 _ _ bR).trans rfl
    have y10 : wc.cell? ⟨w.heap.size, 10, none⟩ = some (.bool false) := (@block_cells _ _ 10 _ _ bR).trans rfl
    have y11 : wc.cell? ⟨w.heap.size, 11, none⟩ = some (.slice none 0 0) := (@block_cells _ _ 11 _ _ bR).trans rfl
    have z0 : wc.frozen? ⟨w.heap.size, 0, none⟩ = false := @block_frozen _ _ 0 _ _ bR
    have z1 : wc.frozen? ⟨w.heap.size, 1, none⟩ = false := @block_frozen _ _ 1 _ _ bR
    have z2 : wc.frozen? ⟨w.heap.size, 2, none⟩ = false := @block_frozen _ _ 2 _ _ bR
    have z3 : wc.frozen? ⟨w.heap.size, 3, none⟩ = false := @block_frozen _ _ 3 _ _ bR
    have z4 : wc.frozen? ⟨w.heap.size, 4, none⟩ = false := @block_frozen _ _ 4 _ _ bR
    have z5 : wc.frozen? ⟨w.heap.size, 5, none⟩ = false := @block_frozen _ _ 5 _ _ bR
    have z6 : wc.frozen? ⟨w.heap.size, 6, none⟩ = false := @block_frozen _ _ 6 _ _ bR
    have z7 : wc.frozen? ⟨w.heap.size, 7, none⟩ = false := @block_frozen _ _ 7 _ _ bR
    have z8 : wc.frozen? ⟨w.heap.size, 8, none⟩ = false := @block_frozen _ _ 8 _ _ bR
    have z9 : wc.frozen? ⟨w.heap.size, 9, none⟩ = false := @block_frozen _ _ 9 _ _ bR
    have z10 : wc.frozen? ⟨w.heap.size, 10, none⟩ = false := @block_frozen _ _ 10 _ _ bR
    have z11 : wc.frozen? ⟨w.heap.size, 11, none⟩ = false := @block_frozen _ _ 11 _ _ bR
    have HMM := Lib.hid (fun W (hW : GrC wc W) => mayAct_any k nd m ok ov ot os oa oc Ad Av od.length qd pk.length qv f od pk W rfl (by omega) (HRD.out.row.gr (Gr.of hW.b)) rfl (by omega) (HRV.out.row.gr (Gr.of hW.b)))
    rcases Bool.eq_false_or_eq_true (acBad K ws) with hBd | hBd
    ·rw [hBd] at p1
     have hg : goodA x = false := by rw [HGD.out, hBd]; rfl
     have HG := Lib.hid (HNO.out hg); clear hg hBd
     go_wp2
     exact bodyPost_ret (v := .tuple #[.agg #[.int .i64 0, .int .i64 0, .int .i64 0, .int .i64 0, .int .u64 0, .int .u64 0, .int .i64 0, .int .i64 0, .int .i64 0, .slice none 0 0, .bool false, .slice none 0 0], .int .i64 4]) (by simp [results, Tryz.results19, go_sem, e1, e2, x0, x1, x2, x3, x4, x5, x6, x7, x8, x9, x10, x11, y0, y1, y2, y3, y4, y5, y6, y7, y8, y9, y10, y11, z0, z1, z2, z3, z4, z5, z6, z7, z8, z9, z10, z11]) rfl ⟨none, 0, none, 0, by rw [HG.out.1, HG.out.2]; rfl, by rw [HG.out.1]; exact Nat.le_refl _, by rw [HG.out.1]; exact ⟨0, OwnR.nil _ _⟩, by rw [HG.out.1]; exact Nat.le_refl _, by rw [HG.out.1]; exact ⟨0, OwnR.nil _ _⟩, Gr.of (by (with_reducible repeat (first | exact HBB.out | apply below_alloc | refine below_set_le ?_ (by omega) _ | refine below_trans ?_ (grown_below _ _))))⟩
    ·rw [hBd] at p1
     rcases Nat.eq_zero_or_pos (acRest K ws).length with hL | hL
     ·have hLe : (acRest K ws).isEmpty = true := by cases hr : acRest K ws with | nil => rfl | cons y r => rw [hr] at hL; simp at hL
      rw [hL] at p0
      rcases Bool.eq_false_or_eq_true (mayActB k nd m ok ov ot os oa oc f od.length pk.length od pk) with hM | hM
      ·have HTT := Lib.hid (fun W (_ : Tb W) (hW : GrC wc W) => actText_any k nd m ok ov ot os oa oc Ad Av od.length qd pk.length qv f od pk W (by omega) (by omega) (by omega) (by omega) hB rfl HQD.out (HRD.out.row.gr (Gr.of hW.b)) rfl HQV.out hPk (HRV.out.row.gr (Gr.of hW.b)) hM)
       rw [hM] at HMM
       have hM2 : (⟨k, nd, m, ⟨ok, ov, ot, os, oa, oc, od⟩, f, pk⟩ : ActV).may = true := hM
       rcases Bool.eq_false_or_eq_true (actTextL k nd m ok ov ot os oa oc f od pk == x.data.toList) with hS | hS
       ·have hS2 : ((⟨k, nd, m, ⟨ok, ov, ot, os, oa, oc, od⟩, f, pk⟩ : ActV).text == x.data.toList) = true := hS
        have hg : goodA x = true := by rw [HGD.out, hBd, hLe, hM2, hS2]; rfl
        have HG := Lib.hid (HYES.out hg); clear hg
        have hne : (actTextL k nd m ok ov ot os oa oc f od pk == x.toList) = true := by rw [Lib.toList_data]; exact hS
        clear hS hM hM2 hS2 hBd hL hLe
        go_wp2_with (first | (go_at_call 22; ((with_reducible refine (HMM.out _ inferInstance).mono ?_); rintro _ _ ⟨rfl, g1, rfl⟩)) | (go_at_call 42; ((with_reducible refine (HTT.out _ inferInstance inferInstance).mono ?_); rintro _ _ ⟨rfl, g2, rfl⟩)))
        exact bodyPost_ret (v := .tuple #[.agg #[.int .i64 k, .int .i64 nd, .int .i64 m, .int .i64 ok, .int .u64 ov, .int .u64 ot, .int .i64 os, .int .i64 oa, .int .i64 oc, .slice Ad od.length qd, .bool f, .slice Av pk.length qv], .int .i64 0]) (by simp [results, Tryz.results19, go_sem, e1, e2, x0, x1, x2, x3, x4, x5, x6, x7, x8, x9, x10, x11, y0, y1, y2, y3, y4, y5, y6, y7, y8, y9, y10, y11, z0, z1, z2, z3, z4, z5, z6, z7, z8, z9, z10, z11]) rfl ⟨Ad, qd, Av, qv, by rw [HG.out.1, HG.out.2]; rfl, by rw [HG.out.1]; exact HQD.out, by rw [HG.out.1]; refine ⟨b1, ?_⟩; show OwnR bv 5 b1 _ (.slice Ad od.length qd) od; (with_reducible repeat (first | exact HRD.out | refine OwnR.grown_ ?_ _ | refine OwnR.set_ ?_ _ _ _ (by decide))), by rw [HG.out.1]; exact HQV.out, by rw [HG.out.1]; refine ⟨b2, ?_⟩; show OwnR (Value.int .i64) 3 b2 _ (.slice Av pk.length qv) pk; (with_reducible repeat (first | exact HRV.out | refine OwnR.grown_ ?_ _ | refine OwnR.set_ ?_ _ _ _ (by decide))), Gr.of (by (with_reducible repeat (first | exact HBB.out | apply below_alloc | refine below_set_le ?_ (by omega) _ | refine below_trans ?_ (grown_below _ _))))⟩
       ·have hS2 : ((⟨k, nd, m, ⟨ok, ov, ot, os, oa, oc, od⟩, f, pk⟩ : ActV).text == x.data.toList) = false := hS
        have hg : goodA x = false := by rw [HGD.out, hBd, hLe, hM2, hS2]; rfl
        have HG := Lib.hid (HNO.out hg); clear hg
        have hne : (actTextL k nd m ok ov ot os oa oc f od pk == x.toList) = false := by rw [Lib.toList_data]; exact hS
        clear hS hM hM2 hS2 hBd hL hLe
        go_wp2_with (first | (go_at_call 22; ((with_reducible refine (HMM.out _ inferInstance).mono ?_); rintro _ _ ⟨rfl, g1, rfl⟩)) | (go_at_call 42; ((with_reducible refine (HTT.out _ inferInstance inferInstance).mono ?_); rintro _ _ ⟨rfl, g2, rfl⟩)))
        exact bodyPost_ret (v := .tuple #[.agg #[.int .i64 0, .int .i64 0, .int .i64 0, .int .i64 0, .int .u64 0, .int .u64 0, .int .i64 0, .int .i64 0, .int .i64 0, .slice none 0 0, .bool false, .slice none 0 0], .int .i64 4]) (by simp [results, Tryz.results19, go_sem, e1, e2, x0, x1, x2, x3, x4, x5, x6, x7, x8, x9, x10, x11, y0, y1, y2, y3, y4, y5, y6, y7, y8, y9, y10, y11, z0, z1, z2, z3, z4, z5, z6, z7, z8, z9, z10, z11]) rfl ⟨none, 0, none, 0, by rw [HG.out.1, HG.out.2]; rfl, by rw [HG.out.1]; exact Nat.le_refl _, by rw [HG.out.1]; exact ⟨0, OwnR.nil _ _⟩, by rw [HG.out.1]; exact Nat.le_refl _, by rw [HG.out.1]; exact ⟨0, OwnR.nil _ _⟩, Gr.of (by (with_reducible repeat (first | exact HBB.out | apply below_alloc | refine below_set_le ?_ (by omega) _ | refine below_trans ?_ (grown_below _ _))))⟩
      ·rw [hM] at HMM
       have hM2 : (⟨k, nd, m, ⟨ok, ov, ot, os, oa, oc, od⟩, f, pk⟩ : ActV).may = false := hM
       have hg : goodA x = false := by rw [HGD.out, hBd, hLe, hM2]; rfl
       have HG := Lib.hid (HNO.out hg); clear hg hM hM2 hBd hL hLe
       go_wp2_with (first | (go_at_call 22; ((with_reducible refine (HMM.out _ inferInstance).mono ?_); rintro _ _ ⟨rfl, g1, rfl⟩)) | (go_at_call 42; ((with_reducible refine (HTT.out _ inferInstance inferInstance).mono ?_); rintro _ _ ⟨rfl, g2, rfl⟩)))
       exact bodyPost_ret (v := .tuple #[.agg #[.int .i64 0, .int .i64 0, .int .i64 0, .int .i64 0, .int .u64 0, .int .u64 0, .int .i64 0, .int .i64 0, .int .i64 0, .slice none 0 0, .bool false, .slice none 0 0], .int .i64 4]) (by simp [results, Tryz.results19, go_sem, e1, e2, x0, x1, x2, x3, x4, x5, x6, x7, x8, x9, x10, x11, y0, y1, y2, y3, y4, y5, y6, y7, y8, y9, y10, y11, z0, z1, z2, z3, z4, z5, z6, z7, z8, z9, z10, z11]) rfl ⟨none, 0, none, 0, by rw [HG.out.1, HG.out.2]; rfl, by rw [HG.out.1]; exact Nat.le_refl _, by rw [HG.out.1]; exact ⟨0, OwnR.nil _ _⟩, by rw [HG.out.1]; exact Nat.le_refl _, by rw [HG.out.1]; exact ⟨0, OwnR.nil _ _⟩, Gr.of (by (with_reducible repeat (first | exact HBB.out | apply below_alloc | refine below_set_le ?_ (by omega) _ | refine below_trans ?_ (grown_below _ _))))⟩
     ·have hLe : (acRest K ws).isEmpty = false := by cases hr : acRest K ws with | nil => rw [hr] at hL; simp at hL | cons y r => rfl
      have hg : goodA x = false := by rw [HGD.out, hBd, hLe]; rfl
      have HG := Lib.hid (HNO.out hg); clear hg hBd hLe
      generalize (acRest K ws).length = q9 at *
      go_wp2
      exact bodyPost_ret (v := .tuple #[.agg #[.int .i64 0, .int .i64 0, .int .i64 0, .int .i64 0, .int .u64 0, .int .u64 0, .int .i64 0, .int .i64 0, .int .i64 0, .slice none 0 0, .bool false, .slice none 0 0], .int .i64 4]) (by simp [results, Tryz.results19, go_sem, e1, e2, x0, x1, x2, x3, x4, x5, x6, x7, x8, x9, x10, x11, y0, y1, y2, y3, y4, y5, y6, y7, y8, y9, y10, y11, z0, z1, z2, z3, z4, z5, z6, z7, z8, z9, z10, z11]) rfl ⟨none, 0, none, 0, by rw [HG.out.1, HG.out.2]; rfl, by rw [HG.out.1]; exact Nat.le_refl _, by rw [HG.out.1]; exact ⟨0, OwnR.nil _ _⟩, by rw [HG.out.1]; exact Nat.le_refl _, by rw [HG.out.1]; exact ⟨0, OwnR.nil _ _⟩, Gr.of (by (with_reducible repeat (first | exact HBB.out | apply below_alloc | refine below_set_le ?_ (by omega) _ | refine below_trans ?_ (grown_below _ _))))⟩

structure ActM (W : World) (b p : Nat) (a : ActV) (Ad : Option Addr) (qd : Nat) (Av : Option Addr) (qv : Nat) : Prop where
 c : ∀ i v, (actB a Ad qd Av qv)[i]? = some v → W.cell? ⟨b, p + i, none⟩ = some v
 bd : Bd a.o.v a.o.t a.o.s a.o.a a.o.c
 n0 : -9223372036854775808 ≤ a.nd
 n1 : a.nd ≤ 9223372036854775807
 m0 : -9223372036854775808 ≤ a.m
 m1 : a.m ≤ 9223372036854775807
 ld : a.o.d.length ≤ qd
 bq : a.o.d.length ≤ 9223372036854775807
 d : Row bv W Ad a.o.d
 lv : a.pk.length ≤ qv
 bv : a.pk.length ≤ 9223372036854775807
 pk : Pk a.pk
 v : Row (Value.int .i64) W Av a.pk
theorem ActM.gr {W W' : World} {b p : Nat} {a : ActV} {Ad : Option Addr} {qd : Nat} {Av : Option Addr} {qv : Nat} (h : ActM W b p a Ad qd Av qv) (hb : b < W.heap.size) (g : Gr W W') : ActM W' b p a Ad qd Av qv :=
 ⟨fun i v hv => (g.below.cell (p := ⟨b, p + i, none⟩) hb).trans (h.c i v hv), h.bd, h.n0, h.n1, h.m0, h.m1, h.ld, h.bq, h.d.gr g, h.lv, h.bv, h.pk, h.v.gr g⟩
structure RowA (W : World) (A : Option Addr) (l : List ActV) : Prop where
 at_ : l ≠ [] → ∃ b o, A = some ⟨b, o, none⟩ ∧ b < W.heap.size ∧ ∀ (j : Nat) a, l[j]? = some a → ∃ Ad qd Av qv, ActM W b (o + j * 12) a Ad qd Av qv
theorem RowA.nil {W : World} {A : Option Addr} : RowA W A [] := ⟨fun h => absurd rfl h⟩
theorem RowA.gr {W W' : World} {A : Option Addr} {l : List ActV} (h : RowA W A l) (g : Gr W W') : RowA W' A l :=
 ⟨fun hne => by
  obtain ⟨b, o, rfl, hb, hc⟩ := h.at_ hne
  exact ⟨b, o, rfl, Nat.lt_of_lt_of_le hb g.below.size, fun j a hj => by
   obtain ⟨Ad, qd, Av, qv, hm⟩ := hc j a hj
   exact ⟨Ad, qd, Av, qv, hm.gr hb g⟩⟩⟩
def bigA (a : ActV) : Bool := decide (300 < a.pk.length) || decide (9000 < a.o.d.length)
def muchB (l : List ActV) : Bool := (l.take 31).any bigA || decide (30 < l.length)
theorem take_any {α : Type} (f : α → Bool) (l : List α) (j : Nat) (x : α) (h : l[j]? = some x) : (l.take (j + 1)).any f = ((l.take j).any f || f x) := by
 rw [List.take_add_one, h]; simp
structure AM where
 a : ActV
 Ad : Option Addr
 qd : Nat
 Av : Option Addr
 qv : Nat
def AM.cs (x : AM) : List Value := (actB x.a x.Ad x.qd x.Av x.qv).toList
theorem AM.cs_len (x : AM) : x.cs.length = 12 := rfl
structure AM.Ok (W : World) (x : AM) : Prop where
 bd : Bd x.a.o.v x.a.o.t x.a.o.s x.a.o.a x.a.o.c
 n0 : -9223372036854775808 ≤ x.a.nd
 n1 : x.a.nd ≤ 9223372036854775807
 m0 : -9223372036854775808 ≤ x.a.m
 m1 : x.a.m ≤ 9223372036854775807
 ld : x.a.o.d.length ≤ x.qd
 bq : x.a.o.d.length ≤ 9223372036854775807
 d : ∃ b, OwnR bv 5 b W (.slice x.Ad x.a.o.d.length x.qd) x.a.o.d
 lv : x.a.pk.length ≤ x.qv
 bv : x.a.pk.length ≤ 9223372036854775807
 pk : Pk x.a.pk
 v : ∃ b, OwnR (Value.int .i64) 3 b W (.slice x.Av x.a.pk.length x.qv) x.a.pk
def OwnA (base : Nat) (W : World) (v : Value) (xs : List AM) : Prop := W.ownsRow base 42 12 v xs.length (xs.flatMap AM.cs)
theorem flatA_at : ∀ (xs : List AM) (j i : Nat) (x : AM) (v : Value), xs[j]? = some x → x.cs[i]? = some v → (xs.flatMap AM.cs)[j * 12 + i]? = some v
 | [], j, i, x, v, hj, _ => by simp at hj
 | y :: xs, 0, i, x, v, hj, hv => by
  simp only [List.getElem?_cons_zero, Option.some.injEq] at hj
  subst hj
  have hi : i < y.cs.length := (List.getElem?_eq_some_iff.1 hv).1
  rw [List.flatMap_cons, Nat.zero_mul, Nat.zero_add, List.getElem?_append_left hi]
  exact hv
 | y :: xs, j + 1, i, x, v, hj, hv => by
  rw [List.getElem?_cons_succ] at hj
  have h := flatA_at xs j i x v hj hv
  rw [List.flatMap_cons, List.getElem?_append_right (by rw [y.cs_len]; omega), y.cs_len]
  rw [← h]
  congr 1
  omega
section
variable {base : Nat} {W W' : World} {v : Value} {xs : List AM}
theorem OwnA.nil (base : Nat) (W : World) : OwnA base W (.slice none 0 0) [] := World.ownsRow_nil _ _ _ _
theorem OwnA.gr (h : OwnA base W v xs) (hg : Gr W W') : OwnA base W' v xs := by
 refine World.ownsRow.kept h (only_of_gr hg none) ?_
 cases hv : v.ownBlock with
 | none => exact .inl rfl
 | some g => exact .inr (by simp)
theorem OwnA.set_ (h : OwnA base W v xs) (B o : Nat) (u : Value) {cs : Array Value} {T : TypeId} [hB : BlockAt W B cs T] (hT : T ≠ 42) : OwnA base (W.setCell ⟨B, o, none⟩ u) v xs := by
 refine ⟨h.1, ?_⟩
 rcases h.2 with h2 | ⟨g, cap, cur, hv, hb, hh, h4⟩
 ·exact .inl h2
 ·refine .inr ⟨g, cap, cur, hv, hb, ?_, h4⟩
  have hne : g ≠ B := by
   rintro rfl
   have := hB.eq
   rw [hh] at this
   cases this
   exact hT rfl
  exact (Below.heap_setCell W ⟨B, o, none⟩ u g hne).trans hh
theorem OwnA.row (h : OwnA base W v xs) (hx : ∀ x ∈ xs, x.Ok W) : ∃ A c, v = .slice A xs.length c ∧ xs.length ≤ c ∧ RowA W A (xs.map (·.a)) := by
 have h0 := h
 rcases h.2 with ⟨rfl, hn⟩ | ⟨g, cap, cur, rfl, hb, hh, hnc, _⟩
 ·have : xs = [] := List.eq_nil_of_length_eq_zero hn
  subst this
  exact ⟨none, 0, rfl, Nat.le_refl _, RowA.nil⟩
 ·refine ⟨_, _, rfl, hnc, ⟨fun _ => ⟨g, 0, rfl, (Array.getElem?_eq_some_iff.1 hh).1, fun j a hj => ?_⟩⟩⟩
  rw [List.getElem?_map] at hj
  cases hy : xs[j]? with
  | none => rw [hy] at hj; cases hj
  | some x =>
   rw [hy] at hj
   cases hj
   obtain ⟨bd, n0, n1, m0, m1, ld, bq, ⟨b1, hd⟩, lv, bv, pk, ⟨b2, hv⟩⟩ := hx x (List.mem_of_getElem? hy)
   refine ⟨x.Ad, x.qd, x.Av, x.qv, ⟨fun i u hu => ?_, bd, n0, n1, m0, m1, ld, bq, hd.row, lv, bv, pk, hv.row⟩⟩
   have h1 := World.ownsRow.cells h0 (g := g) rfl (j * 12 + i) u (flatA_at xs j i x u hy (by rw [AM.cs, Array.getElem?_toList]; exact hu))
   rw [Go.WideShapes.add_plain] at h1
   rw [show 0 + j * 12 + i = 0 + (j * 12 + i) by omega]
   exact h1
end
structure AppA (base : Nat) (W : World) (xs : List AM) (y : AM) (v' : Value) (W' : World) : Prop where
 own : OwnA base W' v' (xs ++ [y])
 below : Below base W W'
 size : W.heap.size ≤ W'.heap.size
 keep : ∀ B cs t, BlockAt W B cs t → t ≠ 42 → BlockAt W' B cs t
theorem infoA : (Tryz.prog.info? 42).map (fun i => (i.zero, i.size, i.bytes)) = some (some (.agg #[.int .i64 0, .int .i64 0, .int .i64 0, .int .i64 0, .int .u64 0, .int .u64 0, .int .i64 0, .int .i64 0, .int .i64 0, .slice none 0 0, .bool false, .slice none 0 0]), 12, 128) := by kernel_rfl
theorem own_keep {α : Type} {enc : α → Value} {E : TypeId} {base : Nat} {W W' : World} {v : Value} {l : List α} (h : OwnR enc E base W v l) (hk : ∀ B cs t, BlockAt W B cs t → t ≠ 42 → BlockAt W' B cs t) (hE : E ≠ 42) : OwnR enc E base W' v l := by
 refine ⟨h.1, ?_⟩
 rcases h.2 with h2 | ⟨g, cap, cur, hv, hb, hh, h4⟩
 ·exact .inl h2
 ·exact .inr ⟨g, cap, cur, hv, hb, (hk g cur E ⟨hh⟩ hE).eq, h4⟩
theorem AM.Ok.keep {W W' : World} {x : AM} (h : x.Ok W) (hk : ∀ B cs t, BlockAt W B cs t → t ≠ 42 → BlockAt W' B cs t) : x.Ok W' :=
 ⟨h.bd, h.n0, h.n1, h.m0, h.m1, h.ld, h.bq, h.d.imp fun _ z => own_keep z hk (by decide), h.lv, h.bv, h.pk, h.v.imp fun _ z => own_keep z hk (by decide)⟩
theorem AM.Ok.gr {W W' : World} {x : AM} (h : x.Ok W) (g : Gr W W') : x.Ok W' := h.keep fun B cs t hB _ => hB.gr g
theorem wp_append_act {ops : Array Oper} {rest : List Oper} {o : Oper} {a : Act} {Q : Exit → Act → World → Prop} (hgd : o.guard = none) (s x : Operand)
  (ho : o.op = .call { callee := .builtin .append, args := #[s, x], argTypes := #[56, 56] })
  (base : Nat) {W : World} (v : Value) (xs : List AM) (hs : a.eval s = v) (hown : OwnA base W v xs) (y : AM) (ad : Nat) (hx : a.eval x = .slice (some ⟨ad, 0, none⟩) 1 1)
  (hc : BlockAt W ad (actB y.a y.Ad y.qd y.Av y.qv) 42) (hlen : xs.length ≤ 1000000) (hbase : base ≤ W.heap.size)
  (h : ∀ v' W', AppA base W xs y v' W' → wpList Tryz.prog ops Q rest (a.put o.dst v') W') : wpList Tryz.prog ops Q (o :: rest) a W := by
 obtain ⟨i0, hi, hz0, hz2, hz3⟩ := info_parts infoA
 refine wpList_append_own W hgd s x 56 ho base 42 i0 _ 12 128 Tryz.underlying56 hi hz0 hz2 hz3 rfl (by decide) v xs.length (xs.flatMap AM.cs) hs hown ⟨ad, 0, none⟩ 1 1 y.cs hx rfl ?_ ?_ ?_ ?_ hbase ?_
 ·intro j u hj
  rw [Go.WideShapes.add_plain, Nat.zero_add, block_cells W ad j _ _]
  rw [AM.cs, Array.getElem?_toList] at hj
  exact hj
 ·intro u hu
  simp only [AM.cs, actB, List.mem_cons, List.mem_nil_iff, or_false] at hu
  rcases hu with rfl | rfl | rfl | rfl | rfl | rfl | rfl | rfl | rfl | rfl | rfl | rfl <;> rfl
 ·unfold maxLen; omega
 ·omega
 ·intro v' W' hown' hgrow _
  refine h v' W' ⟨?_, (Below.refl base W).grown hgrow hbase (fun q hq => (World.ownsRow.lt hown q hq).1), hgrow.size, fun B cs t hB ht => hB.grown hgrow (fun e => ?_)⟩
  ·unfold OwnA
   rw [List.length_append, List.length_cons, List.length_nil, List.flatMap_append]
   simpa using hown'
  ·rcases hown.2 with ⟨rfl, _⟩ | ⟨g, cap, cur, rfl, _, hh, _⟩
   ·simp [Value.ownBlock] at e
   ·have e2 : B = g := by simpa [Value.ownBlock] using e
    subst e2
    have := hB.eq
    rw [hh] at this
    cases this
    exact ht rfl
theorem cut_free {c : UInt8} : ∀ {l : List UInt8}, c ∉ l → Lib.cut l [c] = (l, [], false) := by
 intro l h
 have h1 : Lib.index l [c] = -1 := by
  rw [Lib.index_one]
  induction l with
  | nil => rfl
  | cons x l ih =>
   simp only [List.mem_cons, not_or] at h
   have := ih h.2
   have h9 : ¬ x = c := fun e => h.1 e.symm
   unfold Lib.indexByte at this ⊢
   simp_all
 rw [Lib.cut, h1]
 simp
theorem cut_app {c : UInt8} : ∀ {a : List UInt8} (b : List UInt8), c ∉ a → Lib.cut (a ++ c :: b) [c] = (a, b, true) := by
 intro a b h
 have h1 : Lib.index (a ++ c :: b) [c] = (a.length : Int) := by
  rw [Lib.index_one]
  induction a with
  | nil => simp [Lib.indexByte]
  | cons x l ih =>
   simp only [List.mem_cons, not_or] at h
   have := ih h.2
   have h9 : ¬ x = c := fun e => h.1 e.symm
   rw [List.cons_append]
   unfold Lib.indexByte
   simp_all
 rw [Lib.cut, h1]
 simp
theorem cut_any (s : ByteArray) (W : World) [h : Ml W] (hs : s.size < 4294967281) :
  Calls Tryz.prog 64 #[.string s, .string ⟨#[10]⟩] W fun e w' => e = .returned (.tuple #[.string ⟨(Lib.cut s.data.toList [10]).1.toArray⟩, .string ⟨(Lib.cut s.data.toList [10]).2.1.toArray⟩, .bool (Lib.cut s.data.toList [10]).2.2]) ∧ Gr W w' := by
 obtain ⟨m, hm⟩ := h.ml
 refine (Tryz.strings_Cut s ⟨#[10]⟩ m W hs hm).mono ?_
 rintro e w' ⟨he, n, rfl⟩
 exact ⟨he, Gr.of ⟨rfl, rfl, rfl, Nat.le_refl _, fun _ _ => rfl⟩⟩
def linesB (t : ByteArray) : List ByteArray := (wordsB 10 t).dropLast
def restB (t : ByteArray) : ByteArray := (wordsB 10 t).getLastD ⟨#[]⟩
def goodL (i : Nat) (x : ByteArray) : Bool := if i = 0 then goodSt x else decide (i ≤ 5000) && goodA x
def badAt : Nat → List ByteArray → Nat
 | i, [] => i
 | i, x :: r => if goodL i x then badAt (i + 1) r else i
def pGood (t : ByteArray) : Bool := (badAt 0 (linesB t) == (linesB t).length) && (restB t).data.toList.isEmpty && !(linesB t).isEmpty
def pActs (t : ByteArray) : List ActV := if pGood t then (linesB t).tail.map actRes else []
def pAt (t : ByteArray) : Nat := if pGood t then 0 else badAt 0 (linesB t)
def pE (t : ByteArray) : Int := if pGood t then 0 else 4
theorem picks_ok {n : Nat} {px : List Int} (h : picksB n px = true) : n ≤ 100 ∧ ∀ x ∈ px, 0 ≤ x ∧ x ≤ 1000000 := by
 simp only [picksB, badP, mayN, Bool.and_eq_true, decide_eq_true_eq, Bool.not_eq_true', List.any_eq_false, Bool.not_eq_true, Bool.not_eq_false'] at h
 refine ⟨h.1, fun x hx => ?_⟩
 have := h.2 x hx
 simpa using this
theorem same_zero {k v t s a c : Int} {l : List UInt8} (h : sameB k v t s a c 0 0 0 0 0 0 l [] = true) : k = 0 ∧ v = 0 ∧ t = 0 ∧ s = 0 ∧ a = 0 ∧ c = 0 ∧ l = [] := by
 simp only [sameB, Bool.and_eq_true, beq_iff_eq, decide_eq_true_eq] at h
 simp_all
end Go.Proofs.YtgjdgafoidppaaaGreatDoor
