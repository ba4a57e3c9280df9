/- script's words.op at every kind, and what it answers in plain Lean. Conditions: as in SWOp. script.ActOf's closure: a pick that is read. Conditions: the words stand in memory; the act's block, and the picks so far, too. script's words.row with ActOf's closure: the picks that are read. Conditions: the words stand in memory; words of at most 200000 bytes; the act's block has no picks yet. A told row of sectors, cut and read again. Plain Lean, no program in sight. Picks: slices.Equal at []int, slices.ContainsFunc with 'it may not be told', script.SameAct. Conditions: what is read stands in memory. script.actText (first part). Conditions: what is read stands in memory; strconv's table stands. script.actText (some kinds). Conditions: what is read stands in memory; strconv's table stands. -/
import Derived.Test.YtgjdgafoidppaaaGreatDoorP06
import Derived.Test.YtgjdgafoidppaaaGreatDoorP02
import Derived.Test.YtgjdgafoidppaaaGreatDoorP03
import Derived.Test.YtgjdgafoidppaaaGreatDoorP01
import Derived.LoopTactic
import Derived.Test.YtgjdgafoidppaaaGreatDoorP04
namespace Go.Proofs.YtgjdgafoidppaaaGreatDoor
open Go.RowKit
set_option linter.unusedVariables false
set_option linter.unusedSimpArgs false
set_option linter.unnecessarySimpa false
structure OpV where
 k : Int
 v : Int
 t : Int
 s : Int
 a : Int
 c : Int
 d : List UInt8
def OpV.agg (o : OpV) (dv : Value) : Value := .agg #[.int .i64 o.k, .int .u64 o.v, .int .u64 o.t, .int .i64 o.s, .int .i64 o.a, .int .i64 o.c, dv]
def zOp : OpV := ⟨0, 0, 0, 0, 0, 0, []⟩
def kOf (x : ByteArray) : Int := max (Lib.idxOfS opWl x) 0
def opValK (k : Int) (ws : List ByteArray) : OpV := if k = 1 then ⟨1, nD ws 1 4294967295, 0, nD ws 2 256, 0, 0, []⟩ else if k = 2 then ⟨2, nD ws 1 4294967295, 0, 0, 0, 0, []⟩ else if k = 3 then ⟨3, nD ws 1 4294967295, 0, nD ws 2 256, 0, 0, []⟩ else if k = 4 then ⟨4, nD ws 1 4294967295, nD ws 2 4294967295, 0, 0, 0, []⟩ else if k = 5 then ⟨5, nD ws 1 4294967295, 0, 0, nD ws 2 1048576, 0, dD ws 3⟩ else if k = 6 then ⟨6, nD ws 1 4294967295, 0, 0, nD ws 2 1048576, nD ws 3 1024, []⟩ else if k = 7 then ⟨7, nD ws 1 4294967295, 0, 0, nD ws 2 1048576, nD ws 3 1024, []⟩ else if k = 8 then ⟨8, 0, 0, 0, 0, 0, []⟩ else if k = 9 then ⟨9, nD ws 1 4294967295, 0, 0, nD ws 2 1048576, nD ws 3 1024, []⟩ else zOp
def opLenK (k : Int) : Nat := if k = 1 then 3 else if k = 2 then 2 else if k = 3 then 3 else if k = 4 then 3 else if k = 5 then 4 else if k = 6 then 4 else if k = 7 then 4 else if k = 8 then 1 else if k = 9 then 4 else 1
def opBadK (k : Int) (ws : List ByteArray) (bad : Bool) : Bool := if k = 1 then (((bad || ws.isEmpty) || bD ws 1 4294967295) || bD ws 2 256) else if k = 2 then ((bad || ws.isEmpty) || bD ws 1 4294967295) else if k = 3 then (((bad || ws.isEmpty) || bD ws 1 4294967295) || bD ws 2 256) else if k = 4 then (((bad || ws.isEmpty) || bD ws 1 4294967295) || bD ws 2 4294967295) else if k = 5 then (((((bad || ws.isEmpty) || bD ws 1 4294967295) || bD ws 2 1048576) || (ws.drop 3).isEmpty) || xD ws 3) else if k = 6 then ((((bad || ws.isEmpty) || bD ws 1 4294967295) || bD ws 2 1048576) || bD ws 3 1024) else if k = 7 then ((((bad || ws.isEmpty) || bD ws 1 4294967295) || bD ws 2 1048576) || bD ws 3 1024) else if k = 8 then (bad || ws.isEmpty) else if k = 9 then ((((bad || ws.isEmpty) || bD ws 1 4294967295) || bD ws 2 1048576) || bD ws 3 1024) else (bad || ws.isEmpty)
theorem idxFrom_le (x : ByteArray) : ∀ (l : List ByteArray) (i : Nat), l ≠ [] → Lib.idxFromS l x i < ((i + l.length : Nat) : Int)
 | [], i, h => absurd rfl h
 | z :: l, i, _ => by
  unfold Lib.idxFromS
  split
  ·simp only [List.length_cons]; omega
  ·cases l with
   | nil => simp [Lib.idxFromS]; omega
   | cons y l => have := idxFrom_le x (y :: l) (i + 1) (by simp); simp only [List.length_cons] at this ⊢; omega
theorem kOf_le (x : ByteArray) : 0 ≤ kOf x ∧ kOf x ≤ 9 := by
 have := idxFrom_le x opWl 0 (by simp [opWl])
 have e : opWl.length = 10 := rfl
 rw [e] at this
 unfold kOf Lib.idxOfS
 omega
theorem op_any (p : Nat) (W : World) [hm : Ml W] [htb : Tb W] [hfp : Far p] (ws : List ByteArray) (bad : Bool) (h : WS p W ws bad) (hw : ∀ x ∈ ws, x.size ≤ 200000) :
  Calls Tryz.prog 37 #[.pointer (some ⟨p, 0, none⟩)] W fun e W' => ∃ dv, e = .returned ((opValK (kOf (hdW ws)) ws).agg dv) ∧ OwnR bv 5 W.heap.size W' dv (opValK (kOf (hdW ws)) ws).d ∧ WS p W' (ws.drop (opLenK (kOf (hdW ws)))) (opBadK (kOf (hdW ws)) ws bad) ∧ Wrd p W W' := by
 have hk := kOf_le (hdW ws)
 have hk0 : max (Lib.idxOfS opWl (hdW ws)) 0 = kOf (hdW ws) := rfl
 generalize kOf (hdW ws) = k at *
 by_cases h1 : k = 1
 ·subst h1
  exact wop_1 p W ws bad h hw _ hk0 rfl
 by_cases h2 : k = 2
 ·subst h2
  exact wop_2 p W ws bad h hw _ hk0 rfl
 by_cases h3 : k = 3
 ·subst h3
  exact wop_3 p W ws bad h hw _ hk0 rfl
 by_cases h4 : k = 4
 ·subst h4
  exact wop_4 p W ws bad h hw _ hk0 rfl
 by_cases h5 : k = 5
 ·subst h5
  exact wop_5 p W ws bad h hw _ hk0 rfl
 by_cases h6 : k = 6
 ·subst h6
  exact wop_6 p W ws bad h hw _ hk0 rfl
 by_cases h7 : k = 7
 ·subst h7
  exact wop_7 p W ws bad h hw _ hk0 rfl
 by_cases h8 : k = 8
 ·subst h8
  exact wop_8 p W ws bad h hw _ hk0 rfl
 by_cases h9 : k = 9
 ·subst h9
  exact wop_9 p W ws bad h hw _ hk0 rfl
 have h0 : k = 0 := by omega
 subst h0
 exact wop_0 p W ws bad h hw _ hk0 rfl
structure Frm (base p X : Nat) (W W' : World) : Prop where
 os : W'.os = W.os
 tape : W'.tape = W.tape
 output : W'.output = W.output
 size : W.heap.size ≤ W'.heap.size
 old : ∀ b, b < base → b ≠ p → b ≠ X → W'.heap[b]? = W.heap[b]?
 typ : ∀ B cs T, BlockAt W B cs T → T ≠ 3 → B ≠ p → B ≠ X → BlockAt W' B cs T
theorem Frm.refl (base p X : Nat) (W : World) : Frm base p X W W := ⟨rfl, rfl, rfl, Nat.le_refl _, fun _ _ _ _ => rfl, fun _ _ _ h _ _ _ => h⟩
theorem Frm.trans {base p X : Nat} {A B C : World} (h : Frm base p X A B) (k : Frm base p X B C) : Frm base p X A C :=
 ⟨k.os.trans h.os, k.tape.trans h.tape, k.output.trans h.output, Nat.le_trans h.size k.size, fun b h1 h2 h3 => (k.old b h1 h2 h3).trans (h.old b h1 h2 h3), fun B cs T hb hT h2 h3 => k.typ B cs T (h.typ B cs T hb hT h2 h3) hT h2 h3⟩
theorem Frm.gr {base p X : Nat} {W W' : World} (h : Gr W W') (hb : base ≤ W.heap.size) : Frm base p X W W' :=
 ⟨h.below.os, h.below.tape, h.below.output, h.below.size, fun b h1 _ _ => h.below.block b (by omega), fun B cs T hB _ _ _ => hB.gr h⟩
theorem Frm.set {base p X : Nat} (W : World) (b o : Nat) (v : Value) (h : b = p ∨ b = X) : Frm base p X W (W.setCell ⟨b, o, none⟩ v) :=
 ⟨rfl, rfl, rfl, by simp [World.setCell], fun c h1 h2 h3 => Below.heap_setCell W ⟨b, o, none⟩ v c (by rcases h with rfl | rfl <;> assumption), fun B cs T hB _ h2 h3 => ⟨(Below.heap_setCell W ⟨b, o, none⟩ v B (by rcases h with rfl | rfl <;> assumption)).trans hB.eq⟩⟩
theorem Frm.app {base p X : Nat} {W W' : World} {xs ys : List Int} {v' : Value} (h : AppR (Value.int .i64) 3 base W xs ys v' W') : Frm base p X W W' :=
 ⟨h.below.os, h.below.tape, h.below.output, h.size, fun b h1 _ _ => h.below.block b h1, fun B cs T hB hT _ _ => h.keep B cs T hB hT⟩
theorem infoI : (Tryz.prog.info? 3).map (fun i => (i.zero, i.size, i.bytes)) = some (some (.int .i64 0), 1, 8) := by kernel_rfl
theorem wp_append_num {ops : Array Oper} {rest : List Oper} {o : Oper} {a : Act} {Q : Exit → Act → World → Prop} (hgd : o.guard = none) (s x : Operand)
  (ho : o.op = .call { callee := .builtin .append, args := #[s, x], argTypes := #[40, 40] })
  (base : Nat) {W : World} (v : Value) (xs : List Int) (hs : a.eval s = v) (hown : OwnR (Value.int .i64) 3 base W v xs) (ad of c : Nat) (ys : List Int) (m : Nat) (hm : ys.length = m) (hx : a.eval x = .slice (some ⟨ad, of, none⟩) m c)
  (hc : ∀ j y, ys[j]? = some y → W.cell? ⟨ad, of + j, none⟩ = some (.int .i64 y)) (hlen : xs.length + ys.length ≤ 100000000) (hbase : base ≤ W.heap.size)
  (h : ∀ v' W', AppR (Value.int .i64) 3 base W xs ys v' W' → wpList Tryz.prog ops Q rest (a.put o.dst v') W') : wpList Tryz.prog ops Q (o :: rest) a W :=
 wp_append_row (Value.int .i64) 3 40 (.int .i64 0) 8 Tryz.underlying40 infoI (by omega) (fun _ => rfl) rfl hgd s x ho base v xs hs hown ad of c ys m hm hx hc hlen hbase h
def actC (k nd m : Int) (f : Bool) (v : Value) : Array Value := #[.int .i64 k, .int .i64 nd, .int .i64 m, .int .i64 0, .int .u64 0, .int .u64 0, .int .i64 0, .int .i64 0, .int .i64 0, .slice none 0 0, .bool f, v]
theorem OwnR.setp {α : Type} {enc : α → Value} {E : TypeId} {base : Nat} {W : World} {v : Value} {xs : List α} (h : OwnR enc E base W v xs) (b o : Nat) (u : Value) (hb : b < base) : OwnR enc E base (W.setCell ⟨b, o, none⟩ u) v xs := by
 refine ⟨h.1, ?_⟩
 rcases h.2 with h2 | ⟨g, cap, cur, hv, hbg, hh, h4⟩
 ·exact .inl h2
 ·exact .inr ⟨g, cap, cur, hv, hbg, (Below.heap_setCell W ⟨b, o, none⟩ u g (by simp; omega)).trans hh, h4⟩
structure WX (W0 W : World) (p : Nat) (ws : List ByteArray) (bad : Bool) : Prop where
 f0 : W.frozen? ⟨p, 0, none⟩ = false
 f1 : W.frozen? ⟨p, 1, none⟩ = false
 c1 : W.cell? ⟨p, 1, none⟩ = some (.bool bad)
 c0 : ∃ A c, W.cell? ⟨p, 0, none⟩ = some (.slice A ws.length c) ∧ ws.length ≤ c ∧ (∀ a, A = some a → a.block ≠ p) ∧ Row Value.string W0 A ws
 few : ws.length ≤ 1000000
 short : ∀ x ∈ ws, x.size ≤ 1000000000
theorem WX.of {W : World} {p : Nat} {ws : List ByteArray} {bad : Bool} (h : WS p W ws bad) : WX W W p ws bad := ⟨h.f0, h.f1, h.c1, h.c0, h.few, h.short⟩
structure PSt (W0 : World) (p Wc X : Nat) (k nd m : Int) (f : Bool) (W : World) (ws : List ByteArray) (bad : Bool) (pk : List Int) : Prop where
 frm : Frm W0.heap.size p X W0 W
 wx : WX W0 W p ws bad
 x0 : BlockAt W0 X (actC k nd m f (.slice none 0 0)) 42
 wc : BlockAt W Wc #[.pointer (some ⟨p, 0, none⟩)] 76
 x : ∃ v, BlockAt W X (actC k nd m f v) 42 ∧ OwnR (Value.int .i64) 3 W0.heap.size W v pk
 pl : p < W0.heap.size
 xp : X ≠ p
 wp : Wc ≠ p
 wx' : Wc ≠ X
section
variable {W0 W W' : World} {p Wc X : Nat} {k nd m : Int} {f : Bool} {ws : List ByteArray} {bad : Bool} {pk : List Int}
theorem PSt.start (h : WS p W ws bad) (hx : BlockAt W X (actC k nd m f (.slice none 0 0)) 42) (hw : BlockAt W Wc #[.pointer (some ⟨p, 0, none⟩)] 76) (xp : X ≠ p) (wp : Wc ≠ p) (wx : Wc ≠ X) : PSt W p Wc X k nd m f W ws bad [] :=
 ⟨Frm.refl _ _ _ _, WX.of h, hx, hw, ⟨_, hx, OwnR.nil _ _⟩, h.old.lt, xp, wp, wx⟩
theorem PSt.gr (h : PSt W0 p Wc X k nd m f W ws bad pk) (g : Gr W W') : PSt W0 p Wc X k nd m f W' ws bad pk := by
 obtain ⟨frm, ⟨f0, f1, c1, ⟨A, c, c0, hc, hn, hr⟩, few, short⟩, x0, wc, ⟨v, hv, ho⟩, pl, xp, wp, wx'⟩ := h
 have pl2 : p < W.heap.size := Nat.lt_of_lt_of_le pl frm.size
 exact ⟨frm.trans (Frm.gr g frm.size), ⟨(g.below.frozen (p := ⟨p, 0, none⟩) pl2).trans f0, (g.below.frozen (p := ⟨p, 1, none⟩) pl2).trans f1, (g.below.cell (p := ⟨p, 1, none⟩) pl2).trans c1, ⟨A, c, (g.below.cell (p := ⟨p, 0, none⟩) pl2).trans c0, hc, hn, hr⟩, few, short⟩, x0, wc.gr g, ⟨v, hv.gr g, ho.gr g⟩, pl, xp, wp, wx'⟩
theorem PSt.setBad (h : PSt W0 p Wc X k nd m f W ws bad pk) (b : Bool) : PSt W0 p Wc X k nd m f (W.setCell ⟨p, 1, none⟩ (.bool b)) ws b pk := by
 obtain ⟨frm, ⟨f0, f1, c1, ⟨A, c, c0, hc, hn, hr⟩, few, short⟩, x0, wc, ⟨v, hv, ho⟩, pl, xp, wp, wx'⟩ := h
 haveI : BNe Wc p := ⟨wp⟩
 haveI : BNe X p := ⟨xp⟩
 have hset : (W.setCell ⟨p, 1, none⟩ (.bool b)).cell? ⟨p, 1, none⟩ = some (.bool b) := by
  unfold World.cell? at c1 ⊢
  simp only [World.setCell, Array.getElem?_modify]
  cases hb : W.heap[p]? with
  | none => rw [hb] at c1; simp at c1
  | some ob =>
   rw [hb] at c1
   cases ob <;> simp_all
   rename_i cc _ _
   obtain ⟨h1, _⟩ := Array.getElem?_eq_some_iff.1 c1
   rw [Array.getElem?_setIfInBounds]
   simp [h1]
 refine ⟨frm.trans (Frm.set W p 1 _ (.inl rfl)), ⟨by rw [World.frozen?_setCell]; exact f0, by rw [World.frozen?_setCell]; exact f1, hset, ⟨A, c, ?_, hc, hn, hr⟩, few, short⟩, x0, inferInstance, ⟨v, inferInstance, ?_⟩, pl, xp, wp, wx'⟩
 ·rw [World.cell?_setCell_other _ _ _ _ (fun e => by simp at e)]; exact c0
 ·exact ho.setp p 1 _ pl
theorem PSt.put (h : PSt W0 p Wc X k nd m f W ws bad pk) {n : Int} {v v' : Value} (hv : OwnR (Value.int .i64) 3 W0.heap.size W v pk) (a : AppR (Value.int .i64) 3 W0.heap.size W pk [n] v' W') (hp : W'.heap[p]? = W.heap[p]?) : PSt W0 p Wc X k nd m f (W'.setCell ⟨X, 11, none⟩ v') ws bad (pk ++ [n]) := by
 obtain ⟨frm, ⟨f0, f1, c1, ⟨A, c, c0, hc, hn, hr⟩, few, short⟩, x0, wc, ⟨v, hv, ho⟩, pl, xp, wp, wx'⟩ := h
 haveI : BNe Wc X := ⟨wx'⟩
 haveI h1 : BlockAt W' X (actC k nd m f v) 42 := a.keep _ _ _ hv (by decide)
 haveI h2 : BlockAt W' Wc #[.pointer (some ⟨p, 0, none⟩)] 76 := a.keep _ _ _ wc (by decide)
 have e : (actC k nd m f v).setIfInBounds 11 v' = actC k nd m f v' := rfl
 have hcell : ∀ o, W'.cell? ⟨p, o, none⟩ = W.cell? ⟨p, o, none⟩ := fun o => by simp [World.cell?, hp]
 have hfr : ∀ o, W'.frozen? ⟨p, o, none⟩ = W.frozen? ⟨p, o, none⟩ := fun o => by simp [World.frozen?, hp]
 refine ⟨(frm.trans (Frm.app a)).trans (Frm.set W' X 11 _ (.inr rfl)), ⟨by rw [World.frozen?_setCell, hfr]; exact f0, by rw [World.frozen?_setCell, hfr]; exact f1, ?_, ⟨A, c, ?_, hc, hn, hr⟩, few, short⟩, x0, inferInstance, ⟨v', ?_, OwnR.set_ a.own X 11 v' (by decide)⟩, pl, xp, wp, wx'⟩
 ·rw [World.cell?_setCell_other _ _ _ _ (fun e => xp (congrArg Addr.block e)), hcell]; exact c1
 ·rw [World.cell?_setCell_other _ _ _ _ (fun e => xp (congrArg Addr.block e)), hcell]; exact c0
 ·rw [← e]; infer_instance
theorem PSt.toWS (h : PSt W0 p Wc X k nd m f W ws bad pk) : WS p W ws bad := by
 obtain ⟨frm, ⟨f0, f1, c1, ⟨A, c, c0, hc, hn, hr⟩, few, short⟩, x0, wc, ⟨v, hv, ho⟩, pl, xp, wp, wx'⟩ := h
 refine ⟨f0, f1, c1, ⟨A, c, c0, hc, hn, ⟨fun h0 => ?_⟩⟩, few, short⟩
 obtain ⟨b, o, rfl, hb, hx⟩ := hr.at_ h0
 have hbx : b ≠ X := by
  rintro rfl
  obtain ⟨y, r, rfl⟩ : ∃ y r, ws = y :: r := by
   cases ws with
   | nil => exact absurd rfl h0
   | cons y r => exact ⟨y, r, rfl⟩
  have h1 := hx 0 y rfl
  rw [block_cells W0 b (o + 0) _ _] at h1
  have hm := Array.mem_of_getElem? h1
  simp [actC] at hm
 have e := frm.old b hb (hn _ rfl) hbx
 exact ⟨b, o, rfl, Nat.lt_of_lt_of_le hb frm.size, fun j x hj => by rw [← hx j x hj]; simp [World.cell?, e]⟩
end
set_option maxRecDepth 100000 in
set_option maxHeartbeats 4000000 in
theorem clo_any (s : ByteArray) (hs : s.size ≤ 1000000000) {W0 W : World} {p Wc X : Nat} {k nd m : Int} {f : Bool} {ws : List ByteArray} {bad : Bool} {pk : List Int} (h : PSt W0 p Wc X k nd m f W ws bad pk) (hpk : pk.length ≤ 50000000) :
  Calls Tryz.prog 55 #[.string s, .pointer (some ⟨Wc, 0, none⟩), .pointer (some ⟨X, 0, none⟩)] W fun e W' => e = .returned (.tuple #[]) ∧ PSt W0 p Wc X k nd m f W' ws (bad || !decOk s.data.toList 1000000) (pk ++ [((decV s.data.toList 1000000 : Nat) : Int)]) := by
 have HD := Lib.hid (fun V => (show Calls Tryz.prog 56 #[.string s, .int .u64 1000000] V (fun e w' => e = .returned (.tuple #[.int .u64 (decV s.data.toList 1000000 : Nat), .bool (decOk s.data.toList 1000000)]) ∧ Gr V w') from dec_any s 1000000 (by omega) hs V))
 have hn := decV_le s.data.toList 1000000
 generalize decV s.data.toList 1000000 = n at *
 obtain ⟨b, hb⟩ : ∃ b, (bad || !decOk s.data.toList 1000000) = b := ⟨_, rfl⟩
 rw [hb]
 generalize decOk s.data.toList 1000000 = ok at *
 have H := Lib.hid h; clear h
 have n0 : (0 : Int) ≤ (n : Int) := by omega
 have n1 : (n : Int) ≤ 9223372036854775807 := by omega
 go_enter Tryz.func55, Tryz.ntmps55
 go_wp2_with ((go_at_call 56; ((with_reducible refine (HD.out _).mono ?_); rintro _ _ ⟨rfl, g1, rfl⟩)))
 have h1 := H.out.gr (Gr.of (grown_below W g1))
 obtain ⟨v, hv, ho⟩ := h1.x
 have hwc := h1.wc
 have c1 := h1.wx.c1
 have f1 := h1.wx.f1
 have pl := h1.pl
 have xp := h1.xp
 have wp := h1.wp
 have hpl : p < (grown W g1).heap.size := Nat.lt_of_lt_of_le pl h1.frm.size
 haveI : Old p (grown W g1) := ⟨hpl⟩
 haveI : Old X (grown W g1) := hv.old
 haveI : Old Wc (grown W g1) := hwc.old
 have yw : (grown W g1).cell? ⟨Wc, 0, none⟩ = some (.pointer (some ⟨p, 0, none⟩)) := (@block_cells _ _ 0 _ _ hwc).trans rfl
 have yx : (grown W g1).cell? ⟨X, 11, none⟩ = some v := (@block_cells _ _ 11 _ _ hv).trans rfl
 have e1 : (X = p) = False := by simp [xp]
 have e2 : (p = X) = False := by simp; exact fun h => xp h.symm
 have e3 : (Wc = p) = False := by simp [wp]
 have e4 : (p = Wc) = False := by simp; exact fun h => wp h.symm
 have H1 := Lib.hid h1; clear h1 hv ho hwc
 have HPL := Lib.hid pl; clear pl
 generalize grown W g1 = W1 at *
 have hbb : bad = true ∧ b = true ∨ bad = false ∧ b = !ok := by cases bad <;> simp_all
 clear hb
 rcases hbb with ⟨rfl, rfl⟩ | ⟨rfl, rfl⟩
 ·go_wp2
  refine wp_region_grow_tail 11 (by kernel_rfl) (by kernel_rfl) ?_
  simp only [List.take_succ_cons, List.take_zero, List.drop_succ_cons, List.drop_zero]
  repeat (go_big_quiet_step (fail))
  refine wpQuiet_nil ?_
  intro g2
  have h3 := (((H1.out.gr (Gr.of (grown_below W1 g2))).setBad true).gr (Gr.of (below_alloc (Below.refl _ _) (.cells #[.int .i64 n] 3))))
  obtain ⟨v2, hv2, ho2⟩ := h3.x
  obtain rfl : v = v2 := by
   have a2 : (((grown W1 g2).setCell ⟨p, 1, none⟩ (.bool true)).alloc (.cells #[.int .i64 n] 3)).cell? ⟨X, 11, none⟩ = some v := by go_simp
   have a1 : (((grown W1 g2).setCell ⟨p, 1, none⟩ (.bool true)).alloc (.cells #[.int .i64 n] 3)).cell? ⟨X, 11, none⟩ = some v2 := (@block_cells _ _ 11 _ _ hv2).trans rfl
   rw [a1] at a2
   exact (Option.some.inj a2).symm
  have H3 := Lib.hid h3; have HV2 := Lib.hid hv2; have HO2 := Lib.hid ho2; clear h3 hv2 ho2
  go_wp2_with (at_builtin; refine wp_append_num rfl _ _ rfl W0.heap.size v pk ?hs1 HO2.out _ 0 1 [(n : Int)] 1 rfl rfl ?hc1 (by simp; omega) H3.out.frm.size ?_)
  case hs1 => rfl
  case hc1 =>
   intro j y hj
   match j, hj with
   | 0, hj =>
    simp at hj
    subst hj
    simp [go_sem]
  intro v4 W4 a4
  have hv4 : BlockAt W4 X (actC k nd m f v) 42 := a4.keep _ _ _ HV2.out (by decide)
  have h4 := H3.out.put HO2.out a4 (a4.below.block p HPL.out)
  obtain ⟨A4, c4, rfl, _, _⟩ := a4.own.form
  have z11 : W4.cell? ⟨X, 11, none⟩ = some v := (@block_cells _ _ 11 _ _ hv4).trans rfl
  have y11 : W4.frozen? ⟨X, 11, none⟩ = false := @block_frozen _ _ 11 _ _ hv4
  have hlen : (pk ++ [(n : Int)]).length = pk.length + 1 := by simp
  rw [hlen] at h4
  have H4 := Lib.hid h4
  clear a4 hv4 h4 hlen
  go_wp2
  exact ⟨rfl, .tuple #[], (by simp [results, Tryz.results55, go_sem]), rfl, H4.out⟩
 ·go_wp2
  refine wp_region_grow_tail 11 (by kernel_rfl) (by kernel_rfl) ?_
  simp only [List.take_succ_cons, List.take_zero, List.drop_succ_cons, List.drop_zero]
  repeat (go_big_quiet_step (fail))
  refine wpQuiet_nil ?_
  intro g2
  have h3 := (((H1.out.gr (Gr.of (grown_below W1 g2))).setBad (!ok)).gr (Gr.of (below_alloc (Below.refl _ _) (.cells #[.int .i64 n] 3))))
  obtain ⟨v2, hv2, ho2⟩ := h3.x
  obtain rfl : v = v2 := by
   have a2 : (((grown W1 g2).setCell ⟨p, 1, none⟩ (.bool (!ok))).alloc (.cells #[.int .i64 n] 3)).cell? ⟨X, 11, none⟩ = some v := by go_simp
   have a1 : (((grown W1 g2).setCell ⟨p, 1, none⟩ (.bool (!ok))).alloc (.cells #[.int .i64 n] 3)).cell? ⟨X, 11, none⟩ = some v2 := (@block_cells _ _ 11 _ _ hv2).trans rfl
   rw [a1] at a2
   exact (Option.some.inj a2).symm
  have H3 := Lib.hid h3; have HV2 := Lib.hid hv2; have HO2 := Lib.hid ho2; clear h3 hv2 ho2
  go_wp2_with (at_builtin; refine wp_append_num rfl _ _ rfl W0.heap.size v pk ?hs2 HO2.out _ 0 1 [(n : Int)] 1 rfl rfl ?hc2 (by simp; omega) H3.out.frm.size ?_)
  case hs2 => rfl
  case hc2 =>
   intro j y hj
   match j, hj with
   | 0, hj =>
    simp at hj
    subst hj
    simp [go_sem]
  intro v4 W4 a4
  have hv4 : BlockAt W4 X (actC k nd m f v) 42 := a4.keep _ _ _ HV2.out (by decide)
  have h4 := H3.out.put HO2.out a4 (a4.below.block p HPL.out)
  obtain ⟨A4, c4, rfl, _, _⟩ := a4.own.form
  have z11 : W4.cell? ⟨X, 11, none⟩ = some v := (@block_cells _ _ 11 _ _ hv4).trans rfl
  have y11 : W4.frozen? ⟨X, 11, none⟩ = false := @block_frozen _ _ 11 _ _ hv4
  have hlen : (pk ++ [(n : Int)]).length = pk.length + 1 := by simp
  rw [hlen] at h4
  have H4 := Lib.hid h4
  clear a4 hv4 h4 hlen
  go_wp2
  exact ⟨rfl, .tuple #[], (by simp [results, Tryz.results55, go_sem]), rfl, H4.out⟩
def numN (x : ByteArray) : Int := (decV x.data.toList 1000000 : Nat)
def badN (x : ByteArray) : Bool := !decOk x.data.toList 1000000
def isDash (x : ByteArray) : Bool := x.data.toList == [45]
def pkOf (x : ByteArray) : List Int := if isDash x then [] else (wordsB 44 x).map numN
def pkBad (x : ByteArray) : Bool := !isDash x && (wordsB 44 x).any badN
structure PEnd (W0 : World) (p Wc X : Nat) (k nd m : Int) (f : Bool) (W : World) (ws : List ByteArray) (bad : Bool) (pk : List Int) : Prop where
 frm : Frm W0.heap.size p X W0 W
 ws : WS p W ws bad
 wc : BlockAt W Wc #[.pointer (some ⟨p, 0, none⟩)] 76
 x : ∃ v, BlockAt W X (actC k nd m f v) 42 ∧ OwnR (Value.int .i64) 3 W0.heap.size W v pk
theorem Frm.wrd {base p X : Nat} {W W' : World} (h : Wrd p W W') (hb : base ≤ W.heap.size) : Frm base p X W W' :=
 ⟨h.g.os, h.g.tape, h.g.output, h.g.size, fun b h1 h2 _ => h.g.block b (by omega) (fun e => by cases e; exact h2 rfl), fun B cs T hB _ h2 _ => ⟨(h.g.block B hB.lt (fun e => by cases e; exact h2 rfl)).trans hB.eq⟩⟩
theorem Frm.less {base base2 p X : Nat} {W W' : World} (h : Frm base2 p X W W') (hb : base ≤ base2) : Frm base p X W W' :=
 ⟨h.os, h.tape, h.output, h.size, fun b h1 h2 h3 => h.old b (by omega) h2 h3, h.typ⟩
set_option maxRecDepth 100000 in
set_option maxHeartbeats 4000000 in
theorem row_any (W : World) [hml : Ml W] (p Wc X : Nat) [hfp : Far p] (k nd m : Int) (f : Bool) (ws : List ByteArray) (bad : Bool) (h : WS p W ws bad) (hw : (hdW ws).size ≤ 200000)
  (hx : BlockAt W X (actC k nd m f (.slice none 0 0)) 42) (hwc : BlockAt W Wc #[.pointer (some ⟨p, 0, none⟩)] 76) (xp : X ≠ p) (wp : Wc ≠ p) (wx : Wc ≠ X) :
  Calls Tryz.prog 54 #[.pointer (some ⟨p, 0, none⟩), .func (.func 55) #[] #[.pointer (some ⟨Wc, 0, none⟩), .pointer (some ⟨X, 0, none⟩)]] W fun e W' => e = .returned (.tuple #[]) ∧ PEnd W p Wc X k nd m f W' ws.tail ((bad || ws.isEmpty) || pkBad (hdW ws)) (pkOf (hdW ws)) := by
 have H := Lib.hid h; clear h
 obtain ⟨bd, hbd⟩ : ∃ bd, (bad || ws.isEmpty) = bd := ⟨_, rfl⟩
 rw [hbd]
 have HBD := Lib.hid hbd; clear hbd
 go_enter Tryz.func54, Tryz.ntmps54
 go_wp2_with ((go_at_call 49; ((with_reducible refine (word_any p _ ws bad H.out).mono ?_))))
 rintro _ W1 ⟨rfl, h1, r1⟩
 rw [HBD.out] at h1
 haveI : Ml W1 := r1.ml
 have hx1 : BlockAt W1 X (actC k nd m f (.slice none 0 0)) 42 := r1.blockAt hx xp
 have hwc1 : BlockAt W1 Wc #[.pointer (some ⟨p, 0, none⟩)] 76 := r1.blockAt hwc wp
 have hp1 := h1.old.lt
 have hf1 : Frm W.heap.size p X W W1 := Frm.wrd r1 (Nat.le_refl _)
 have H1 := Lib.hid h1; have R1 := Lib.hid r1; have HX1 := Lib.hid hx1; have HW1 := Lib.hid hwc1; have HF1 := Lib.hid hf1; clear h1 r1 hx1 hwc1 hf1
 rcases Bool.eq_false_or_eq_true ((hdW ws).toList == [45]) with hd | hd
 ·have e : isDash (hdW ws) = true := by rw [isDash, ← Lib.toList_data]; exact hd
  have e1 : pkOf (hdW ws) = [] := by rw [pkOf, if_pos e]
  have e2 : pkBad (hdW ws) = false := by rw [pkBad, e]; rfl
  have E1 := Lib.hid e1; have E2 := Lib.hid e2; clear e e1 e2
  go_wp2
  exact ⟨rfl, .tuple #[], (by simp [results, Tryz.results54, go_sem]), rfl, by rw [E1.out, E2.out, Bool.or_false]; exact ⟨HF1.out, H1.out, HW1.out, _, HX1.out, OwnR.nil _ _⟩⟩
 ·have e : isDash (hdW ws) = false := by rw [isDash, ← Lib.toList_data]; exact hd
  have e1 : pkOf (hdW ws) = (wordsB 44 (hdW ws)).map numN := by rw [pkOf, e]; rfl
  have e2 : pkBad (hdW ws) = (wordsB 44 (hdW ws)).any badN := by rw [pkBad, e]; rfl
  have E1 := Lib.hid e1; have E2 := Lib.hid e2; clear e e1 e2
  go_wp2_with ((go_at_call 36; ((with_reducible refine (split_any (hdW ws) 44 _ (by omega)).mono ?_))))
  rintro _ _ ⟨rfl, rfl⟩
  have hn := wordsB_le 44 (hdW ws)
  have hsh := Lib.hid (fun x hx => wordsB_each 44 (hdW ws) x hx)
  generalize hps : wordsB 44 (hdW ws) = ps at *
  clear hps
  have hnew : BlockAt (W1.alloc (.cells (ps.map Value.string).toArray 9)) W1.heap.size (ps.map Value.string).toArray 9 := inferInstance
  have hst : PSt (W1.alloc (.cells (ps.map Value.string).toArray 9)) p Wc X k nd m f (W1.alloc (.cells (ps.map Value.string).toArray 9)) ws.tail bd [] := by
   have g := Gr.of (below_alloc (Below.refl W1.heap.size W1) (.cells (ps.map Value.string).toArray 9))
   exact PSt.start (H1.out.gr2 g) (HX1.out.gr g) (HW1.out.gr g) xp wp wx
  have hxl := HX1.out.lt
  have HXL := Lib.hid hxl
  have HF2 := Lib.hid (HF1.out.trans (Frm.gr (Gr.of (below_alloc (Below.refl W1.heap.size W1) (.cells (ps.map Value.string).toArray 9))) HF1.out.size))
  have HS1 := Lib.hid (show W.heap.size ≤ (W1.alloc (.cells (ps.map Value.string).toArray 9)).heap.size by have := R1.out.g.size; simp; omega)
  have HPN := Lib.hid (show W1.heap.size ≠ p by omega)
  have HXN := Lib.hid (show W1.heap.size ≠ X by omega)
  clear hxl
  go_wp2
  generalize hW2 : W1.alloc (.cells (ps.map Value.string).toArray 9) = W2 at *
  have HNEW := Lib.hid hnew; have HST := Lib.hid hst; clear hnew hst
  have hsz2 : W1.heap.size < W2.heap.size := HNEW.out.lt
  clear hW2
  go_loopw [14] (fun i wr => ∃ j : Nat, i = .int .i64 j ∧ j ≤ ps.length ∧ PSt W2 p Wc X k nd m f wr ws.tail (bd || (ps.take j).any badN) ((ps.take j).map numN)) (fun i _ => ps.length - (intOf i).toNat)
  case atStart => exact ⟨0, rfl, Nat.zero_le _, by simpa using HST.out⟩
  case round =>
   obtain ⟨j, rfl, hj, hps⟩ := hrel
   have HP := Lib.hid hps; clear hps
   by_cases hlt : j < ps.length
   ·have hxc : wr.cell? ⟨W1.heap.size, j, none⟩ = some (.string ps[j]) := by
     have e := HP.out.frm.old W1.heap.size hsz2 HPN.out HXN.out
     have e3 : W2.cell? ⟨W1.heap.size, j, none⟩ = some (.string ps[j]) := by
      rw [@block_cells W2 W1.heap.size j _ _ HNEW.out]; simp [hlt]
     rw [← e3]
     simp [World.cell?, e]
    have hxs : ps[j].size ≤ (hdW ws).size := hsh.out _ (List.getElem_mem hlt)
    have htk := List.take_succ_eq_append_getElem hlt
    have htl : (ps.take j).length ≤ j := List.length_take_le _ _
    generalize hxk : ps[j] = x at *
    clear hxk
    have HT := Lib.hid htk; clear htk
    have HC := Lib.hid (clo_any x (by omega) HP.out (by rw [List.length_map]; omega))
    go_wp2_with ((go_at_call 55; ((with_reducible refine HC.out.mono ?_))))
    rintro _ W5 ⟨rfl, h5⟩
    have H5 := Lib.hid h5; clear h5
    go_wp2
    go_roundw
    case rel =>
     refine ⟨j + 1, by go_num, by omega, ?_⟩
     rw [HT.out, List.any_append, List.map_append, ← Bool.or_assoc]
     simpa [badN, numN] using H5.out
    case measure => simp [intOf]; omega
   ·obtain rfl : j = ps.length := by omega
    have he := HP.out
    rw [List.take_length] at he
    have HE := Lib.hid he; clear he
    go_wp2
    exact ⟨rfl, .tuple #[], (by simp [results, Tryz.results54, go_sem]), rfl, by
     rw [E1.out, E2.out]
     obtain ⟨v, hv, ho⟩ := HE.out.x
     exact ⟨HF2.out.trans (HE.out.frm.less HS1.out), HE.out.toWS, HE.out.wc, v, hv, ho.more HS1.out⟩⟩
theorem hexd_no : ∀ i : Fin 16, hexd i.val ≠ 32 ∧ hexd i.val ≠ 44 ∧ hexd i.val ≠ 45 := by decide
theorem hexL_no (l : List UInt8) : ∀ x ∈ hexL l, x ≠ 32 ∧ x ≠ 44 ∧ x ≠ 45 := by
 intro x hx
 simp only [hexL, List.mem_flatMap, List.mem_cons, List.mem_nil_iff, or_false] at hx
 obtain ⟨c, _, rfl | rfl⟩ := hx
 ·exact hexd_no ⟨c.toNat / 16, by have := c.toNat_lt; omega⟩
 ·exact hexd_no ⟨c.toNat % 16, by omega⟩
theorem allZero_eq (l : List UInt8) (h : ∀ x ∈ l, x = 0) : l = List.replicate l.length 0 := List.eq_replicate_iff.2 ⟨rfl, h⟩
theorem takeWhile_zero (l : List UInt8) : l.takeWhile (· == 0) = List.replicate (l.takeWhile (· == 0)).length 0 := by
 apply allZero_eq
 intro x hx
 have h := List.all_takeWhile (p := (fun x : UInt8 => x == 0)) (l := l)
 rw [List.all_eq_true] at h
 simpa using h x hx
theorem trimZ_pad (l : List UInt8) : l = trimZ l ++ List.replicate (l.length - (trimZ l).length) 0 := by
 have h := List.takeWhile_append_dropWhile (p := (fun x : UInt8 => x == 0)) (l := l.reverse)
 have h2 : l = trimZ l ++ (l.reverse.takeWhile (· == 0)).reverse := by
  rw [trimZ, ← List.reverse_append, h, List.reverse_reverse]
 have h3 := takeWhile_zero l.reverse
 have h4 : (l.reverse.takeWhile (· == 0)).reverse = List.replicate (l.reverse.takeWhile (· == 0)).length 0 := by
  rw [h3, List.reverse_replicate, List.length_replicate]
 have h5 : l.length = (trimZ l).length + (l.reverse.takeWhile (· == 0)).length := by
  conv => lhs; rw [h2]
  simp
 rw [h4] at h2
 rw [show l.length - (trimZ l).length = (l.reverse.takeWhile (· == 0)).length by omega]
 exact h2
theorem hexL_ne45 (l : List UInt8) : hexL l ≠ [45] := by
 intro h
 have := hexL_len l
 rw [h] at this
 simp at this
 omega
theorem secL_ok (b : List UInt8) (h : b.length = 64) : secOf ⟨(secL b).toArray⟩ = b ∧ badPc ⟨(secL b).toArray⟩ = false := by
 have hp := trimZ_pad b
 unfold secL
 split
 ·rename_i h0
  rw [h0, h] at hp
  exact ⟨by simp [secOf]; rw [hp]; simp, by simp [badPc]⟩
 ·rename_i h0
  have h1 := trimZ_len b
  have e : (hexL (trimZ b) == [45]) = false := by simpa using hexL_ne45 (trimZ b)
  refine ⟨?_, ?_⟩
  ·simp only [secOf, e, unhexL_hex, Option.getD_some, padS]
   rw [if_neg (by simp), List.take_of_length_le (by omega), ← h]
   exact hp.symm
  ·simp only [badPc, e, unhexL_hex, Option.getD_some, Option.isSome_some]
   simp; omega
theorem secL_no (b : List UInt8) : ∀ x ∈ secL b, x ≠ 32 ∧ x ≠ 44 := by
 intro x hx
 unfold secL at hx
 split at hx
 ·simp at hx; subst hx; decide
 ·have := hexL_no _ x hx; exact ⟨this.1, this.2.1⟩
theorem secs_no (l : List UInt8) (k : Nat) : ∀ x ∈ (secs l k).map (·.data.toList), (44 : UInt8) ∉ x := by
 intro x hx
 simp only [secs, List.map_map, List.mem_map, Function.comp] at hx
 obtain ⟨j, _, rfl⟩ := hx
 intro h
 exact (secL_no _ 44 (by simpa [secAt] using h)).2 rfl
theorem data_words (l : List UInt8) (h : 64 ≤ l.length) : wordsB 44 ⟨(dataL l).toArray⟩ = secs l (l.length / 64) := by
 have hn : secs l (l.length / 64) ≠ [] := by
  intro e
  have := secs_len l (l.length / 64)
  rw [e] at this
  simp at this
  omega
 rw [wordsB, dataL, rowL, if_neg hn]
 simp only
 rw [cutL_join 44 _ (by simpa using hn) (secs_no l _), List.map_map]
 simp [Function.comp_def]
theorem drop_take_flat (l : List UInt8) : ∀ n : Nat, 64 * n ≤ l.length → ((List.range n).map (fun j => (l.drop (64 * j)).take 64)).flatten = l.take (64 * n)
 | 0, _ => by simp
 | n + 1, h => by
  rw [List.range_succ, List.map_append, List.flatten_append, drop_take_flat l n (by omega)]
  simp only [List.map_cons, List.map_nil, List.flatten_cons, List.flatten_nil, List.append_nil]
  rw [show 64 * (n + 1) = 64 * n + 64 by omega, List.take_add]
theorem data_ok (l : List UInt8) (h : 64 ≤ l.length) : dataOf ⟨(dataL l).toArray⟩ = l.take (64 * (l.length / 64)) ∧ dataBad ⟨(dataL l).toArray⟩ = false := by
 have hl : ∀ j, j < l.length / 64 → ((l.drop (64 * j)).take 64).length = 64 := fun j hj => by simp; omega
 constructor
 ·rw [dataOf, data_words l h, ← drop_take_flat l _ (by omega), List.flatMap_def]
  congr 1
  simp only [secs, List.map_map]
  refine List.map_congr_left fun j hj => ?_
  exact (secL_ok _ (hl j (by simpa using hj))).1
 ·rw [dataBad, data_words l h, List.any_eq_false]
  intro x hx
  simp only [secs, List.mem_map, List.mem_range] at hx
  obtain ⟨j, hj, rfl⟩ := hx
  rw [secAt, (secL_ok _ (hl j hj)).2]
  simp
theorem join_no (c : UInt8) (s : List UInt8) (hs : c ∉ s) : ∀ xs : List (List UInt8), (∀ x ∈ xs, c ∉ x) → c ∉ Lib.join xs s
 | [], _ => by simp [Lib.join]
 | [x], h => by rw [join_one]; exact h x (by simp)
 | x :: y :: r, h => by
  rw [join_two]
  have := join_no c s hs (y :: r) (fun z hz => h z (List.mem_cons_of_mem _ hz))
  simp only [List.mem_append, not_or]
  exact ⟨⟨h x (by simp), hs⟩, this⟩
theorem dataL_no (l : List UInt8) : (32 : UInt8) ∉ dataL l := by
 unfold dataL rowL
 split
 ·decide
 ·refine join_no 32 [44] (by decide) _ (fun x hx => ?_)
  simp only [secs, List.map_map, List.mem_map, Function.comp] at hx
  obtain ⟨j, _, rfl⟩ := hx
  intro h
  exact (secL_no _ 32 (by simpa [secAt] using h)).1 rfl
theorem gr_drewN {w w' : World} (h : ∃ q, w' = w.drewN q) : Gr w w' := by
 obtain ⟨q, rfl⟩ := h
 exact Gr.of ⟨rfl, rfl, rfl, Nat.le_refl _, fun _ _ => rfl⟩
theorem equalI_any (A B : Option Addr) (n c m d : Nat) (xs ys : List Int) (w : World) (hx : xs.length = n) (hy : ys.length = m) (hn : n ≤ 9223372036854775807) (hm : m ≤ 9223372036854775807) (h1 : Row (Value.int .i64) w A xs) (h2 : Row (Value.int .i64) w B ys) :
  Calls Tryz.prog 77 #[.slice A n c, .slice B m d] w fun e w' => e = .returned (.bool (xs == ys)) ∧ Gr w w' := by
 by_cases h : n = m
 ·subst h
  rcases Nat.eq_zero_or_pos n with h0 | h0
  ·subst h0
   have e1 : xs = [] := List.eq_nil_of_length_eq_zero hx
   have e2 : ys = [] := List.eq_nil_of_length_eq_zero hy
   subst e1 e2
   exact (Tryz.slices_Equal_int_empty A B c 0 d w (by omega)).mono fun _ _ ⟨he, hw⟩ => ⟨he, hw ▸ Gr.refl _⟩
  ·obtain ⟨b1, o1, rfl, _, hc1⟩ := h1.at_ (by rintro rfl; simp at hx; omega)
   obtain ⟨b2, o2, rfl, _, hc2⟩ := h2.at_ (by rintro rfl; simp at hy; omega)
   refine (Tryz.slices_Equal_int b1 o1 n c b2 o2 n d xs ys w (by omega) (by omega) hn hn (fun j hj => ?_) (fun j hj => ?_)).mono fun _ _ ⟨he, hw⟩ => ⟨?_, gr_drewN hw⟩
   ·rw [hc1 j _ (List.getElem?_eq_getElem hj)]; simp [List.getD, hj]
   ·rw [hc2 j _ (List.getElem?_eq_getElem hj)]; simp [List.getD, hj]
   ·rw [he, List.take_of_length_le (by omega), List.take_of_length_le (by omega)]
 ·have : (xs == ys) = false := by simp only [beq_eq_false_iff_ne, ne_eq]; rintro rfl; omega
  rw [this]
  exact (Tryz.slices_Equal_int_lens A B n c m d w h).mono fun _ _ ⟨he, hw⟩ => ⟨he, hw ▸ Gr.refl _⟩
def mayN (n : Int) : Bool := decide (0 ≤ n) && decide (n ≤ 1000000)
theorem mayAct1_any (n : Int) (w : World) : Calls Tryz.prog 62 #[.int .i64 n] w fun e w' => e = .returned (.bool (!(mayN n))) ∧ w = w' := by
 have HM := Lib.hid (fun W => (may26_any n W).mono (R' := fun e w' => e = .returned (.bool (mayN n)) ∧ W = w') fun _ _ h => h)
 go_enter Tryz.func62, Tryz.ntmps62
 go_wp2_with (go_at_call 60; ((with_reducible refine (HM.out _).mono ?_); rintro _ _ ⟨rfl, rfl⟩))
 go_ret
 exact ⟨rfl, rfl⟩
def SomeIdx (p : Bool) (w : World) (e : Ending) (w' : World) : Prop := ∃ r : Int, decide (0 ≤ r) = p ∧ e = .returned (.int .i64 r) ∧ Gr w w'
set_option maxRecDepth 100000 in
set_option maxHeartbeats 2000000 in
theorem indexFuncI_some (b o n c : Nat) (xs : List Int) (w : World) (hx : xs.length = n) (hn : n ≤ 9223372036854775807) (hb : b < w.heap.size) (hc : ∀ (j : Nat) x, xs[j]? = some x → w.cell? ⟨b, o + j, none⟩ = some (.int .i64 x)) :
  Calls Tryz.prog 95 #[.slice (some ⟨b, o, none⟩) n c, .func (.func 62) #[] #[]] w (SomeIdx (xs.any fun n => !(mayN n)) w) := by
 have HC := Lib.hid hc; clear hc
 have HL := Lib.hid hx; clear hx
 haveI io : Old b w := ⟨hb⟩
 go_enter Tryz.func95, Tryz.ntmps95
 go_wp2
 go_loopw [8] (fun i wr => ∃ k : Nat, i = .int .i64 k ∧ k ≤ n ∧ Hid ((xs.take k).any (fun n => !(mayN n)) = false) ∧ wr = w) (fun i _ => n - (intOf i).toNat)
 case atStart => exact ⟨0, rfl, Nat.zero_le _, Lib.hid (by simp), rfl⟩
 case round =>
  obtain ⟨k, rfl, hk, hg, rfl⟩ := hrel
  by_cases hlt : k < n
  ·have hkx : k < xs.length := by have := HL.out; omega
   obtain ⟨x, hxk⟩ : ∃ x, xs[k]? = some x := ⟨xs[k], List.getElem?_eq_getElem hkx⟩
   have c1 := HC.out k x hxk
   have HX := Lib.hid hxk; clear hxk hkx
   have HA := Lib.hid (fun W => mayAct1_any x W)
   rcases Bool.eq_false_or_eq_true (mayN x) with hm | hm
   ·have HM := Lib.hid hm
    go_wp2_with (go_at_call 62; ((with_reducible refine (HA.out _).mono ?_); rintro _ _ ⟨rfl, rfl⟩))
    go_roundw
    case rel => exact ⟨k + 1, by go_num, by omega, Lib.hid (by
     have e1 : xs.take (k + 1) = xs.take k ++ [x] := by rw [List.take_add_one, HX.out]; rfl
     rw [e1, List.any_append, hg.out]
     simp [HM.out]), trivial⟩
    case measure => simp [intOf]; omega
   ·have HM := Lib.hid hm
    have hp : decide (0 ≤ (k : Int)) = xs.any (fun n => !(mayN n)) := by
     have : xs.any (fun n => !(mayN n)) = true := List.any_eq_true.2 ⟨x, List.mem_of_getElem? HX.out, by simp [HM.out]⟩
     rw [this]; simp
    have HP := Lib.hid hp; clear hp
    go_wp2_with (go_at_call 62; ((with_reducible refine (HA.out _).mono ?_); rintro _ _ ⟨rfl, rfl⟩))
    go_ret
    exact ⟨k, HP.out, rfl, Gr.refl _⟩
  ·have hp : decide (0 ≤ (-1 : Int)) = xs.any (fun n => !(mayN n)) := by
    have := hg.out
    rw [List.take_of_length_le (by have := HL.out; omega)] at this
    rw [this]; rfl
   have HP := Lib.hid hp; clear hp
   go_wp2
   go_ret
   exact ⟨-1, HP.out, rfl, Gr.refl _⟩
theorem indexFuncI_any (A : Option Addr) (n c : Nat) (xs : List Int) (w : World) (hx : xs.length = n) (hn : n ≤ 9223372036854775807) (h : Row (Value.int .i64) w A xs) :
  Calls Tryz.prog 95 #[.slice A n c, .func (.func 62) #[] #[]] w (SomeIdx (xs.any fun n => !(mayN n)) w) := by
 rcases Nat.eq_zero_or_pos n with h0 | h0
 ·subst h0
  obtain rfl : xs = [] := List.eq_nil_of_length_eq_zero hx
  go_enter Tryz.func95, Tryz.ntmps95
  go_wp2
  refine wp_loop_rounds 1 ?_
  rw [rounds_succ]
  go_wp2
  go_ret
  exact ⟨-1, rfl, rfl, gri⟩
 ·obtain ⟨b, o, rfl, hb, hc⟩ := h.at_ (by rintro rfl; simp at hx; omega)
  exact indexFuncI_some b o n c xs w hx hn hb hc
theorem containsI_any (A : Option Addr) (n c : Nat) (xs : List Int) (w : World) (hx : xs.length = n) (hn : n ≤ 9223372036854775807) (h : Row (Value.int .i64) w A xs) :
  Calls Tryz.prog 61 #[.slice A n c, .func (.func 62) #[] #[]] w fun e w' => e = .returned (.bool (xs.any fun n => !(mayN n))) ∧ Gr w w' := by
 have HI := Lib.hid (indexFuncI_any A n c xs w hx hn h); clear h hx
 go_enter Tryz.func61, Tryz.ntmps61
 go_wp2_with (go_at_call 95; ((with_reducible refine HI.out.mono ?_); rintro _ _ ⟨r, hr, rfl, g, rfl⟩; have HR := Lib.hid hr; clear hr))
 go_ret
 exact ⟨by rw [← HR.out]; rfl, gri⟩
def pickT (px : List Int) : List ByteArray := px.map fun n => ⟨(Lib.itoa n).toArray⟩
theorem pickT_snoc (px : List Int) (j : Nat) (x : Int) (h : px[j]? = some x) : pickT (px.take (j + 1)) = pickT (px.take j) ++ [⟨(Lib.itoa x).toArray⟩] := by
 have e1 : px.take (j + 1) = px.take j ++ [x] := by rw [List.take_add_one, h]; rfl
 rw [e1]; simp [pickT]
structure Pk (px : List Int) : Prop where
 lo : ∀ n ∈ px, -9223372036854775808 ≤ n
 hi : ∀ n ∈ px, n ≤ 9223372036854775807
theorem Pk.join {px : List Int} (h : Pk px) (hl : px.length ≤ 1000) : (Lib.join ((pickT px).map (·.data.toList)) [44]).length ≤ 22000 := by
 have := join_len [44] rfl 21 ((pickT px).map (·.data.toList)) (fun x hx => by
  simp only [pickT, List.map_map, List.mem_map] at hx
  obtain ⟨n, hn, rfl⟩ := hx
  have := itoa_len n (h.lo n hn) (h.hi n hn)
  simpa using this)
 simp only [pickT, List.length_map] at this ⊢
 omega
theorem Pk.row {px : List Int} (h : Pk px) (hl : px.length ≤ 1000) : (rowL (pickT px)).length ≤ 22000 := by
 unfold rowL
 split
 ·simp
 ·exact h.join hl
theorem opTextL_len (xk xv xt xs xa xc : Int) (lx : List UInt8) (B : Bd xv xt xs xa xc) (h : lx.length ≤ 100000) : (opTextL xk xv xt xs xa xc lx).length ≤ 2000000 := by
 have hd := dec_len xv.toNat (by have := B.v1; omega)
 have ht := dec_len xt.toNat (by have := B.t1; omega)
 have hs := itoa_len _ B.s0 B.s1
 have ha := itoa_len _ B.a0 B.a1
 have hc := itoa_len _ B.c0 B.c1
 have hx := dataL_len lx h
 have hl : (opPieces xk xv xt xs xa xc lx).length ≤ 4 := by
  unfold opPieces
  repeat' split
  all_goals simp
 have hm : ∀ y ∈ (opPieces xk xv xt xs xa xc lx).map (·.data.toList), y.length ≤ 300000 := by
  unfold opPieces
  repeat' split
  all_goals
   intro y hy
   simp only [List.map_cons, List.map_nil, List.mem_cons, List.mem_nil_iff, or_false] at hy
  all_goals
   rcases hy with h | h | h | h
  all_goals (first | (subst h; first | omega | simp) | omega | simp)
 have := join_len [32] rfl 300000 _ hm
 unfold opTextL
 rw [List.length_map] at this
 have h2 : (opPieces xk xv xt xs xa xc lx).length * 300001 ≤ 4 * 300001 := Nat.mul_le_mul_right _ hl
 omega
theorem OwnS.more {base base2 : Nat} {W : World} {v : Value} {xs : List ByteArray} (h : OwnS base2 W v xs) (hb : base ≤ base2) : OwnS base W v xs := by
 refine ⟨h.1, ?_⟩
 rcases h.2 with h2 | ⟨g, cap, cur, hv, hb2, h4⟩
 ·exact .inl h2
 ·exact .inr ⟨g, cap, cur, hv, Nat.le_trans hb hb2, h4⟩
theorem OwnS.first {base : Nat} {W : World} {b c : Nat} {y z : ByteArray} (h : OwnS base W (.slice (some ⟨b, 0, none⟩) 1 c) [y]) : OwnS base (W.setCell ⟨b, 0, none⟩ (.string z)) (.slice (some ⟨b, 0, none⟩) 1 c) [z] := (World.ownsRow.stored h 0 (.string z)).1
set_option maxRecDepth 100000 in
set_option maxHeartbeats 8000000 in
theorem actText_1 (xn xm xOk xOv xOt xOs xOa xOc : Int) (xOD xP : Option Addr) (xOn xOq xpn xpq : Nat) (lx : List UInt8) (px : List Int) (w : World) [hk : Tb w] (n0 : -9223372036854775808 ≤ xn) (n1 : xn ≤ 9223372036854775807) (m0 : -9223372036854775808 ≤ xm) (m1 : xm ≤ 9223372036854775807) (B : Bd xOv xOt xOs xOa xOc) (ok : 1 ≤ xOk) (ok9 : xOk ≤ 9) (hx : lx.length = xOn) (hxq : xOn ≤ xOq) (hn : xOn ≤ 100000) (h1 : Row bv w xOD lx) : Calls Tryz.prog 42 #[(Value.agg #[.int .i64 1, .int .i64 xn, .int .i64 xm, .int .i64 xOk, .int .u64 xOv, .int .u64 xOt, .int .i64 xOs, .int .i64 xOa, .int .i64 xOc, .slice xOD xOn xOq, .bool false, .slice xP xpn xpq])] w fun e w' => e = .returned (.string ⟨(Lib.join (([⟨#[97, 115, 107]⟩, ⟨(Lib.itoa xn).toArray⟩, ⟨(opTextL xOk xOv xOt xOs xOa xOc lx).toArray⟩] : List ByteArray).map (·.data.toList)) [32]).toArray⟩) ∧ Gr w w' := by
 have H1 := Lib.hid h1; clear h1
 have HX := Lib.hid hx; clear hx
 have en : actPartsB 1 = ⟨#[100, 111]⟩ := rfl
 go_enter Tryz.func42, Tryz.ntmps42
 go_upto_region 1 with fail
 go_cut [3] (fun v wx => (∃ b : Nat, v = .slice (some ⟨b, 0, none⟩) 1 1 ∧ w.heap.size + 1 ≤ b ∧ b < wx.heap.size ∧ OwnS (w.heap.size + 1) wx v [⟨#[97, 115, 107]⟩]) ∧ Below w.heap.size w wx ∧ From w wx ∧ Tb wx ∧ (wx.cell? ⟨w.heap.size, 0, none⟩ = some (.int .i64 1) ∧ wx.cell? ⟨w.heap.size, 1, none⟩ = some (.int .i64 xn) ∧ wx.cell? ⟨w.heap.size, 2, none⟩ = some (.int .i64 xm) ∧ wx.cell? ⟨w.heap.size, 3, none⟩ = some (.int .i64 xOk) ∧ wx.cell? ⟨w.heap.size, 4, none⟩ = some (.int .u64 xOv) ∧ wx.cell? ⟨w.heap.size, 5, none⟩ = some (.int .u64 xOt) ∧ wx.cell? ⟨w.heap.size, 6, none⟩ = some (.int .i64 xOs) ∧ wx.cell? ⟨w.heap.size, 7, none⟩ = some (.int .i64 xOa) ∧ wx.cell? ⟨w.heap.size, 8, none⟩ = some (.int .i64 xOc) ∧ wx.cell? ⟨w.heap.size, 9, none⟩ = some (.slice xOD xOn xOq) ∧ wx.cell? ⟨w.heap.size, 10, none⟩ = some (.bool false) ∧ wx.cell? ⟨w.heap.size, 11, none⟩ = some (.slice xP xpn xpq)))
 case first =>
  go_region_with ((go_at_call 51; refine (actWords_any _).mono ?_; rintro e w' ⟨rfl, rfl⟩))
  all_goals
   go_wp2_with fail
   go_meet
   case rel =>
    refine ⟨?_, (gri : Gr w _).below, inferInstance, inferInstance, by simp [go_sem], by simp [go_sem], by simp [go_sem], by simp [go_sem], by simp [go_sem], by simp [go_sem], by simp [go_sem], by simp [go_sem], by simp [go_sem], by simp [go_sem], by simp [go_sem], by simp [go_sem]⟩
    refine ⟨_, rfl, by omega, (inferInstance : Old _ _).lt, ?_⟩
    first
     | exact OwnS.new _ _ _ (by omega)
     | exact (OwnS.new _ _ _ (by omega)).drew_
 case rest =>
  obtain ⟨⟨b0, rfl, hb0, hb1, hown⟩, hbw, hfr, htb, c0, c1, c2, c3, c4, c5, c6, c7, c8, c9, c10, c11⟩ := hcut
  have hle6 : 6 ≤ w.heap.size + 1 := Nat.le_succ_of_le hk.size
  haveI io : Old w.heap.size wc := old_of_cell c0
  haveI ib : Old b0 wc := ⟨hb1⟩
  go_wp2_with (go_at_call 52; ((with_reducible refine (actPartsB_any _ _).mono ?_); rintro _ _ ⟨rfl, g, rfl⟩))
  refine wp_loop_rounds 3 ?_
  rw [rounds_succ]
  go_wp2_with (go_at_call 87; ((with_reducible refine (itoa_any _ n0 n1 _).mono ?_)))
  rintro _ _ ⟨rfl, g0, rfl⟩
  go_wp2_with (at_builtin; refine wp_append_str rfl _ _ rfl (w.heap.size + 1) ?vv0 ([⟨#[97, 115, 107]⟩] : List ByteArray) ?hs0 ?own0 _ ⟨(Lib.itoa xn).toArray⟩ rfl ?hc0 (by simp) ?hb0 ?_)
  case own0 => (with_reducible repeat (first | exact hown | refine OwnS.alloc_ ?_ _ | refine OwnS.grown_ ?_ _ | refine OwnS.iter_ ?_ _ _ _ | refine OwnS.drew_ ?_))
  case hs0 => rfl
  case hc0 => simp [go_sem]
  case hb0 => exact Nat.succ_le_of_lt (inferInstance : Old w.heap.size _).lt
  intro v0 w0 a0
  haveI : Tb w0 := a0.tb hle6
  haveI : From w w0 := a0.from_ w
  haveI : Old w.heap.size w0 := a0.old _
  haveI : IterAt w0 (grown wc g).heap.size ⟨#[100, 111]⟩ 1 := a0.iter _ _ _ inferInstance
  have c0 := a0.cell (Nat.lt_succ_self w.heap.size) (show World.cell? _ ⟨w.heap.size, 0, none⟩ = some (.int .i64 1) by simp [go_sem, c0])
  have c1 := a0.cell (Nat.lt_succ_self w.heap.size) (show World.cell? _ ⟨w.heap.size, 1, none⟩ = some (.int .i64 xn) by simp [go_sem, c1])
  have c2 := a0.cell (Nat.lt_succ_self w.heap.size) (show World.cell? _ ⟨w.heap.size, 2, none⟩ = some (.int .i64 xm) by simp [go_sem, c2])
  have c3 := a0.cell (Nat.lt_succ_self w.heap.size) (show World.cell? _ ⟨w.heap.size, 3, none⟩ = some (.int .i64 xOk) by simp [go_sem, c3])
  have c4 := a0.cell (Nat.lt_succ_self w.heap.size) (show World.cell? _ ⟨w.heap.size, 4, none⟩ = some (.int .u64 xOv) by simp [go_sem, c4])
  have c5 := a0.cell (Nat.lt_succ_self w.heap.size) (show World.cell? _ ⟨w.heap.size, 5, none⟩ = some (.int .u64 xOt) by simp [go_sem, c5])
  have c6 := a0.cell (Nat.lt_succ_self w.heap.size) (show World.cell? _ ⟨w.heap.size, 6, none⟩ = some (.int .i64 xOs) by simp [go_sem, c6])
  have c7 := a0.cell (Nat.lt_succ_self w.heap.size) (show World.cell? _ ⟨w.heap.size, 7, none⟩ = some (.int .i64 xOa) by simp [go_sem, c7])
  have c8 := a0.cell (Nat.lt_succ_self w.heap.size) (show World.cell? _ ⟨w.heap.size, 8, none⟩ = some (.int .i64 xOc) by simp [go_sem, c8])
  have c9 := a0.cell (Nat.lt_succ_self w.heap.size) (show World.cell? _ ⟨w.heap.size, 9, none⟩ = some (.slice xOD xOn xOq) by simp [go_sem, c9])
  have c10 := a0.cell (Nat.lt_succ_self w.heap.size) (show World.cell? _ ⟨w.heap.size, 10, none⟩ = some (.bool false) by simp [go_sem, c10])
  have c11 := a0.cell (Nat.lt_succ_self w.heap.size) (show World.cell? _ ⟨w.heap.size, 11, none⟩ = some (.slice xP xpn xpq) by simp [go_sem, c11])
  have hown := a0.own
  have hbw := a0.chain (a := w) (by ((with_reducible repeat (first | exact hbw | exact Below.refl _ _ | apply below_alloc | refine below_set' ?_ _ | refine below_trans ?_ (grown_below _ _) | refine below_iter' ?_ _ _ | apply Below.drew)))) (Nat.le_succ _)
  clear a0
  simp only [List.cons_append, List.nil_append] at hown
  go_wp2
  rw [rounds_succ]
  go_wp2_with (go_at_call 39; ((with_reducible refine (opText_any _ _ _ _ _ _ _ _ _ lx _ ok ok9 B HX.out hxq hn (H1.out.gr (by (refine Gr.of ?_; (with_reducible repeat (first | exact hbw | exact Below.refl _ _ | apply below_alloc | refine below_set' ?_ _ | refine below_trans ?_ (grown_below _ _) | refine below_iter' ?_ _ _ | apply Below.drew)))))).mono ?_)))
  rintro _ _ ⟨rfl, g1, rfl⟩
  go_wp2_with (at_builtin; refine wp_append_str rfl _ _ rfl (w.heap.size + 1) ?vv1 ([⟨#[97, 115, 107]⟩, ⟨(Lib.itoa xn).toArray⟩] : List ByteArray) ?hs1 ?own1 _ ⟨(opTextL xOk xOv xOt xOs xOa xOc lx).toArray⟩ rfl ?hc1 (by simp) ?hb1 ?_)
  case own1 => (with_reducible repeat (first | exact hown | refine OwnS.alloc_ ?_ _ | refine OwnS.grown_ ?_ _ | refine OwnS.iter_ ?_ _ _ _ | refine OwnS.drew_ ?_))
  case hs1 => rfl
  case hc1 => simp [go_sem]
  case hb1 => exact Nat.succ_le_of_lt (inferInstance : Old w.heap.size _).lt
  intro v1 w1 a1
  haveI : Tb w1 := a1.tb hle6
  haveI : From w w1 := a1.from_ w
  haveI : Old w.heap.size w1 := a1.old _
  haveI : IterAt w1 (grown wc g).heap.size ⟨#[100, 111]⟩ 2 := a1.iter _ _ _ inferInstance
  have c0 := a1.cell (Nat.lt_succ_self w.heap.size) (show World.cell? _ ⟨w.heap.size, 0, none⟩ = some (.int .i64 1) by simp [go_sem, c0])
  have c1 := a1.cell (Nat.lt_succ_self w.heap.size) (show World.cell? _ ⟨w.heap.size, 1, none⟩ = some (.int .i64 xn) by simp [go_sem, c1])
  have c2 := a1.cell (Nat.lt_succ_self w.heap.size) (show World.cell? _ ⟨w.heap.size, 2, none⟩ = some (.int .i64 xm) by simp [go_sem, c2])
  have c3 := a1.cell (Nat.lt_succ_self w.heap.size) (show World.cell? _ ⟨w.heap.size, 3, none⟩ = some (.int .i64 xOk) by simp [go_sem, c3])
  have c4 := a1.cell (Nat.lt_succ_self w.heap.size) (show World.cell? _ ⟨w.heap.size, 4, none⟩ = some (.int .u64 xOv) by simp [go_sem, c4])
  have c5 := a1.cell (Nat.lt_succ_self w.heap.size) (show World.cell? _ ⟨w.heap.size, 5, none⟩ = some (.int .u64 xOt) by simp [go_sem, c5])
  have c6 := a1.cell (Nat.lt_succ_self w.heap.size) (show World.cell? _ ⟨w.heap.size, 6, none⟩ = some (.int .i64 xOs) by simp [go_sem, c6])
  have c7 := a1.cell (Nat.lt_succ_self w.heap.size) (show World.cell? _ ⟨w.heap.size, 7, none⟩ = some (.int .i64 xOa) by simp [go_sem, c7])
  have c8 := a1.cell (Nat.lt_succ_self w.heap.size) (show World.cell? _ ⟨w.heap.size, 8, none⟩ = some (.int .i64 xOc) by simp [go_sem, c8])
  have c9 := a1.cell (Nat.lt_succ_self w.heap.size) (show World.cell? _ ⟨w.heap.size, 9, none⟩ = some (.slice xOD xOn xOq) by simp [go_sem, c9])
  have c10 := a1.cell (Nat.lt_succ_self w.heap.size) (show World.cell? _ ⟨w.heap.size, 10, none⟩ = some (.bool false) by simp [go_sem, c10])
  have c11 := a1.cell (Nat.lt_succ_self w.heap.size) (show World.cell? _ ⟨w.heap.size, 11, none⟩ = some (.slice xP xpn xpq) by simp [go_sem, c11])
  have hown := a1.own
  have hbw := a1.chain (a := w) (by ((with_reducible repeat (first | exact hbw | exact Below.refl _ _ | apply below_alloc | refine below_set' ?_ _ | refine below_trans ?_ (grown_below _ _) | refine below_iter' ?_ _ _ | apply Below.drew)))) (Nat.le_succ _)
  clear a1
  simp only [List.cons_append, List.nil_append] at hown
  go_wp2
  obtain ⟨VA, vc, hv, hvc, hrow⟩ := hown.form
  have hv2 : v1 = .slice VA 3 vc := hv
  clear hv
  subst hv2
  have hvc2 : 3 ≤ vc := hvc
  clear hvc
  have hJ : (Lib.join (([⟨#[97, 115, 107]⟩, ⟨(Lib.itoa xn).toArray⟩, ⟨(opTextL xOk xOv xOt xOs xOa xOc lx).toArray⟩] : List ByteArray).map (·.data.toList)) [32]).length ≤ 140737488355328 := by
   refine Nat.le_trans (join_len [32] rfl 2000000 _ ?_) (by simp)
   intro x hx
   simp only [List.map_cons, List.map_nil, List.mem_cons, List.mem_nil_iff, or_false] at hx
   rcases hx with rfl | rfl | rfl
   ·simp
   ·have := itoa_len _ n0 n1; simp; omega
   ·have := opTextL_len xOk xOv xOt xOs xOa xOc lx B (by have := HX.out; omega); simp; omega
  have HJ := Lib.hid hJ; clear hJ
  have HROW := Lib.hid hrow; clear hrow hown
  have HLN : Hid (([⟨#[97, 115, 107]⟩, ⟨(Lib.itoa xn).toArray⟩, ⟨(opTextL xOk xOv xOt xOs xOa xOc lx).toArray⟩] : List ByteArray).length = 3) := Lib.hid rfl
  rw [rounds_succ]
  go_wp2_with (go_at_call 89; ((with_reducible refine (join_any _ _ _ ([⟨#[97, 115, 107]⟩, ⟨(Lib.itoa xn).toArray⟩, ⟨(opTextL xOk xOv xOt xOs xOa xOc lx).toArray⟩] : List ByteArray) ⟨#[32]⟩ _ HLN.out hvc2 HJ.out (by omega) (HROW.out.gr (gri))).mono ?_); rintro _ _ ⟨rfl, gz, rfl⟩))
  go_ret
  exact ⟨rfl, Gr.of (by ((with_reducible repeat (first | exact hbw | exact Below.refl _ _ | apply below_alloc | refine below_set' ?_ _ | refine below_trans ?_ (grown_below _ _) | refine below_iter' ?_ _ _ | apply Below.drew))))⟩
set_option maxRecDepth 100000 in
set_option maxHeartbeats 8000000 in
theorem actText_2 (xn xm xOk xOv xOt xOs xOa xOc : Int) (xOD xP : Option Addr) (xOn xOq xpn xpq : Nat) (lx : List UInt8) (px : List Int) (w : World) [hk : Tb w] (n0 : -9223372036854775808 ≤ xn) (n1 : xn ≤ 9223372036854775807) (m0 : -9223372036854775808 ≤ xm) (m1 : xm ≤ 9223372036854775807) : Calls Tryz.prog 42 #[(Value.agg #[.int .i64 2, .int .i64 xn, .int .i64 xm, .int .i64 xOk, .int .u64 xOv, .int .u64 xOt, .int .i64 xOs, .int .i64 xOa, .int .i64 xOc, .slice xOD xOn xOq, .bool false, .slice xP xpn xpq])] w fun e w' => e = .returned (.string ⟨(Lib.join (([⟨#[99, 97, 114, 114, 121]⟩, ⟨(Lib.itoa xm).toArray⟩] : List ByteArray).map (·.data.toList)) [32]).toArray⟩) ∧ Gr w w' := by
 have en : actPartsB 2 = ⟨#[110]⟩ := rfl
 go_enter Tryz.func42, Tryz.ntmps42
 go_upto_region 1 with fail
 go_cut [3] (fun v wx => (∃ b : Nat, v = .slice (some ⟨b, 0, none⟩) 1 1 ∧ w.heap.size + 1 ≤ b ∧ b < wx.heap.size ∧ OwnS (w.heap.size + 1) wx v [⟨#[99, 97, 114, 114, 121]⟩]) ∧ Below w.heap.size w wx ∧ From w wx ∧ Tb wx ∧ (wx.cell? ⟨w.heap.size, 0, none⟩ = some (.int .i64 2) ∧ wx.cell? ⟨w.heap.size, 1, none⟩ = some (.int .i64 xn) ∧ wx.cell? ⟨w.heap.size, 2, none⟩ = some (.int .i64 xm) ∧ wx.cell? ⟨w.heap.size, 3, none⟩ = some (.int .i64 xOk) ∧ wx.cell? ⟨w.heap.size, 4, none⟩ = some (.int .u64 xOv) ∧ wx.cell? ⟨w.heap.size, 5, none⟩ = some (.int .u64 xOt) ∧ wx.cell? ⟨w.heap.size, 6, none⟩ = some (.int .i64 xOs) ∧ wx.cell? ⟨w.heap.size, 7, none⟩ = some (.int .i64 xOa) ∧ wx.cell? ⟨w.heap.size, 8, none⟩ = some (.int .i64 xOc) ∧ wx.cell? ⟨w.heap.size, 9, none⟩ = some (.slice xOD xOn xOq) ∧ wx.cell? ⟨w.heap.size, 10, none⟩ = some (.bool false) ∧ wx.cell? ⟨w.heap.size, 11, none⟩ = some (.slice xP xpn xpq)))
 case first =>
  go_region_with ((go_at_call 51; refine (actWords_any _).mono ?_; rintro e w' ⟨rfl, rfl⟩))
  all_goals
   go_wp2_with fail
   go_meet
   case rel =>
    refine ⟨?_, (gri : Gr w _).below, inferInstance, inferInstance, by simp [go_sem], by simp [go_sem], by simp [go_sem], by simp [go_sem], by simp [go_sem], by simp [go_sem], by simp [go_sem], by simp [go_sem], by simp [go_sem], by simp [go_sem], by simp [go_sem], by simp [go_sem]⟩
    refine ⟨_, rfl, by omega, (inferInstance : Old _ _).lt, ?_⟩
    first
     | exact OwnS.new _ _ _ (by omega)
     | exact (OwnS.new _ _ _ (by omega)).drew_
 case rest =>
  obtain ⟨⟨b0, rfl, hb0, hb1, hown⟩, hbw, hfr, htb, c0, c1, c2, c3, c4, c5, c6, c7, c8, c9, c10, c11⟩ := hcut
  have hle6 : 6 ≤ w.heap.size + 1 := Nat.le_succ_of_le hk.size
  haveI io : Old w.heap.size wc := old_of_cell c0
  haveI ib : Old b0 wc := ⟨hb1⟩
  go_wp2_with (go_at_call 52; ((with_reducible refine (actPartsB_any _ _).mono ?_); rintro _ _ ⟨rfl, g, rfl⟩))
  refine wp_loop_rounds 2 ?_
  rw [rounds_succ]
  go_wp2_with (go_at_call 87; ((with_reducible refine (itoa_any _ m0 m1 _).mono ?_)))
  rintro _ _ ⟨rfl, g0, rfl⟩
  go_wp2_with (at_builtin; refine wp_append_str rfl _ _ rfl (w.heap.size + 1) ?vv0 ([⟨#[99, 97, 114, 114, 121]⟩] : List ByteArray) ?hs0 ?own0 _ ⟨(Lib.itoa xm).toArray⟩ rfl ?hc0 (by simp) ?hb0 ?_)
  case own0 => (with_reducible repeat (first | exact hown | refine OwnS.alloc_ ?_ _ | refine OwnS.grown_ ?_ _ | refine OwnS.iter_ ?_ _ _ _ | refine OwnS.drew_ ?_))
  case hs0 => rfl
  case hc0 => simp [go_sem]
  case hb0 => exact Nat.succ_le_of_lt (inferInstance : Old w.heap.size _).lt
  intro v0 w0 a0
  haveI : Tb w0 := a0.tb hle6
  haveI : From w w0 := a0.from_ w
  haveI : Old w.heap.size w0 := a0.old _
  haveI : IterAt w0 (grown wc g).heap.size ⟨#[110]⟩ 1 := a0.iter _ _ _ inferInstance
  have c0 := a0.cell (Nat.lt_succ_self w.heap.size) (show World.cell? _ ⟨w.heap.size, 0, none⟩ = some (.int .i64 2) by simp [go_sem, c0])
  have c1 := a0.cell (Nat.lt_succ_self w.heap.size) (show World.cell? _ ⟨w.heap.size, 1, none⟩ = some (.int .i64 xn) by simp [go_sem, c1])
  have c2 := a0.cell (Nat.lt_succ_self w.heap.size) (show World.cell? _ ⟨w.heap.size, 2, none⟩ = some (.int .i64 xm) by simp [go_sem, c2])
  have c3 := a0.cell (Nat.lt_succ_self w.heap.size) (show World.cell? _ ⟨w.heap.size, 3, none⟩ = some (.int .i64 xOk) by simp [go_sem, c3])
  have c4 := a0.cell (Nat.lt_succ_self w.heap.size) (show World.cell? _ ⟨w.heap.size, 4, none⟩ = some (.int .u64 xOv) by simp [go_sem, c4])
  have c5 := a0.cell (Nat.lt_succ_self w.heap.size) (show World.cell? _ ⟨w.heap.size, 5, none⟩ = some (.int .u64 xOt) by simp [go_sem, c5])
  have c6 := a0.cell (Nat.lt_succ_self w.heap.size) (show World.cell? _ ⟨w.heap.size, 6, none⟩ = some (.int .i64 xOs) by simp [go_sem, c6])
  have c7 := a0.cell (Nat.lt_succ_self w.heap.size) (show World.cell? _ ⟨w.heap.size, 7, none⟩ = some (.int .i64 xOa) by simp [go_sem, c7])
  have c8 := a0.cell (Nat.lt_succ_self w.heap.size) (show World.cell? _ ⟨w.heap.size, 8, none⟩ = some (.int .i64 xOc) by simp [go_sem, c8])
  have c9 := a0.cell (Nat.lt_succ_self w.heap.size) (show World.cell? _ ⟨w.heap.size, 9, none⟩ = some (.slice xOD xOn xOq) by simp [go_sem, c9])
  have c10 := a0.cell (Nat.lt_succ_self w.heap.size) (show World.cell? _ ⟨w.heap.size, 10, none⟩ = some (.bool false) by simp [go_sem, c10])
  have c11 := a0.cell (Nat.lt_succ_self w.heap.size) (show World.cell? _ ⟨w.heap.size, 11, none⟩ = some (.slice xP xpn xpq) by simp [go_sem, c11])
  have hown := a0.own
  have hbw := a0.chain (a := w) (by ((with_reducible repeat (first | exact hbw | exact Below.refl _ _ | apply below_alloc | refine below_set' ?_ _ | refine below_trans ?_ (grown_below _ _) | refine below_iter' ?_ _ _ | apply Below.drew)))) (Nat.le_succ _)
  clear a0
  simp only [List.cons_append, List.nil_append] at hown
  go_wp2
  obtain ⟨VA, vc, hv, hvc, hrow⟩ := hown.form
  have hv2 : v0 = .slice VA 2 vc := hv
  clear hv
  subst hv2
  have hvc2 : 2 ≤ vc := hvc
  clear hvc
  have hJ : (Lib.join (([⟨#[99, 97, 114, 114, 121]⟩, ⟨(Lib.itoa xm).toArray⟩] : List ByteArray).map (·.data.toList)) [32]).length ≤ 140737488355328 := by
   refine Nat.le_trans (join_len [32] rfl 2000000 _ ?_) (by simp)
   intro x hx
   simp only [List.map_cons, List.map_nil, List.mem_cons, List.mem_nil_iff, or_false] at hx
   rcases hx with rfl | rfl
   ·simp
   ·have := itoa_len _ m0 m1; simp; omega
  have HJ := Lib.hid hJ; clear hJ
  have HROW := Lib.hid hrow; clear hrow hown
  have HLN : Hid (([⟨#[99, 97, 114, 114, 121]⟩, ⟨(Lib.itoa xm).toArray⟩] : List ByteArray).length = 2) := Lib.hid rfl
  rw [rounds_succ]
  go_wp2_with (go_at_call 89; ((with_reducible refine (join_any _ _ _ ([⟨#[99, 97, 114, 114, 121]⟩, ⟨(Lib.itoa xm).toArray⟩] : List ByteArray) ⟨#[32]⟩ _ HLN.out hvc2 HJ.out (by omega) (HROW.out.gr (gri))).mono ?_); rintro _ _ ⟨rfl, gz, rfl⟩))
  go_ret
  exact ⟨rfl, Gr.of (by ((with_reducible repeat (first | exact hbw | exact Below.refl _ _ | apply below_alloc | refine below_set' ?_ _ | refine below_trans ?_ (grown_below _ _) | refine below_iter' ?_ _ _ | apply Below.drew))))⟩
set_option maxRecDepth 100000 in
set_option maxHeartbeats 8000000 in
theorem actText_3 (xn xm xOk xOv xOt xOs xOa xOc : Int) (xOD xP : Option Addr) (xOn xOq xpn xpq : Nat) (lx : List UInt8) (px : List Int) (w : World) [hk : Tb w] (n0 : -9223372036854775808 ≤ xn) (n1 : xn ≤ 9223372036854775807) (m0 : -9223372036854775808 ≤ xm) (m1 : xm ≤ 9223372036854775807) : Calls Tryz.prog 42 #[(Value.agg #[.int .i64 3, .int .i64 xn, .int .i64 xm, .int .i64 xOk, .int .u64 xOv, .int .u64 xOt, .int .i64 xOs, .int .i64 xOa, .int .i64 xOc, .slice xOD xOn xOq, .bool false, .slice xP xpn xpq])] w fun e w' => e = .returned (.string ⟨(Lib.join (([⟨#[116, 105, 99, 107]⟩, ⟨(Lib.itoa xn).toArray⟩] : List ByteArray).map (·.data.toList)) [32]).toArray⟩) ∧ Gr w w' := by
 have en : actPartsB 3 = ⟨#[100]⟩ := rfl
 go_enter Tryz.func42, Tryz.ntmps42
 go_upto_region 1 with fail
 go_cut [3] (fun v wx => (∃ b : Nat, v = .slice (some ⟨b, 0, none⟩) 1 1 ∧ w.heap.size + 1 ≤ b ∧ b < wx.heap.size ∧ OwnS (w.heap.size + 1) wx v [⟨#[116, 105, 99, 107]⟩]) ∧ Below w.heap.size w wx ∧ From w wx ∧ Tb wx ∧ (wx.cell? ⟨w.heap.size, 0, none⟩ = some (.int .i64 3) ∧ wx.cell? ⟨w.heap.size, 1, none⟩ = some (.int .i64 xn) ∧ wx.cell? ⟨w.heap.size, 2, none⟩ = some (.int .i64 xm) ∧ wx.cell? ⟨w.heap.size, 3, none⟩ = some (.int .i64 xOk) ∧ wx.cell? ⟨w.heap.size, 4, none⟩ = some (.int .u64 xOv) ∧ wx.cell? ⟨w.heap.size, 5, none⟩ = some (.int .u64 xOt) ∧ wx.cell? ⟨w.heap.size, 6, none⟩ = some (.int .i64 xOs) ∧ wx.cell? ⟨w.heap.size, 7, none⟩ = some (.int .i64 xOa) ∧ wx.cell? ⟨w.heap.size, 8, none⟩ = some (.int .i64 xOc) ∧ wx.cell? ⟨w.heap.size, 9, none⟩ = some (.slice xOD xOn xOq) ∧ wx.cell? ⟨w.heap.size, 10, none⟩ = some (.bool false) ∧ wx.cell? ⟨w.heap.size, 11, none⟩ = some (.slice xP xpn xpq)))
 case first =>
  go_region_with ((go_at_call 51; refine (actWords_any _).mono ?_; rintro e w' ⟨rfl, rfl⟩))
  all_goals
   go_wp2_with fail
   go_meet
   case rel =>
    refine ⟨?_, (gri : Gr w _).below, inferInstance, inferInstance, by simp [go_sem], by simp [go_sem], by simp [go_sem], by simp [go_sem], by simp [go_sem], by simp [go_sem], by simp [go_sem], by simp [go_sem], by simp [go_sem], by simp [go_sem], by simp [go_sem], by simp [go_sem]⟩
    refine ⟨_, rfl, by omega, (inferInstance : Old _ _).lt, ?_⟩
    first
     | exact OwnS.new _ _ _ (by omega)
     | exact (OwnS.new _ _ _ (by omega)).drew_
 case rest =>
  obtain ⟨⟨b0, rfl, hb0, hb1, hown⟩, hbw, hfr, htb, c0, c1, c2, c3, c4, c5, c6, c7, c8, c9, c10, c11⟩ := hcut
  have hle6 : 6 ≤ w.heap.size + 1 := Nat.le_succ_of_le hk.size
  haveI io : Old w.heap.size wc := old_of_cell c0
  haveI ib : Old b0 wc := ⟨hb1⟩
  go_wp2_with (go_at_call 52; ((with_reducible refine (actPartsB_any _ _).mono ?_); rintro _ _ ⟨rfl, g, rfl⟩))
  refine wp_loop_rounds 2 ?_
  rw [rounds_succ]
  go_wp2_with (go_at_call 87; ((with_reducible refine (itoa_any _ n0 n1 _).mono ?_)))
  rintro _ _ ⟨rfl, g0, rfl⟩
  go_wp2_with (at_builtin; refine wp_append_str rfl _ _ rfl (w.heap.size + 1) ?vv0 ([⟨#[116, 105, 99, 107]⟩] : List ByteArray) ?hs0 ?own0 _ ⟨(Lib.itoa xn).toArray⟩ rfl ?hc0 (by simp) ?hb0 ?_)
  case own0 => (with_reducible repeat (first | exact hown | refine OwnS.alloc_ ?_ _ | refine OwnS.grown_ ?_ _ | refine OwnS.iter_ ?_ _ _ _ | refine OwnS.drew_ ?_))
  case hs0 => rfl
  case hc0 => simp [go_sem]
  case hb0 => exact Nat.succ_le_of_lt (inferInstance : Old w.heap.size _).lt
  intro v0 w0 a0
  haveI : Tb w0 := a0.tb hle6
  haveI : From w w0 := a0.from_ w
  haveI : Old w.heap.size w0 := a0.old _
  haveI : IterAt w0 (grown wc g).heap.size ⟨#[100]⟩ 1 := a0.iter _ _ _ inferInstance
  have c0 := a0.cell (Nat.lt_succ_self w.heap.size) (show World.cell? _ ⟨w.heap.size, 0, none⟩ = some (.int .i64 3) by simp [go_sem, c0])
  have c1 := a0.cell (Nat.lt_succ_self w.heap.size) (show World.cell? _ ⟨w.heap.size, 1, none⟩ = some (.int .i64 xn) by simp [go_sem, c1])
  have c2 := a0.cell (Nat.lt_succ_self w.heap.size) (show World.cell? _ ⟨w.heap.size, 2, none⟩ = some (.int .i64 xm) by simp [go_sem, c2])
  have c3 := a0.cell (Nat.lt_succ_self w.heap.size) (show World.cell? _ ⟨w.heap.size, 3, none⟩ = some (.int .i64 xOk) by simp [go_sem, c3])
  have c4 := a0.cell (Nat.lt_succ_self w.heap.size) (show World.cell? _ ⟨w.heap.size, 4, none⟩ = some (.int .u64 xOv) by simp [go_sem, c4])
  have c5 := a0.cell (Nat.lt_succ_self w.heap.size) (show World.cell? _ ⟨w.heap.size, 5, none⟩ = some (.int .u64 xOt) by simp [go_sem, c5])
  have c6 := a0.cell (Nat.lt_succ_self w.heap.size) (show World.cell? _ ⟨w.heap.size, 6, none⟩ = some (.int .i64 xOs) by simp [go_sem, c6])
  have c7 := a0.cell (Nat.lt_succ_self w.heap.size) (show World.cell? _ ⟨w.heap.size, 7, none⟩ = some (.int .i64 xOa) by simp [go_sem, c7])
  have c8 := a0.cell (Nat.lt_succ_self w.heap.size) (show World.cell? _ ⟨w.heap.size, 8, none⟩ = some (.int .i64 xOc) by simp [go_sem, c8])
  have c9 := a0.cell (Nat.lt_succ_self w.heap.size) (show World.cell? _ ⟨w.heap.size, 9, none⟩ = some (.slice xOD xOn xOq) by simp [go_sem, c9])
  have c10 := a0.cell (Nat.lt_succ_self w.heap.size) (show World.cell? _ ⟨w.heap.size, 10, none⟩ = some (.bool false) by simp [go_sem, c10])
  have c11 := a0.cell (Nat.lt_succ_self w.heap.size) (show World.cell? _ ⟨w.heap.size, 11, none⟩ = some (.slice xP xpn xpq) by simp [go_sem, c11])
  have hown := a0.own
  have hbw := a0.chain (a := w) (by ((with_reducible repeat (first | exact hbw | exact Below.refl _ _ | apply below_alloc | refine below_set' ?_ _ | refine below_trans ?_ (grown_below _ _) | refine below_iter' ?_ _ _ | apply Below.drew)))) (Nat.le_succ _)
  clear a0
  simp only [List.cons_append, List.nil_append] at hown
  go_wp2
  obtain ⟨VA, vc, hv, hvc, hrow⟩ := hown.form
  have hv2 : v0 = .slice VA 2 vc := hv
  clear hv
  subst hv2
  have hvc2 : 2 ≤ vc := hvc
  clear hvc
  have hJ : (Lib.join (([⟨#[116, 105, 99, 107]⟩, ⟨(Lib.itoa xn).toArray⟩] : List ByteArray).map (·.data.toList)) [32]).length ≤ 140737488355328 := by
   refine Nat.le_trans (join_len [32] rfl 2000000 _ ?_) (by simp)
   intro x hx
   simp only [List.map_cons, List.map_nil, List.mem_cons, List.mem_nil_iff, or_false] at hx
   rcases hx with rfl | rfl
   ·simp
   ·have := itoa_len _ n0 n1; simp; omega
  have HJ := Lib.hid hJ; clear hJ
  have HROW := Lib.hid hrow; clear hrow hown
  have HLN : Hid (([⟨#[116, 105, 99, 107]⟩, ⟨(Lib.itoa xn).toArray⟩] : List ByteArray).length = 2) := Lib.hid rfl
  rw [rounds_succ]
  go_wp2_with (go_at_call 89; ((with_reducible refine (join_any _ _ _ ([⟨#[116, 105, 99, 107]⟩, ⟨(Lib.itoa xn).toArray⟩] : List ByteArray) ⟨#[32]⟩ _ HLN.out hvc2 HJ.out (by omega) (HROW.out.gr (gri))).mono ?_); rintro _ _ ⟨rfl, gz, rfl⟩))
  go_ret
  exact ⟨rfl, Gr.of (by ((with_reducible repeat (first | exact hbw | exact Below.refl _ _ | apply below_alloc | refine below_set' ?_ _ | refine below_trans ?_ (grown_below _ _) | refine below_iter' ?_ _ _ | apply Below.drew))))⟩
set_option maxRecDepth 100000 in
set_option maxHeartbeats 8000000 in
theorem actText_7 (xn xm xOk xOv xOt xOs xOa xOc : Int) (xOD xP : Option Addr) (xOn xOq xpn xpq : Nat) (lx : List UInt8) (px : List Int) (w : World) [hk : Tb w] (n0 : -9223372036854775808 ≤ xn) (n1 : xn ≤ 9223372036854775807) (m0 : -9223372036854775808 ≤ xm) (m1 : xm ≤ 9223372036854775807) : Calls Tryz.prog 42 #[(Value.agg #[.int .i64 7, .int .i64 xn, .int .i64 xm, .int .i64 xOk, .int .u64 xOv, .int .u64 xOt, .int .i64 xOs, .int .i64 xOa, .int .i64 xOc, .slice xOD xOn xOq, .bool false, .slice xP xpn xpq])] w fun e w' => e = .returned (.string ⟨(Lib.join (([⟨#[108, 101, 97, 100]⟩, ⟨(Lib.itoa xn).toArray⟩] : List ByteArray).map (·.data.toList)) [32]).toArray⟩) ∧ Gr w w' := by
 have en : actPartsB 7 = ⟨#[100]⟩ := rfl
 go_enter Tryz.func42, Tryz.ntmps42
 go_upto_region 1 with fail
 go_cut [3] (fun v wx => (∃ b : Nat, v = .slice (some ⟨b, 0, none⟩) 1 1 ∧ w.heap.size + 1 ≤ b ∧ b < wx.heap.size ∧ OwnS (w.heap.size + 1) wx v [⟨#[108, 101, 97, 100]⟩]) ∧ Below w.heap.size w wx ∧ From w wx ∧ Tb wx ∧ (wx.cell? ⟨w.heap.size, 0, none⟩ = some (.int .i64 7) ∧ wx.cell? ⟨w.heap.size, 1, none⟩ = some (.int .i64 xn) ∧ wx.cell? ⟨w.heap.size, 2, none⟩ = some (.int .i64 xm) ∧ wx.cell? ⟨w.heap.size, 3, none⟩ = some (.int .i64 xOk) ∧ wx.cell? ⟨w.heap.size, 4, none⟩ = some (.int .u64 xOv) ∧ wx.cell? ⟨w.heap.size, 5, none⟩ = some (.int .u64 xOt) ∧ wx.cell? ⟨w.heap.size, 6, none⟩ = some (.int .i64 xOs) ∧ wx.cell? ⟨w.heap.size, 7, none⟩ = some (.int .i64 xOa) ∧ wx.cell? ⟨w.heap.size, 8, none⟩ = some (.int .i64 xOc) ∧ wx.cell? ⟨w.heap.size, 9, none⟩ = some (.slice xOD xOn xOq) ∧ wx.cell? ⟨w.heap.size, 10, none⟩ = some (.bool false) ∧ wx.cell? ⟨w.heap.size, 11, none⟩ = some (.slice xP xpn xpq)))
 case first =>
  go_region_with ((go_at_call 51; refine (actWords_any _).mono ?_; rintro e w' ⟨rfl, rfl⟩))
  all_goals
   go_wp2_with fail
   go_meet
   case rel =>
    refine ⟨?_, (gri : Gr w _).below, inferInstance, inferInstance, by simp [go_sem], by simp [go_sem], by simp [go_sem], by simp [go_sem], by simp [go_sem], by simp [go_sem], by simp [go_sem], by simp [go_sem], by simp [go_sem], by simp [go_sem], by simp [go_sem], by simp [go_sem]⟩
    refine ⟨_, rfl, by omega, (inferInstance : Old _ _).lt, ?_⟩
    first
     | exact OwnS.new _ _ _ (by omega)
     | exact (OwnS.new _ _ _ (by omega)).drew_
 case rest =>
  obtain ⟨⟨b0, rfl, hb0, hb1, hown⟩, hbw, hfr, htb, c0, c1, c2, c3, c4, c5, c6, c7, c8, c9, c10, c11⟩ := hcut
  have hle6 : 6 ≤ w.heap.size + 1 := Nat.le_succ_of_le hk.size
  haveI io : Old w.heap.size wc := old_of_cell c0
  haveI ib : Old b0 wc := ⟨hb1⟩
  go_wp2_with (go_at_call 52; ((with_reducible refine (actPartsB_any _ _).mono ?_); rintro _ _ ⟨rfl, g, rfl⟩))
  refine wp_loop_rounds 2 ?_
  rw [rounds_succ]
  go_wp2_with (go_at_call 87; ((with_reducible refine (itoa_any _ n0 n1 _).mono ?_)))
  rintro _ _ ⟨rfl, g0, rfl⟩
  go_wp2_with (at_builtin; refine wp_append_str rfl _ _ rfl (w.heap.size + 1) ?vv0 ([⟨#[108, 101, 97, 100]⟩] : List ByteArray) ?hs0 ?own0 _ ⟨(Lib.itoa xn).toArray⟩ rfl ?hc0 (by simp) ?hb0 ?_)
  case own0 => (with_reducible repeat (first | exact hown | refine OwnS.alloc_ ?_ _ | refine OwnS.grown_ ?_ _ | refine OwnS.iter_ ?_ _ _ _ | refine OwnS.drew_ ?_))
  case hs0 => rfl
  case hc0 => simp [go_sem]
  case hb0 => exact Nat.succ_le_of_lt (inferInstance : Old w.heap.size _).lt
  intro v0 w0 a0
  haveI : Tb w0 := a0.tb hle6
  haveI : From w w0 := a0.from_ w
  haveI : Old w.heap.size w0 := a0.old _
  haveI : IterAt w0 (grown wc g).heap.size ⟨#[100]⟩ 1 := a0.iter _ _ _ inferInstance
  have c0 := a0.cell (Nat.lt_succ_self w.heap.size) (show World.cell? _ ⟨w.heap.size, 0, none⟩ = some (.int .i64 7) by simp [go_sem, c0])
  have c1 := a0.cell (Nat.lt_succ_self w.heap.size) (show World.cell? _ ⟨w.heap.size, 1, none⟩ = some (.int .i64 xn) by simp [go_sem, c1])
  have c2 := a0.cell (Nat.lt_succ_self w.heap.size) (show World.cell? _ ⟨w.heap.size, 2, none⟩ = some (.int .i64 xm) by simp [go_sem, c2])
  have c3 := a0.cell (Nat.lt_succ_self w.heap.size) (show World.cell? _ ⟨w.heap.size, 3, none⟩ = some (.int .i64 xOk) by simp [go_sem, c3])
  have c4 := a0.cell (Nat.lt_succ_self w.heap.size) (show World.cell? _ ⟨w.heap.size, 4, none⟩ = some (.int .u64 xOv) by simp [go_sem, c4])
  have c5 := a0.cell (Nat.lt_succ_self w.heap.size) (show World.cell? _ ⟨w.heap.size, 5, none⟩ = some (.int .u64 xOt) by simp [go_sem, c5])
  have c6 := a0.cell (Nat.lt_succ_self w.heap.size) (show World.cell? _ ⟨w.heap.size, 6, none⟩ = some (.int .i64 xOs) by simp [go_sem, c6])
  have c7 := a0.cell (Nat.lt_succ_self w.heap.size) (show World.cell? _ ⟨w.heap.size, 7, none⟩ = some (.int .i64 xOa) by simp [go_sem, c7])
  have c8 := a0.cell (Nat.lt_succ_self w.heap.size) (show World.cell? _ ⟨w.heap.size, 8, none⟩ = some (.int .i64 xOc) by simp [go_sem, c8])
  have c9 := a0.cell (Nat.lt_succ_self w.heap.size) (show World.cell? _ ⟨w.heap.size, 9, none⟩ = some (.slice xOD xOn xOq) by simp [go_sem, c9])
  have c10 := a0.cell (Nat.lt_succ_self w.heap.size) (show World.cell? _ ⟨w.heap.size, 10, none⟩ = some (.bool false) by simp [go_sem, c10])
  have c11 := a0.cell (Nat.lt_succ_self w.heap.size) (show World.cell? _ ⟨w.heap.size, 11, none⟩ = some (.slice xP xpn xpq) by simp [go_sem, c11])
  have hown := a0.own
  have hbw := a0.chain (a := w) (by ((with_reducible repeat (first | exact hbw | exact Below.refl _ _ | apply below_alloc | refine below_set' ?_ _ | refine below_trans ?_ (grown_below _ _) | refine below_iter' ?_ _ _ | apply Below.drew)))) (Nat.le_succ _)
  clear a0
  simp only [List.cons_append, List.nil_append] at hown
  go_wp2
  obtain ⟨VA, vc, hv, hvc, hrow⟩ := hown.form
  have hv2 : v0 = .slice VA 2 vc := hv
  clear hv
  subst hv2
  have hvc2 : 2 ≤ vc := hvc
  clear hvc
  have hJ : (Lib.join (([⟨#[108, 101, 97, 100]⟩, ⟨(Lib.itoa xn).toArray⟩] : List ByteArray).map (·.data.toList)) [32]).length ≤ 140737488355328 := by
   refine Nat.le_trans (join_len [32] rfl 2000000 _ ?_) (by simp)
   intro x hx
   simp only [List.map_cons, List.map_nil, List.mem_cons, List.mem_nil_iff, or_false] at hx
   rcases hx with rfl | rfl
   ·simp
   ·have := itoa_len _ n0 n1; simp; omega
  have HJ := Lib.hid hJ; clear hJ
  have HROW := Lib.hid hrow; clear hrow hown
  have HLN : Hid (([⟨#[108, 101, 97, 100]⟩, ⟨(Lib.itoa xn).toArray⟩] : List ByteArray).length = 2) := Lib.hid rfl
  rw [rounds_succ]
  go_wp2_with (go_at_call 89; ((with_reducible refine (join_any _ _ _ ([⟨#[108, 101, 97, 100]⟩, ⟨(Lib.itoa xn).toArray⟩] : List ByteArray) ⟨#[32]⟩ _ HLN.out hvc2 HJ.out (by omega) (HROW.out.gr (gri))).mono ?_); rintro _ _ ⟨rfl, gz, rfl⟩))
  go_ret
  exact ⟨rfl, Gr.of (by ((with_reducible repeat (first | exact hbw | exact Below.refl _ _ | apply below_alloc | refine below_set' ?_ _ | refine below_trans ?_ (grown_below _ _) | refine below_iter' ?_ _ _ | apply Below.drew))))⟩
set_option maxRecDepth 100000 in
set_option maxHeartbeats 8000000 in
theorem actText_7f (xn xm xOk xOv xOt xOs xOa xOc : Int) (xOD xP : Option Addr) (xOn xOq xpn xpq : Nat) (lx : List UInt8) (px : List Int) (w : World) [hk : Tb w] (n0 : -9223372036854775808 ≤ xn) (n1 : xn ≤ 9223372036854775807) (m0 : -9223372036854775808 ≤ xm) (m1 : xm ≤ 9223372036854775807) : Calls Tryz.prog 42 #[(Value.agg #[.int .i64 7, .int .i64 xn, .int .i64 xm, .int .i64 xOk, .int .u64 xOv, .int .u64 xOt, .int .i64 xOs, .int .i64 xOa, .int .i64 xOc, .slice xOD xOn xOq, .bool true, .slice xP xpn xpq])] w fun e w' => e = .returned (.string ⟨(Lib.join (([⟨#[102, 111, 114, 99, 101]⟩, ⟨(Lib.itoa xn).toArray⟩] : List ByteArray).map (·.data.toList)) [32]).toArray⟩) ∧ Gr w w' := by
 have en : actPartsB 7 = ⟨#[100]⟩ := rfl
 go_enter Tryz.func42, Tryz.ntmps42
 go_upto_region 1 with fail
 go_cut [3] (fun v wx => (∃ b : Nat, v = .slice (some ⟨b, 0, none⟩) 1 1 ∧ w.heap.size + 1 ≤ b ∧ b < wx.heap.size ∧ OwnS (w.heap.size + 1) wx v [⟨#[108, 101, 97, 100]⟩]) ∧ Below w.heap.size w wx ∧ From w wx ∧ Tb wx ∧ (wx.cell? ⟨w.heap.size, 0, none⟩ = some (.int .i64 7) ∧ wx.cell? ⟨w.heap.size, 1, none⟩ = some (.int .i64 xn) ∧ wx.cell? ⟨w.heap.size, 2, none⟩ = some (.int .i64 xm) ∧ wx.cell? ⟨w.heap.size, 3, none⟩ = some (.int .i64 xOk) ∧ wx.cell? ⟨w.heap.size, 4, none⟩ = some (.int .u64 xOv) ∧ wx.cell? ⟨w.heap.size, 5, none⟩ = some (.int .u64 xOt) ∧ wx.cell? ⟨w.heap.size, 6, none⟩ = some (.int .i64 xOs) ∧ wx.cell? ⟨w.heap.size, 7, none⟩ = some (.int .i64 xOa) ∧ wx.cell? ⟨w.heap.size, 8, none⟩ = some (.int .i64 xOc) ∧ wx.cell? ⟨w.heap.size, 9, none⟩ = some (.slice xOD xOn xOq) ∧ wx.cell? ⟨w.heap.size, 10, none⟩ = some (.bool true) ∧ wx.cell? ⟨w.heap.size, 11, none⟩ = some (.slice xP xpn xpq)))
 case first =>
  go_region_with ((go_at_call 51; refine (actWords_any _).mono ?_; rintro e w' ⟨rfl, rfl⟩))
  all_goals
   go_wp2_with fail
   go_meet
   case rel =>
    refine ⟨?_, (gri : Gr w _).below, inferInstance, inferInstance, by simp [go_sem], by simp [go_sem], by simp [go_sem], by simp [go_sem], by simp [go_sem], by simp [go_sem], by simp [go_sem], by simp [go_sem], by simp [go_sem], by simp [go_sem], by simp [go_sem], by simp [go_sem]⟩
    refine ⟨_, rfl, by omega, (inferInstance : Old _ _).lt, ?_⟩
    first
     | exact OwnS.new _ _ _ (by omega)
     | exact (OwnS.new _ _ _ (by omega)).drew_
 case rest =>
  obtain ⟨⟨b0, rfl, hb0, hb1, hown⟩, hbw, hfr, htb, c0, c1, c2, c3, c4, c5, c6, c7, c8, c9, c10, c11⟩ := hcut
  have hle6 : 6 ≤ w.heap.size + 1 := Nat.le_succ_of_le hk.size
  haveI io : Old w.heap.size wc := old_of_cell c0
  haveI ib : Old b0 wc := ⟨hb1⟩
  have hcb : wc.cell? ⟨b0, 0, none⟩ = some (.string ⟨#[108, 101, 97, 100]⟩) := by have := World.ownsRow.cells hown (g := b0) rfl 0 _ rfl; simpa [Addr.add] using this
  have hfb : wc.frozen? ⟨b0, 0, none⟩ = false := World.ownsRow.frozenAt hown 0
  have hown := OwnS.first (z := ⟨#[102, 111, 114, 99, 101]⟩) hown
  have hne : (w.heap.size = b0) = False := by simp; omega
  have hen : (b0 = w.heap.size) = False := by simp; omega
  haveI pb : Past w b0 := ⟨by omega⟩
  haveI fb : Far b0 := ⟨by omega⟩
  go_wp2_with (go_at_call 52; ((with_reducible refine (actPartsB_any _ _).mono ?_); rintro _ _ ⟨rfl, g, rfl⟩))
  refine wp_loop_rounds 2 ?_
  rw [rounds_succ]
  go_wp2_with (go_at_call 87; ((with_reducible refine (itoa_any _ n0 n1 _).mono ?_)))
  rintro _ _ ⟨rfl, g0, rfl⟩
  go_wp2_with (at_builtin; refine wp_append_str rfl _ _ rfl (w.heap.size + 1) ?vv0 ([⟨#[102, 111, 114, 99, 101]⟩] : List ByteArray) ?hs0 ?own0 _ ⟨(Lib.itoa xn).toArray⟩ rfl ?hc0 (by simp) ?hb0 ?_)
  case own0 => (with_reducible repeat (first | exact hown | refine OwnS.alloc_ ?_ _ | refine OwnS.grown_ ?_ _ | refine OwnS.iter_ ?_ _ _ _ | refine OwnS.drew_ ?_))
  case hs0 => rfl
  case hc0 => simp [go_sem]
  case hb0 => exact Nat.succ_le_of_lt (inferInstance : Old w.heap.size _).lt
  intro v0 w0 a0
  haveI : Tb w0 := a0.tb hle6
  haveI : From w w0 := a0.from_ w
  haveI : Old w.heap.size w0 := a0.old _
  haveI : IterAt w0 (grown (wc.setCell ⟨b0, 0, none⟩ (.string ⟨#[102, 111, 114, 99, 101]⟩)) g).heap.size ⟨#[100]⟩ 1 := a0.iter _ _ _ inferInstance
  have c0 := a0.cell (Nat.lt_succ_self w.heap.size) (show World.cell? _ ⟨w.heap.size, 0, none⟩ = some (.int .i64 7) by simp [go_sem, c0])
  have c1 := a0.cell (Nat.lt_succ_self w.heap.size) (show World.cell? _ ⟨w.heap.size, 1, none⟩ = some (.int .i64 xn) by simp [go_sem, c1])
  have c2 := a0.cell (Nat.lt_succ_self w.heap.size) (show World.cell? _ ⟨w.heap.size, 2, none⟩ = some (.int .i64 xm) by simp [go_sem, c2])
  have c3 := a0.cell (Nat.lt_succ_self w.heap.size) (show World.cell? _ ⟨w.heap.size, 3, none⟩ = some (.int .i64 xOk) by simp [go_sem, c3])
  have c4 := a0.cell (Nat.lt_succ_self w.heap.size) (show World.cell? _ ⟨w.heap.size, 4, none⟩ = some (.int .u64 xOv) by simp [go_sem, c4])
  have c5 := a0.cell (Nat.lt_succ_self w.heap.size) (show World.cell? _ ⟨w.heap.size, 5, none⟩ = some (.int .u64 xOt) by simp [go_sem, c5])
  have c6 := a0.cell (Nat.lt_succ_self w.heap.size) (show World.cell? _ ⟨w.heap.size, 6, none⟩ = some (.int .i64 xOs) by simp [go_sem, c6])
  have c7 := a0.cell (Nat.lt_succ_self w.heap.size) (show World.cell? _ ⟨w.heap.size, 7, none⟩ = some (.int .i64 xOa) by simp [go_sem, c7])
  have c8 := a0.cell (Nat.lt_succ_self w.heap.size) (show World.cell? _ ⟨w.heap.size, 8, none⟩ = some (.int .i64 xOc) by simp [go_sem, c8])
  have c9 := a0.cell (Nat.lt_succ_self w.heap.size) (show World.cell? _ ⟨w.heap.size, 9, none⟩ = some (.slice xOD xOn xOq) by simp [go_sem, c9])
  have c10 := a0.cell (Nat.lt_succ_self w.heap.size) (show World.cell? _ ⟨w.heap.size, 10, none⟩ = some (.bool true) by simp [go_sem, c10])
  have c11 := a0.cell (Nat.lt_succ_self w.heap.size) (show World.cell? _ ⟨w.heap.size, 11, none⟩ = some (.slice xP xpn xpq) by simp [go_sem, c11])
  have hown := a0.own
  have hbw := a0.chain (a := w) (by ((with_reducible repeat (first | exact hbw | exact Below.refl _ _ | apply below_alloc | refine below_set' ?_ _ | refine below_trans ?_ (grown_below _ _) | refine below_iter' ?_ _ _ | apply Below.drew)))) (Nat.le_succ _)
  clear a0
  simp only [List.cons_append, List.nil_append] at hown
  go_wp2
  obtain ⟨VA, vc, hv, hvc, hrow⟩ := hown.form
  have hv2 : v0 = .slice VA 2 vc := hv
  clear hv
  subst hv2
  have hvc2 : 2 ≤ vc := hvc
  clear hvc
  have hJ : (Lib.join (([⟨#[102, 111, 114, 99, 101]⟩, ⟨(Lib.itoa xn).toArray⟩] : List ByteArray).map (·.data.toList)) [32]).length ≤ 140737488355328 := by
   refine Nat.le_trans (join_len [32] rfl 2000000 _ ?_) (by simp)
   intro x hx
   simp only [List.map_cons, List.map_nil, List.mem_cons, List.mem_nil_iff, or_false] at hx
   rcases hx with rfl | rfl
   ·simp
   ·have := itoa_len _ n0 n1; simp; omega
  have HJ := Lib.hid hJ; clear hJ
  have HROW := Lib.hid hrow; clear hrow hown
  have HLN : Hid (([⟨#[102, 111, 114, 99, 101]⟩, ⟨(Lib.itoa xn).toArray⟩] : List ByteArray).length = 2) := Lib.hid rfl
  rw [rounds_succ]
  go_wp2_with (go_at_call 89; ((with_reducible refine (join_any _ _ _ ([⟨#[102, 111, 114, 99, 101]⟩, ⟨(Lib.itoa xn).toArray⟩] : List ByteArray) ⟨#[32]⟩ _ HLN.out hvc2 HJ.out (by omega) (HROW.out.gr (gri))).mono ?_); rintro _ _ ⟨rfl, gz, rfl⟩))
  go_ret
  exact ⟨rfl, Gr.of (by ((with_reducible repeat (first | exact hbw | exact Below.refl _ _ | apply below_alloc | refine below_set' ?_ _ | refine below_trans ?_ (grown_below _ _) | refine below_iter' ?_ _ _ | apply Below.drew))))⟩
end Go.Proofs.YtgjdgafoidppaaaGreatDoor
