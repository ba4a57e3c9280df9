/- wire.low, wire.width: a number's four low bytes behind a slice of bytes. Conditions: the slice is the call's own. strings.ContainsRune("1248", .. -/
import Derived.Test.YtddckdhnolmjoaaGreatW02
import Derived.Test.YtddckdhnolmjoaaGreatW01
import Derived.Test.YtddckdhnolmjoaaGreatW13
import Derived.Test.YtddckdhnolmjoaaGreatW10
import Derived.Test.YtddckdhnolmjoaaGreatW05
set_option linter.unusedVariables false
set_option linter.unusedSimpArgs false
set_option linter.unnecessarySimpa false
set_option maxRecDepth 100000
set_option maxHeartbeats 8000000
namespace Go.Proofs.YtddckdhnolmjoaaGreat
open Go.RowKit
theorem width_4 (w : World) : Calls Tryz.prog 89 #[.int .i32 52] w fun e w' => e = .returned (.int .i64 4) ∧ Gr w w' := by
 go_enter Tryz.func89, Tryz.ntmps89
 go_wp2
 go_ret
 exact ⟨rfl, gri⟩
structure LowP (base : Nat) (W : World) (v' : Value) (ys : List UInt8) (W' : World) : Prop where
 own : OwnN bE base W' v' ys
 below : Below base W W'
 size : W.heap.size ≤ W'.heap.size
 block : ∀ k, k < W.heap.size → (∀ cs f, W.heap[k]? ≠ some (.cells cs bE.E f)) → W'.heap[k]? = W.heap[k]?
theorem LowP.start {base : Nat} {W : World} {v : Value} {xs : List UInt8} (h : OwnN bE base W v xs) : LowP base W v xs W := ⟨h, Below.refl _ _, Nat.le_refl _, fun _ _ _ => rfl⟩
theorem LowP.app {base : Nat} {W W1 W2 W3 : World} {v v' : Value} {ys zs : List UInt8} (h : LowP base W v ys W1) (g : Gr W1 W2) (hb : base ≤ W.heap.size) (a : AppN bE base W2 v ys zs v' W3) : LowP base W v' (ys ++ zs) W3 := by
 have g1 := g.below.size
 have s1 := h.size
 refine ⟨a.own, (h.below.trans (g.below.mono (by omega))).trans a.below, by have := a.size; omega, fun k hk hc => ?_⟩
 have e1 := h.block k hk hc
 have e2 : W2.heap[k]? = W.heap[k]? := (g.below.block k (by omega)).trans e1
 exact (a.block k (by omega) (fun cs f => by rw [e2]; exact hc cs f)).trans e2
theorem LowP.gr {base : Nat} {W W1 W2 : World} {v : Value} {ys : List UInt8} (h : LowP base W v ys W1) (g : Gr W1 W2) (hb : base ≤ W.heap.size) : LowP base W v ys W2 := by
 have g1 := g.below.size
 have s1 := h.size
 exact ⟨h.own.gr g, h.below.trans (g.below.mono (by omega)), by omega, fun k hk hc => (g.below.block k (by omega)).trans (h.block k hk hc)⟩
def leB (n : Int) (k : Nat) : List UInt8 := (List.range k).map fun j => UInt8.ofNat (n / 256 ^ j % 256).toNat
theorem leB_succ (n : Int) (k : Nat) : leB n (k + 1) = leB n k ++ [UInt8.ofNat (n / 256 ^ k % 256).toNat] := by simp [leB, List.range_succ]
theorem low_4 (base : Nat) (v : Value) (xs : List UInt8) (n : Int) (h0 : 0 ≤ n) (hn : n < 4294967296) (w : World) (h : OwnN bE base w v xs) (hb : base ≤ w.heap.size) (hl : xs.length ≤ 10000000) :
  Calls Tryz.prog 88 #[v, .int .u64 n, .int .i64 4] w fun e w' => ∃ v', e = .returned (.tuple #[v', .bool true]) ∧ LowP base w v' (xs ++ leB n 4) w' := by
 have H := hd_ h
 have HB := hd_ hb
 clear h hb
 go_enter Tryz.func88, Tryz.ntmps88
 go_wp2
 go_loopw [0, 1, 9] (fun v0 v1 v9 wr => ∃ k : Nat, k ≤ 4 ∧ v1 = .int .u64 (n / 256 ^ k) ∧ v9 = .int .i64 (k : Int) ∧ LowP base w v0 (xs ++ leB n k) wr) (fun _ _ v9 _ => 4 - (intOf v9).toNat)
 case atStart => exact ⟨0, by omega, by simp, rfl, by simpa [leB] using LowP.start H.out⟩
 case round =>
  obtain ⟨k, hk, rfl, rfl, hp⟩ := hrel
  have HP := hd_ hp
  clear hp
  have hm0 : 0 ≤ n / 256 ^ k := Int.ediv_nonneg h0 (Int.le_of_lt (Int.pow_pos (by omega)))
  obtain ⟨m, hm⟩ : ∃ m, n / 256 ^ k = m := ⟨_, rfl⟩
  rw [hm] at hm0 ⊢
  have hmn : m < 4294967296 := by rw [← hm]; exact Int.lt_of_le_of_lt (Int.ediv_le_self _ h0) hn
  by_cases hlt : k < 4
  ·obtain ⟨y, hy⟩ : ∃ y : UInt8, UInt8.ofNat (m % 256).toNat = y := ⟨_, rfl⟩
   have hcv : IntKind.u8.wrap m = (y.toNat : Int) := by
    rw [← hy]
    simp [IntKind.wrap, IntKind.bits, IntKind.signed]
    omega
   have HE := hd_ (show leB n (k + 1) = leB n k ++ [y] by rw [leB_succ, hm, hy])
   have HL : Hid ((xs ++ leB n k).length + 1 ≤ 100000000) := hd_ (by simp [leB]; omega)
   have HM := hd_ hm
   have HH := hd_ hy
   clear hy hm
   have hsz := HP.out.size
   haveI : From w wr := ⟨hsz⟩
   go_wp2_with (first | (at_builtin; refine wp_append_n bIs rfl _ _ rfl rfl (HP.out.own.gr gri) _ 0 [y] 1 1 rfl rfl (fun _ _ => trivial) (CellsN.block _ inferInstance rfl) (by have := HL.out; simp at this ⊢; omega) (by have := HB.out; simp; omega) (by simp) ?_; intro v1 W1 h1; have H1 := hd_ (HP.out.app gri HB.out h1); clear h1))
   refine ⟨⟨k + 1, hlt, ?_, by go_num, ?_⟩, by simp [intOf]; omega⟩
   ·rw [← HM.out, Int.pow_succ, Int.ediv_ediv_of_nonneg (Int.le_of_lt (Int.pow_pos (by omega)))]
   ·rw [HE.out, ← List.append_assoc]; exact H1.out
  ·obtain rfl : k = 4 := by omega
   have hm4 : m = 0 := by rw [← hm]; omega
   subst hm4
   go_wp2
   refine bodyPost_ret (v := .tuple #[_, .bool true]) (by simp [results, go_sem]) rfl ⟨_, rfl, HP.out⟩
theorem ixbyte_4 (w : World) : Calls Tryz.prog 138 #[strVal "1248", .int .u8 52] w fun e w' => e = .returned (.int .i64 2) ∧ Gr w w' := by
 have hr : (Extern.BytealgIndexByte.indexByte #[strVal "1248", .int .u8 52]).run Tryz.prog w = .ok (.int .i64 2) w := by kernel_rfl
 have hc := run_callFunc_extern Tryz.func158 (by kernel_rfl) (by kernel_rfl) (by kernel_rfl) (e := Extern.BytealgIndexByte.indexByte) (by kernel_rfl) #[strVal "1248", .int .u8 52] w
 rw [hr] at hc
 simp only [Result.andThen] at hc
 go_enter Tryz.func138, Tryz.ntmps138
 go_wp2
 go_ret
 exact ⟨rfl, gri⟩
theorem ixrune_4 (w : World) : Calls Tryz.prog 112 #[strVal "1248", .int .i32 52] w fun e w' => e = .returned (.int .i64 2) ∧ Gr w w' := by
 go_enter Tryz.func112, Tryz.ntmps112
 go_wp2_with (first | (go_at_call 138; ((with_reducible refine (ixbyte_4 _).mono ?_); rintro _ _ ⟨rfl, ⟨g1, rfl⟩⟩)))
 go_ret
 exact ⟨rfl, gri⟩
theorem contains_4 (w : World) : Calls Tryz.prog 87 #[strVal "1248", .int .i32 52] w fun e w' => e = .returned (.bool true) ∧ Gr w w' := by
 go_enter Tryz.func87, Tryz.ntmps87
 go_wp2_with (first | (go_at_call 112; ((with_reducible refine (ixrune_4 _).mono ?_); rintro _ _ ⟨rfl, ⟨g1, rfl⟩⟩)))
 go_ret
 exact ⟨rfl, gri⟩
theorem LowP.back {base : Nat} {w W W' : World} {v : Value} {ys : List UInt8} (h : LowP base W v ys W') (g : Gr w W) (hb : base ≤ w.heap.size) : LowP base w v ys W' := by
 have g1 := g.below.size
 have s1 := h.size
 refine ⟨h.own, (g.below.mono hb).trans h.below, by omega, fun k hk hc => ?_⟩
 have e1 := g.below.block k hk
 exact (h.block k (by omega) (fun cs f => by rw [e1]; exact hc cs f)).trans e1
theorem contains_4b (w : World) : Calls Tryz.prog 87 #[Value.string { data := #[49, 50, 52, 56] }, .int .i32 52] w fun e w' => e = .returned (.bool true) ∧ Gr w w' := by
 have e : strVal "1248" = Value.string { data := #[49, 50, 52, 56] } := by kernel_rfl
 have h := contains_4 w
 rw [e] at h
 exact h
@[go_sem] theorem taU (n : Int) (w : World) : (Instr.typeAssert (.iface 24 (.int .u64 n)) 20 24 true).run Tryz.prog w = .ok (.tuple #[.int .u64 n, .bool true]) w := by kernel_rfl
theorem lay_4 (base : Nat) (v : Value) (xs : List UInt8) (n : Int) (h0 : 0 ≤ n) (hn : n < 4294967296) (w : World) (h : OwnN bE base w v xs) (hb : base ≤ w.heap.size) (hl : xs.length ≤ 10000000) :
  Calls Tryz.prog 58 #[v, .int .i32 52, .iface 24 (.int .u64 n)] w fun e w' => ∃ v', e = .returned (.tuple #[v', .bool true]) ∧ LowP base w v' (xs ++ leB n 4) w' := by
 have H := hd_ h
 have HB := hd_ hb
 have HBp := hd_ (fun W (g : Gr w W) => Nat.le_trans hb g.below.size)
 clear h hb
 go_enter Tryz.func58, Tryz.ntmps58
 go_wp2_with (first | (go_at_call 87; ((with_reducible refine (contains_4b _).mono ?_); rintro _ _ ⟨rfl, ⟨g1, rfl⟩⟩)) | (go_at_call 89; ((with_reducible refine (width_4 _).mono ?_); rintro _ _ ⟨rfl, ⟨g2, rfl⟩⟩)) | (go_at_call 88; ((with_reducible refine (low_4 base _ xs n h0 hn _ (H.out.gr gri) (HBp.out _ gri) hl).mono ?_); rintro _ _ ⟨v', rfl, hp⟩; have HP := hd_ hp; clear hp)))
 exact bodyPost_ret (v := .tuple #[v', .bool true]) (by simp [results, go_sem]) rfl ⟨_, rfl, HP.out.back gri HB.out⟩
@[go_sem] theorem taB_u (cs : Array Value) (w : World) : (Instr.typeAssert (.iface 66 (.agg cs)) 20 24 true).run Tryz.prog w = .ok (.tuple #[.int .u64 0, .bool false]) w := by kernel_rfl
@[go_sem] theorem taB_b (cs : Array Value) (w : World) : (Instr.typeAssert (.iface 66 (.agg cs)) 20 4 true).run Tryz.prog w = .ok (.tuple #[.bool false, .bool false]) w := by kernel_rfl
@[go_sem] theorem taB_s (cs : Array Value) (w : World) : (Instr.typeAssert (.iface 66 (.agg cs)) 20 25 true).run Tryz.prog w = .ok (.tuple #[.slice none 0 0, .bool false]) w := by kernel_rfl
@[go_sem] theorem taB_k (cs : Array Value) (w : World) : (Instr.typeAssert (.iface 66 (.agg cs)) 20 66 true).run Tryz.prog w = .ok (.tuple #[.agg cs, .bool true]) w := by kernel_rfl
theorem lay_h (base : Nat) (v : Value) (xs : List UInt8) (B : Byt) (hBl : B.length = 256) (w : World) (h : OwnN bE base w v xs) (hb : base ≤ w.heap.size) (hl : xs.length ≤ 10000000) :
  Calls Tryz.prog 58 #[v, .int .i32 35, .iface 66 (.agg (bkC B))] w fun e w' => ∃ v', e = .returned (.tuple #[v', .bool true]) ∧ LowP base w v' (xs ++ B) w' := by
 have H := hd_ h
 have HB := hd_ hb
 have HBp := hd_ (fun W (g : Gr w W) => Nat.le_trans hb g.below.size)
 clear h hb
 go_enter Tryz.func58, Tryz.ntmps58
 have EZ := hd_ zC_bk
 haveI := bkC_row hBl
 have HLn : Hid (xs.length + B.length ≤ 100000000) := hd_ (by omega)
 have HBL := hd_ hBl
 have HCL := hd_ (fun (b : Nat) (W : World) (hW : BlockAt W b (bkC B) 66) => cellsB (xs := B) (W := W) (b := b) (p := 0) (fun j x hj => by rw [Nat.zero_add, bc j hW]; simp [bkC, hj]))
 go_wp2_with (first | (refine wpStoreB rfl _ _ rfl _ _ _ rfl rfl inferInstance inferInstance inferInstance ?_) | (at_builtin; refine wp_append_n bIs rfl _ _ rfl rfl (H.out.gr gri) _ 0 B 256 256 HBL.out rfl (fun _ _ => trivial) (HCL.out _ _ inferInstance) (by have := HLn.out; omega) (HBp.out _ gri) (by rw [HBL.out]; decide) ?_; intro v1 W1 h1; have H1 := hd_ ((LowP.start H.out).app gri HB.out h1); clear h1))
 exact bodyPost_ret (v := .tuple #[_, .bool true]) (by simp [results, go_sem]) rfl ⟨_, rfl, H1.out⟩
inductive It
 | num (n : Int)
 | blk (B : Byt)
def It.ok : It → Prop
 | .num n => 0 ≤ n ∧ n < 4294967296
 | .blk B => B.length = 256
def It.letter : It → UInt8
 | .num _ => 52
 | .blk _ => 35
def It.bytes : It → List UInt8
 | .num n => leB n 4
 | .blk B => B
def It.val : It → Value
 | .num n => .iface 24 (.int .u64 n)
 | .blk B => .iface 66 (.agg (bkC B))
def anE : EK It := ⟨fun x => [x.val], 1, 20, 59, 16, .nilIface, It.ok⟩
theorem anIs : anE.Is where
 len := fun _ _ => rfl
 one := fun x _ v hv => by
  simp only [anE, List.mem_cons, List.mem_nil_iff, or_false] at hv
  subst hv
  cases x <;> rfl
 pos := by decide
 hT := Tryz.underlying59
 hE := by kernel_rfl
 hz := rfl
 hb := by decide
theorem lay_any (base : Nat) (v : Value) (xs : List UInt8) (x : It) (hx : x.ok) (w : World) (h : OwnN bE base w v xs) (hb : base ≤ w.heap.size) (hl : xs.length ≤ 10000000) :
  Calls Tryz.prog 58 #[v, .int .i32 (x.letter.toNat : Int), x.val] w fun e w' => ∃ v', e = .returned (.tuple #[v', .bool true]) ∧ LowP base w v' (xs ++ x.bytes) w' := by
 cases x with
 | num n => exact lay_4 base v xs n hx.1 hx.2 w h hb hl
 | blk B => exact lay_h base v xs B hx w h hb hl
theorem OwnN.iterAt {α : Type} {e : EK α} {base : Nat} {W : World} {v : Value} {xs : List α} (h : OwnN e base W v xs) (k : Nat) (s : ByteArray) (pos p' : Nat) [hi : IterAt W k s pos] : OwnN e base (W.iterAt k s p') v xs := h.keep fun q hq => by
 have hq2 := h.own.2
 rcases hq2 with ⟨rfl, _⟩ | ⟨g, cap, cur, rfl, _, hh, _⟩
 ·cases hq
 ·have : q = g := by simpa [Value.ownBlock] using hq.symm
  subst this
  refine Lib.iterAt_other W k q s p' fun e => ?_
  subst e
  rw [hi.eq] at hh
  cases hh
theorem flat_bytes : ∀ (l : List It), (∀ x ∈ l, x.ok) → (l.flatMap It.bytes).length ≤ 256 * l.length
 | [], _ => by simp
 | x :: l, h => by
  have h1 := flat_bytes l fun y hy => h y (List.mem_cons_of_mem _ hy)
  have h2 : x.bytes.length ≤ 256 := by
   have := h x mcs
   cases x with
   | num n => simp [It.bytes, leB]
   | blk B => exact Nat.le_of_eq this
  rw [List.flatMap_cons, List.length_append, List.length_cons]
  omega
theorem row_tail {W : World} {b p c m : Nat} {x : It} {xs : List It} (hb : b < W.heap.size) (hok : ∀ y ∈ xs, y.ok) (h : CellsN anE W b p (x :: xs)) (hm : xs.length = m) (hc : m + 1 ≤ c) : RowN anE W (if c = 1 then some ⟨b, p, none⟩ else some ⟨b, p + 1, none⟩) xs := by
 by_cases h1 : c = 1
 ·have : xs = [] := List.length_eq_zero_iff.1 (by omega)
  subst this
  exact RowN.nil
 ·rw [if_neg h1]
  refine ⟨hok, fun _ => ⟨b, p + 1, rfl, hb, fun j y hj i u hu => ?_⟩⟩
  have := h (j + 1) y (by simpa using hj) i u hu
  have e : p + 1 + j * anE.k + i = p + (j + 1) * anE.k + i := by
   show p + 1 + j * 1 + i = p + (j + 1) * 1 + i
   omega
  rw [e]
  exact this
theorem own_empty (base : Nat) (W : World) (g : Nat) (hg : base ≤ g) (hb : BlockAt W g #[] 5) : OwnN bE base W (.slice (some ⟨g, 0, none⟩) 0 0) [] :=
 ⟨by simp, by simp, .inr ⟨g, 0, #[], rfl, hg, hb.eq, Nat.le_refl _, by unfold maxLen; omega, rfl, rfl⟩⟩
def sliceLen : Value → Nat
 | .slice _ m _ => m
 | _ => 0
theorem pack_any (l : List It) (hok : ∀ x ∈ l, x.ok) (hn : l.length ≤ 30000) (A : Option Addr) (c : Nat) (hcl : l.length ≤ c) (w : World) (hr : RowN anE w A l) :
  Calls Tryz.prog 22 #[.string ⟨(l.map It.letter).toArray⟩, .slice A l.length c] w fun e w' => ∃ v, e = .returned (.tuple #[v, .int .i64 0]) ∧ OwnN bE w.heap.size w' v (l.flatMap It.bytes) ∧ Gr w w' := by
 have HR := hd_ hr
 clear hr
 go_enter Tryz.func22, Tryz.ntmps22
 obtain ⟨S, hS⟩ : ∃ S : ByteArray, ⟨(l.map It.letter).toArray⟩ = S := ⟨_, rfl⟩
 have hSz : S.size = l.length := by rw [← hS]; simp [ByteArray.size]
 have hdec : ∀ (k : Nat) x, l[k]? = some x → Utf8.decode S k = (x.letter.toNat, 1) := fun k x hx => by
  have hk : k < S.size := by rw [hSz]; exact (List.getElem?_eq_some_iff.1 hx).1
  have he : S[k]'hk = x.letter := by
   subst hS
   obtain ⟨h1, rfl⟩ := List.getElem?_eq_some_iff.1 hx
   simp [ByteArray.getElem_eq_getElem_data]
  have := decode_ascii S k hk (by rw [he]; cases x <;> (simp only [It.letter]; decide))
  rw [he] at this
  exact this
 rw [hS]
 clear hS
 go_wp2
 go_loopw [6, 7] (fun v6 v7 wr => ∃ k m c' A', l.length = k + m ∧ m ≤ c' ∧ v7 = .slice A' m c' ∧ RowN anE w A' (l.drop k) ∧ OwnN bE w.heap.size wr v6 ((l.take k).flatMap It.bytes) ∧ IterAt wr (w.heap.size + 1) S k ∧ Gr w wr ∧ w.heap.size + 2 ≤ wr.heap.size) (fun _ v7 _ => sliceLen v7)
 case atStart => exact ⟨0, l.length, c, A, by omega, hcl, rfl, HR.out, own_empty _ _ w.heap.size (Nat.le_refl _) inferInstance, inferInstance, gri, by simp⟩
 case round =>
  obtain ⟨k, m, c', A', hkm, hmc, rfl, hrw, ho, hit, hg, hsz⟩ := hrel
  haveI := grc_of hg
  haveI := from_of hg
  haveI := hit
  haveI := hit.old
  have HG := hd_ hg
  have HO := hd_ ho
  clear hg ho
  by_cases hm : m = 0
  ·subst hm
   have hlt : ¬ k < S.size := by omega
   have HT := hd_ (show l.take k = l from List.take_of_length_le (by omega))
   go_wp2
   exact bodyPost_ret (v := .tuple #[u6, .int .i64 0]) (by simp [results, go_sem]) rfl ⟨_, rfl, by have := HO.out; rw [HT.out] at this; exact this, HG.out⟩
  ·obtain ⟨m, rfl⟩ : ∃ m', m = m' + 1 := ⟨m - 1, by omega⟩
   obtain ⟨x, hx⟩ := Option.isSome_iff_exists.1 (show (l[k]?).isSome by simp; omega)
   have hlt : k < S.size := by omega
   have hd := hdec k x hx
   have hdr : l.drop k = x :: l.drop (k + 1) := by
    obtain ⟨h1, rfl⟩ := List.getElem?_eq_some_iff.1 hx
    exact List.drop_eq_getElem_cons h1
   obtain ⟨b, p, rfl, hb, hcell⟩ := hrw.at_ (by rw [hdr]; exact List.cons_ne_nil _ _)
   haveI : Old b w := ⟨hb⟩
   have c0 : w.cell? ⟨b, p, none⟩ = some x.val := by
    have := hcell 0 x (by rw [hdr]; rfl) 0 _ rfl
    simpa using this
   have c1 : wr.cell? ⟨b, p, none⟩ = some x.val := (HG.out.below.cell (p := ⟨b, p, none⟩) hb).trans c0
   have HX := hd_ (hok x (List.mem_of_getElem? hx))
   have HT := hd_ (row_tail (c := c') (m := m) hb (fun y hy => hok y (List.mem_of_mem_drop hy)) (hdr ▸ hcell) (by rw [List.length_drop]; omega) hmc)
   have HF := hd_ (show (l.take (k + 1)).flatMap It.bytes = (l.take k).flatMap It.bytes ++ x.bytes by rw [List.take_add_one, hx, List.flatMap_append]; simp)
   have HKM := hd_ hkm
   have HLn : Hid (((l.take k).flatMap It.bytes).length ≤ 10000000) := hd_ (by
    have := flat_bytes (l.take k) fun y hy => hok y (List.mem_of_mem_take hy)
    have := List.length_take_le k l
    omega)
   have HSZ := hd_ hsz
   clear c0 hdr hx hok hdec hrw hcell hSz hkm
   go_wp2_with (first | (go_at_call 58; ((with_reducible refine (lay_any w.heap.size _ _ x HX.out _ (HO.out.iterAt _ _ _ _) (by have := HSZ.out; simp [World.iterAt]; omega) HLn.out).mono ?_); rintro _ W2 ⟨v2, rfl, hp⟩; have HP := hd_ hp; clear hp)))
   have hit2 : IterAt W2 (w.heap.size + 1) S (k + 1) := by
    have hi : IterAt (wr.iterAt (w.heap.size + 1) S (k + 1)) (w.heap.size + 1) S (k + 1) := inferInstance
    exact ⟨(HP.out.block _ hi.lt (fun cs f e => by rw [hi.eq] at e; cases e)).trans hi.eq⟩
   have hg2 : Gr w W2 := Gr.of ((Gr.below (gri : Gr w (wr.iterAt (w.heap.size + 1) S (k + 1)))).trans HP.out.below)
   have HI := hd_ hit2
   have HG2 := hd_ hg2
   clear hit2 hg2 hit hd c1
   refine wp_region_grow (by kernel_rfl) (by kernel_rfl) ?_
   repeat (go_big_quiet_step (fail))
   refine wpQuiet_nil ?_
   intro g3
   haveI := grc_of HG2.out
   haveI := from_of HG2.out
   haveI := HI.out
   have hT := HT.out
   clear HT
   generalize (if c' = 1 then some (⟨b, p, none⟩ : Addr) else some ⟨b, p + 1, none⟩) = A2 at hT ⊢
   have HT := hd_ hT
   clear hT
   go_wp2
   refine ⟨?_, by simp [sliceLen]⟩
   ·refine ⟨k + 1, m, c' - 1, A2, ?r1, ?r2, rfl, HT.out, ?r3, inferInstance, gri, ?r4⟩
    case r1 => have := HKM.out; omega
    case r2 => omega
    case r3 => rw [HF.out]; exact HP.out.own.gr gri
    case r4 => have := HP.out.size; have := HSZ.out; have := (grown_below W2 g3).size; simp [World.iterAt] at *; omega
theorem OwnN.keepY {α β : Type} {e : EK α} {e2 : EK β} {base b2 : Nat} {W W' : World} {v u u' : Value} {xs : List α} {ys zs : List β} (h : OwnN e base W v xs) (k : AppN e2 b2 W u ys zs u' W') (hne : e.E ≠ e2.E) : OwnN e base W' v xs := h.keep fun q hq => by
 rcases h.own.2 with ⟨e1, _⟩ | ⟨g, cap, cur, e1, _, hh, _⟩
 ·rw [e1] at hq
  cases hq
 ·rw [e1] at hq
  have : g = q := by simpa [Value.ownBlock] using hq
  subst this
  exact k.block g (Array.getElem?_eq_some_iff.1 hh).1 (fun cs f e3 => by rw [hh] at e3; simp only [Option.some.injEq, Obj.cells.injEq] at e3; exact hne e3.2.1)
def itsM (m : List (Int × Byt)) : List It := m.flatMap fun q => [.num q.1, .blk q.2]
def itsV (p : Int × VolM) : List It := [.num p.1, .num p.2.1, .num p.2.2.length] ++ itsM p.2.2
def itsK (d : Dev) : List It := .num d.length :: d.flatMap itsV
def bytesK (d : Dev) : List UInt8 := (itsK d).flatMap It.bytes
def itS (l : List It) : ByteArray := ⟨(l.map It.letter).toArray⟩
theorem pack_anyS (l : List It) (hok : ∀ x ∈ l, x.ok) (hn : l.length ≤ 30000) (A : Option Addr) (c : Nat) (hcl : l.length ≤ c) (w : World) (hr : RowN anE w A l) :
  Calls Tryz.prog 22 #[.string (itS l), .slice A l.length c] w fun e w' => ∃ v, e = .returned (.tuple #[v, .int .i64 0]) ∧ OwnN bE w.heap.size w' v (l.flatMap It.bytes) ∧ Gr w w' := pack_any l hok hn A c hcl w hr
theorem itS_app (a b : List It) : itS (a ++ b) = itS a ++ itS b := by
 apply ByteArray.ext
 simp [itS]
theorem itS_size (a : List It) : (itS a).size = a.length := by simp [itS, ByteArray.size]
theorem itsM_len : ∀ m, (itsM m).length = 2 * m.length
 | [] => rfl
 | q :: m => by
  have := itsM_len m
  unfold itsM at *
  rw [List.flatMap_cons, List.length_append, this]
  simp; omega
theorem itsM_take {m : List (Int × Byt)} {j : Nat} {q : Int × Byt} (h : m[j]? = some q) : itsM (m.take (j + 1)) = itsM (m.take j) ++ [.num q.1, .blk q.2] := by
 unfold itsM
 rw [List.take_add_one, h, List.flatMap_append]; simp
theorem itsV_take {d : Dev} {j : Nat} {q : Int × VolM} (h : d[j]? = some q) : (d.take (j + 1)).flatMap itsV = (d.take j).flatMap itsV ++ itsV q := by
 rw [List.take_add_one, h, List.flatMap_append]; simp
theorem vol_len {v : VolM} (h : VolOk v) : v.2.length ≤ 256 := keysK_len h.sort h.keys h.s1
theorem itsV_len {p : Int × VolM} (h : VolOk p.2) : (itsV p).length ≤ 515 := by
 have := vol_len h
 unfold itsV
 rw [List.length_append, itsM_len]
 simp; omega
theorem itsD_len : ∀ (d : Dev), (∀ p ∈ d, VolOk p.2) → (d.flatMap itsV).length ≤ 515 * d.length
 | [], _ => by simp
 | p :: d, h => by
  have h1 := itsD_len d fun q hq => h q (List.mem_cons_of_mem _ hq)
  have h2 := itsV_len (h p mcs)
  rw [List.flatMap_cons, List.length_append, List.length_cons]
  omega
theorem itsV_ok {d : Dev} (h : DevOk d) {p : Int × VolM} (hp : p ∈ d) : ∀ x ∈ itsV p, x.ok := by
 have hv := h.vols p hp
 have hk := h.keys p hp
 have hl := vol_len hv
 have h0 := hv.s0
 have h1 := hv.s1
 intro x hx
 unfold itsV itsM at hx
 rcases List.mem_append.1 hx with hx | hx
 ·simp only [List.mem_cons, List.mem_nil_iff, or_false] at hx
  rcases hx with rfl | rfl | rfl
  ·exact ⟨by omega, by omega⟩
  ·exact ⟨by omega, by omega⟩
  ·exact ⟨by omega, by omega⟩
 ·obtain ⟨q, hq, hx⟩ := List.mem_flatMap.1 hx
  have hq2 := hv.keys q hq
  simp only [List.mem_cons, List.mem_nil_iff, or_false] at hx
  rcases hx with rfl | rfl
  ·exact ⟨by omega, by omega⟩
  ·exact hv.len q hq
theorem itsK_ok {d : Dev} (h : DevOk d) (hn : d.length ≤ 40) : ∀ x ∈ itsK d, x.ok := by
 intro x hx
 rcases List.mem_cons.1 hx with rfl | hx
 ·exact ⟨by omega, by omega⟩
 ·obtain ⟨p, hp, hx⟩ := List.mem_flatMap.1 hx
  exact itsV_ok h hp x hx
theorem OwnN.blk {α : Type} {e : EK α} {base : Nat} {W : World} {g n : Nat} {cs : Array Value} {xs : List α} (h : BlockAt W g cs e.E) (hb : base ≤ g) (hcs : cs.toList = xs.flatMap e.cs) (hn : xs.length = n) (hm : n ≤ 1000) (hok : ∀ x ∈ xs, e.ok x) (hs : cs.size = n * e.k) : OwnN e base W (.slice (some ⟨g, 0, none⟩) n n) xs := by
 subst hn
 have hl : cs.toList.length = xs.length * e.k := by simpa using hs
 refine ⟨hok, by rw [← hcs]; exact hl, .inr ⟨g, xs.length, cs, rfl, hb, h.eq, Nat.le_refl _, by unfold maxLen; omega, hs, ?_⟩⟩
 rw [← hcs]
 exact List.take_of_length_le (by omega)
theorem CellsN.blk {α : Type} {e : EK α} (he : e.Is) {W : World} {g : Nat} {cs : Array Value} {xs : List α} {T : TypeId} (h : BlockAt W g cs T) (hcs : cs.toList = xs.flatMap e.cs) (hok : ∀ x ∈ xs, e.ok x) : CellsN e W g 0 xs := by
 intro j x hj i u hu
 rw [Nat.zero_add, block_cells W g _ cs T, ← Array.getElem?_toList, hcs]
 exact flatN_at he xs hok j i x u hj hu
theorem bytes_any (base D : Nat) (d : Dev) (hn : d.length ≤ 40) (w : World) (h : DevAt base w D d) : Calls Tryz.prog 10 #[.pointer (some ⟨D, 0, none⟩)] w fun e w' => ∃ v, e = .returned v ∧ OwnN bE w.heap.size w' v (bytesK d) ∧ Gr w w' := by
 have HDA := hd_ h
 obtain ⟨M, mb, h⟩ := h
 have HD := hd_ h
 have HT := hd_ (fun W (hW : Gr w W) => there_yes D M W (HD.out.blk.gr hW))
 haveI := h.blk
 have x0 : w.cell? ⟨D, 0, none⟩ = some (.map (some M)) := (bc 0 h.blk).trans rfl
 haveI : Old D w := h.blk.old
 have HLO := hd_ (itsD_len d h.ok.vols)
 have HN := hd_ hn
 have HOK := hd_ h.ok
 have hwr : IntKind.u64.wrap (d.length : Int) = (d.length : Int) := by have := HN.out; simp [IntKind.wrap, IntKind.bits, IntKind.signed]; omega
 clear h hn
 go_enter Tryz.func10, Tryz.ntmps10
 go_wp2_with (first | (go_at_call 19; ((with_reducible refine (HT.out _ gri).mono ?_); rintro _ _ ⟨rfl, g1, rfl⟩)) | (go_at_call 20; ((with_reducible refine (volumes_any base D d (by have := HN.out; omega) _ (HDA.out.gr gri)).mono ?_); rintro _ W2 ⟨v2, rfl, hv, hg⟩; obtain ⟨A, c, hA, -, -, -⟩ := hv.form uIs; rw [List.length_map] at hA; subst hA; haveI := grc_of (Gr.trans (gri : Gr w (grown w g1)) hg); haveI := from_of (Gr.trans (gri : Gr w (grown w g1)) hg); have HV := hd_ hv; have HG := hd_ hg; clear hv hg)))
 have HB0 := hd_ (show w.heap.size ≤ W2.heap.size from Nat.le_trans (grown_below w g1).size HG.out.below.size)
 go_loopw [4, 5, 25] (fun v4 v5 v25 wr => ∃ i : Nat, i ≤ d.length ∧ v25 = .int .i64 (i : Int) ∧ v4 = .string (itS (.num d.length :: (d.take i).flatMap itsV)) ∧ OwnN anE w.heap.size wr v5 (.num d.length :: (d.take i).flatMap itsV) ∧ OwnN uE w.heap.size wr (.slice A d.length c) (d.map (·.1)) ∧ Gr w wr) (fun _ _ v _ => d.length - (intOf v).toNat)
 case atStart =>
  refine ⟨0, Nat.zero_le _, rfl, rfl, ?_, (HV.out.gr gri).more (by have := (grown_below w g1).size; omega), gri⟩
  exact OwnN.blk (e := anE) (xs := [.num d.length]) inferInstance HB0.out rfl rfl (by decide) (by intro x hx; rw [List.mem_singleton] at hx; subst hx; exact ⟨by omega, by have := HN.out; omega⟩) rfl
 case round =>
  obtain ⟨i, hi, rfl, rfl, ho, hk, hg⟩ := hrel
  haveI := grc_of hg
  haveI := from_of hg
  have HG := hd_ hg
  have HO := hd_ ho
  have HK := hd_ hk
  clear hg ho hk
  by_cases hlt : i < d.length
  ·obtain ⟨p, hp⟩ := Option.isSome_iff_exists.1 (show (d[i]?).isSome by simp; omega)
   have hpm := List.mem_of_getElem? hp
   have hgk : getK d p.1 = some p.2 := (getK_mem HOK.out.sort).2 hpm
   have hgl := getK_vols d mb p.1
   rw [hgk] at hgl
   obtain ⟨g, c', hAe, -, hgw, -, -, hcl, -⟩ := HK.out.cells uIs (by intro e; rw [List.map_eq_nil_iff] at e; rw [e] at hlt; simp at hlt)
   rw [List.length_map] at hAe
   simp only [Value.slice.injEq] at hAe
   obtain ⟨rfl, -, rfl⟩ := hAe
   have x1 : wr.cell? ⟨g, i, none⟩ = some (.int .u64 p.1) := by
    have := hcl i p.1 (by rw [List.getElem?_map, hp]; rfl) 0 _ rfl
    simpa [uE, sE] using this
   haveI : Old g wr := ⟨hgw⟩
   have HVO := hd_ (HOK.out.vols p hpm)
   have HMM := hd_ (HD.out.vol p hpm)
   obtain ⟨n, s, m⟩ := p
   have hml : m.length ≤ 256 := vol_len HVO.out
   have hwr2 : IntKind.u64.wrap (m.length : Int) = (m.length : Int) := by simp [IntKind.wrap, IntKind.bits, IntKind.signed]; omega
   have hwr3 : IntKind.u64.wrap s = s := by have h8 : 0 ≤ s := HVO.out.s0; have h9 : s ≤ 256 := HVO.out.s1; simp [IntKind.wrap, IntKind.bits, IntKind.signed]; omega
   have HL := hd_ hgl
   have HGK := hd_ hgk
   have HPT := hd_ (itsV_take hp)
   have HLN := hd_ (show ((.num d.length :: (d.take i).flatMap itsV : List It)).length ≤ 30000 from by have := itsD_len (d.take i) (fun q hq => HOK.out.vols q (List.mem_of_mem_take hq)); have := HN.out; simp at *; omega)
   have hsz : ¬ 9223372036854775807 < (itS (.num d.length :: (d.take i).flatMap itsV)).size + 3 := by have := HLN.out; rw [itS_size]; omega
   have HOK3 := hd_ (show ∀ x ∈ [It.num n, It.num s, It.num m.length], x.ok from fun x hx => itsV_ok HOK.out hpm x (List.mem_append_left _ hx))
   clear hpm hp hgl hgk hcl
   go_wp2_with (first | (go_at_call 21; ((with_reducible refine (mapped_any base D d n (s, m) HGK.out _ (HDA.out.gr gri)).mono ?_); rintro _ W3 ⟨v3, rfl, hv, hg⟩; obtain ⟨A3, c3, hA, -, -, -⟩ := hv.form I.sIs; rw [List.length_map] at hA; subst hA; haveI := grc_of hg; haveI := from_of hg; haveI := grc_of (HG.out.trans hg); haveI := from_of (HG.out.trans hg); have z3 : W3.cell? ⟨D, 0, none⟩ = some (.map (some M)) := ((HG.out.trans hg).below.cell (p := ⟨D, 0, none⟩) Old.lt).trans x0; haveI : Old D W3 := old_of_cell z3; have HV3 := hd_ hv; have HG3 := hd_ hg; clear hv hg)) | (at_lookup; refine wpList_lookupK (q := .u64) (b := M) rfl _ _ rfl n Tryz.underlying53 Tryz.underlying24 (Tryz.zeroValue64 _) (HD.out.all.gr gri) rfl rfl ?_; rw [HL.out]) | (at_builtin; refine wp_append_n anIs rfl _ _ rfl rfl (HO.out.gr gri) _ 0 [.num n, .num s, .num m.length] 3 3 rfl rfl HOK3.out (CellsN.blk anIs inferInstance rfl HOK3.out) (by have := HLN.out; simp at this ⊢; omega) past (by simp) ?_; intro v1 W1 h1; have H1 := hd_ h1; clear h1))
   obtain ⟨L, hL⟩ : ∃ L : List It, L = (.num d.length :: (d.take i).flatMap itsV) ++ [.num n, .num s, .num m.length] := ⟨_, rfl⟩
   have HLL := hd_ hL
   have H1own := hd_ (hL ▸ H1.out.own)
   clear hL
   go_loopw [4, 5, 54] (fun v4 v5 v54 wx => ∃ j : Nat, j ≤ m.length ∧ v54 = .int .i64 (j : Int) ∧ v4 = .string (itS (L ++ itsM (m.take j))) ∧ OwnN anE w.heap.size wx v5 (L ++ itsM (m.take j)) ∧ OwnN uE w.heap.size wx (.slice (some ⟨g, 0, none⟩) d.length c) (d.map (·.1)) ∧ OwnN I.sE w.heap.size wx (.slice A3 m.length c3) (m.map (·.1)) ∧ Gr w wx) (fun _ _ v _ => m.length - (intOf v).toNat)
   case atStart =>
    refine ⟨0, Nat.zero_le _, rfl, ?_, ?_, ?_, ?_, by haveI := H1.out.grc w (Nat.le_refl _); exact gri⟩
    ·have e0 : L ++ itsM (m.take 0) = L := by simp [itsM]
     rw [e0, HLL.out, itS_app]; rfl
    ·have e0 : L ++ itsM (m.take 0) = L := by simp [itsM]
     rw [e0]; exact H1own.out
    ·exact ((HK.out.gr HG3.out).gr gri).keepY H1.out (by decide)
    ·exact ((HV3.out.gr gri).more (HG.out.below.size)).keepY H1.out (by decide)
   case round =>
    obtain ⟨j, hj, rfl, rfl, ho2, hk2, hm2, hg2⟩ := hrel
    haveI := grc_of hg2
    haveI := from_of hg2
    have HG4 := hd_ hg2
    have HO4 := hd_ ho2
    have HK4 := hd_ hk2
    have HM4 := hd_ hm2
    have z4 : wr.cell? ⟨D, 0, none⟩ = some (.map (some M)) := (hg2.below.cell (p := ⟨D, 0, none⟩) Old.lt).trans x0
    haveI : Old D wr := old_of_cell z4
    clear hg2 ho2 hk2 hm2
    by_cases hjt : j < m.length
    ·obtain ⟨q, hq⟩ := Option.isSome_iff_exists.1 (show (m[j]?).isSome by simp; omega)
     obtain ⟨b, B⟩ := q
     have hqm := List.mem_of_getElem? hq
     have hBl : B.length = 256 := HVO.out.len _ hqm
     have hb0 : 0 ≤ b ∧ b < s := HVO.out.keys _ hqm
     have hs2 : s ≤ 256 := HVO.out.s1
     have hwb : IntKind.u64.wrap b = b := by simp [IntKind.wrap, IntKind.bits, IntKind.signed]; omega
     have hkb : getK (encK bkV m) b = some (Value.agg (bkC B)) := by rw [getK_enc, (getK_mem HVO.out.sort).2 hqm]; rfl
     obtain ⟨g3, c', hAe, -, hgw, -, -, hcl, -⟩ := HM4.out.cells I.sIs (by intro e; rw [List.map_eq_nil_iff] at e; rw [e] at hjt; simp at hjt)
     rw [List.length_map] at hAe
     simp only [Value.slice.injEq] at hAe
     obtain ⟨rfl, -, rfl⟩ := hAe
     have x3 : wr.cell? ⟨g3, j, none⟩ = some (.int .i64 b) := by
      have := hcl j b (by rw [List.getElem?_map, hq]; rfl) 0 _ rfl
      simpa [I.sE, sE] using this
     haveI : Old g3 wr := ⟨hgw⟩
     haveI := bkC_row hBl
     have HKB := hd_ hkb
     have HMT := hd_ (itsM_take hq)
     have HOK2 := hd_ (show ∀ x ∈ [It.num b, It.blk B], x.ok from fun x hx => by
      simp only [List.mem_cons, List.mem_nil_iff, or_false] at hx
      rcases hx with rfl | rfl
      ·exact ⟨by omega, by omega⟩
      ·exact hBl)
     have HLN2 := hd_ (show (L ++ itsM (m.take j)).length ≤ 50000 from by have := itsM_len (m.take j); have := HLN.out; have := HN.out; rw [HLL.out]; simp at *; omega)
     have hsz2 : ¬ 9223372036854775807 < (itS (L ++ itsM (m.take j))).size + 2 := by have := HLN2.out; rw [itS_size]; omega
     clear hqm hq hkb hcl hgw hBl hb0 hs2
     go_wp2_with (first | (at_lookup; refine wpList_lookupK (q := .u64) (b := M) rfl _ _ rfl n Tryz.underlying53 Tryz.underlying24 (Tryz.zeroValue64 _) (HD.out.all.gr gri) rfl rfl ?_; rw [HL.out]) | (at_lookup; refine wpList_lookupK (q := .i64) (b := mb n) rfl _ _ rfl b Tryz.underlying62 Tryz.underlying3 (Tryz.zeroValue66 _) (HMM.out.gr gri) rfl rfl ?_; rw [HKB.out]) | (at_builtin; refine wp_append_n anIs rfl _ _ rfl rfl (HO4.out.gr gri) _ 0 [.num b, .blk B] 2 2 rfl rfl HOK2.out (CellsN.blk anIs inferInstance rfl HOK2.out) (by have := HLN2.out; simp at this ⊢; omega) past (by simp) ?_; intro v1 W1 h1; have H5 := hd_ h1; clear h1))
     go_roundw
     case rel =>
      refine ⟨j + 1, by omega, by go_num, ?_, ?_, ?_, ?_, by haveI := H5.out.grc w (Nat.le_refl _); exact gri⟩
      ·rw [HMT.out, ← List.append_assoc, itS_app (L ++ _), itS_app L]; rfl
      ·rw [HMT.out, ← List.append_assoc]; exact H5.out.own
      ·exact (HK4.out.gr gri).keepY H5.out (by decide)
      ·exact (HM4.out.gr gri).keepY H5.out (by decide)
     case measure => simp [intOf]; omega
    ·obtain rfl : j = m.length := by omega
     have HE := hd_ (show L ++ itsM (m.take m.length) = .num d.length :: (d.take (i + 1)).flatMap itsV from by rw [List.take_length, HLL.out, HPT.out]; simp [itsV])
     have hn40 := HN.out
     go_wp2_with fail
     go_roundw
     case rel => exact ⟨i + 1, hlt, by go_num, by rw [HE.out], HE.out ▸ HO4.out.gr gri, HK4.out.gr gri, HG4.out.trans gri⟩
     case measure => simp [intOf]; omega
  ·obtain rfl : i = d.length := by omega
   have HE := hd_ (show (.num d.length :: (d.take d.length).flatMap itsV) = itsK d from by rw [List.take_length]; rfl)
   rw [HE.out] at HO ⊢
   have HLK := hd_ (show (itsK d).length ≤ 30000 from by have h1 := HLO.out; have h2 := HN.out; unfold itsK; rw [List.length_cons]; omega)
   obtain ⟨AV, cV, hV, hcV, -, hRV⟩ := HO.out.form anIs
   subst hV
   have HRV := hd_ hRV
   have HCV := hd_ hcV
   clear hRV hcV
   go_wp2_with (first | (go_at_call 22; ((with_reducible refine (pack_anyS (itsK d) (itsK_ok HOK.out HN.out) HLK.out AV cV HCV.out _ (HRV.out.gr gri)).mono ?_); rintro _ W5 ⟨v5, rfl, hv5, hg5⟩; haveI := grc_of (HG.out.trans (Gr.trans gri hg5)); have HV5 := hd_ hv5; have HG5 := hd_ hg5; clear hv5 hg5)))
   go_ret
   exact ⟨_, rfl, (HV5.out.gr gri).more past, gri⟩
def ansV (x : AnsC) : Value := .agg #[.int .i64 x.code, .int .i64 x.done, .slice x.D x.n x.q]
def nums4 (p : Int × AnsM) : List Int := [p.1, p.2.1, p.2.2.1, (p.2.2.2.length : Int)]
def keyOne (p : Int × AnsM) : Byt := (nums4 p).flatMap (fun n => leB n 8) ++ p.2.2.2
def keyM (d : Dev) (l : List (Int × AnsM)) : Byt := bytesK d ++ l.flatMap keyOne
structure AnsN (p : Int × AnsC) : Prop where
 k0 : 0 ≤ p.1
 k1 : p.1 < 18446744073709551616
 c0 : 0 ≤ p.2.code
 c1 : p.2.code < 9223372036854775808
 d0 : 0 ≤ p.2.done
 d1 : p.2.done < 9223372036854775808
abbrev encA (l : List (Int × AnsC)) : List (Int × Value) := l.map fun p => (p.1, ansV p.2)
abbrev plainA (l : List (Int × AnsC)) : List (Int × AnsM) := l.map fun p => (p.1, p.2.m)
theorem flat_len {α : Type} (f : α → List UInt8) (n : Nat) : ∀ (l : List α), (∀ x ∈ l, (f x).length ≤ n) → (l.flatMap f).length ≤ n * l.length
 | [], _ => by simp
 | x :: l, h => by
  have h1 := flat_len f n l (fun y hy => h y (.tail _ hy))
  have h2 := h x (.head _)
  rw [List.flatMap_cons, List.length_append, List.length_cons, Nat.mul_add]
  omega
theorem bytesK_len {d : Dev} (hn : d.length ≤ 40) (hok : DevOk d) : (bytesK d).length ≤ 6000000 := by
 have h1 : ∀ x ∈ itsK d, (It.bytes x).length ≤ 256 := fun x hx => by
  cases x with
  | num n => simp [It.bytes, leB]
  | blk B =>
   unfold itsK at hx
   rcases List.mem_cons.1 hx with h | h
   ·cases h
   ·obtain ⟨p, hp, hx2⟩ := List.mem_flatMap.1 h
    have : B.length = 256 := itsV_ok hok hp _ hx2
    simp [It.bytes, this]
 have h2 := flat_len It.bytes 256 (itsK d) h1
 have h3 := itsD_len d hok.vols
 unfold bytesK
 have h4 : (itsK d).length = (d.flatMap itsV).length + 1 := by simp [itsK]
 omega
theorem LowP.trans {base : Nat} {W W1 W2 : World} {v v' : Value} {ys zs : List UInt8} (h : LowP base W v ys W1) (k : LowP base W1 v' zs W2) : LowP base W v' zs W2 :=
 ⟨k.own, h.below.trans k.below, Nat.le_trans h.size k.size, fun b hb hc => by
  have e1 := h.block b hb hc
  have s1 := h.size
  exact (k.block b (by omega) (fun cs f => by rw [e1]; exact hc cs f)).trans e1⟩
theorem LowP.blockAt {base : Nat} {W W1 : World} {v : Value} {ys : List UInt8} (h : LowP base W v ys W1) {B : Nat} {cs : Array Value} {T : TypeId} (hB : BlockAt W B cs T) (hT : T ≠ bE.E) : BlockAt W1 B cs T :=
 ⟨(h.block B hB.lt (fun cs' f e => by rw [hB.eq] at e; exact hT (Obj.cells.inj (Option.some.inj e)).2.1)).trans hB.eq⟩
theorem OwnN.low {α : Type} {e : EK α} {base b2 : Nat} {W W1 : World} {v u : Value} {xs : List α} {ys : List UInt8} (h : OwnN e b2 W u xs) (k : LowP base W v ys W1) (he : e.E ≠ bE.E) : OwnN e b2 W1 u xs := h.keep fun q hq => by
 obtain ⟨cs, hh⟩ := h.cellsBlock q hq
 exact k.block q (Array.getElem?_eq_some_iff.1 hh).1 (fun cs' f e2 => by rw [hh] at e2; exact he (Obj.cells.inj (Option.some.inj e2)).2.1)
theorem idx4_0 (a b c d : Int) (w : World) : (Instr.index 195 (.agg #[.int .u64 a, .int .u64 b, .int .u64 c, .int .u64 d]) (.int .i64 0)).run Tryz.prog w = .ok (.int .u64 a) w := by kernel_rfl
theorem idx4_1 (a b c d : Int) (w : World) : (Instr.index 195 (.agg #[.int .u64 a, .int .u64 b, .int .u64 c, .int .u64 d]) (.int .i64 1)).run Tryz.prog w = .ok (.int .u64 b) w := by kernel_rfl
theorem idx4_2 (a b c d : Int) (w : World) : (Instr.index 195 (.agg #[.int .u64 a, .int .u64 b, .int .u64 c, .int .u64 d]) (.int .i64 2)).run Tryz.prog w = .ok (.int .u64 c) w := by kernel_rfl
theorem idx4_3 (a b c d : Int) (w : World) : (Instr.index 195 (.agg #[.int .u64 a, .int .u64 b, .int .u64 c, .int .u64 d]) (.int .i64 3)).run Tryz.prog w = .ok (.int .u64 d) w := by kernel_rfl
theorem idx_4 (a b c d x : Int) (j : Nat) (h : [a, b, c, d][j]? = some x) (w : World) : (Instr.index 195 (.agg #[.int .u64 a, .int .u64 b, .int .u64 c, .int .u64 d]) (.int .i64 (j : Int))).run Tryz.prog w = .ok (.int .u64 x) w := by
 have hj : j < 4 := by
  have := (List.getElem?_eq_some_iff.1 h).1
  simpa using this
 have h9 : j = 0 ∨ j = 1 ∨ j = 2 ∨ j = 3 := by omega
 rcases h9 with rfl | rfl | rfl | rfl
 ·obtain rfl : a = x := Option.some.inj h
  exact idx4_0 a b c d w
 ·obtain rfl : b = x := Option.some.inj h
  exact idx4_1 a b c d w
 ·obtain rfl : c = x := Option.some.inj h
  exact idx4_2 a b c d w
 ·obtain rfl : d = x := Option.some.inj h
  exact idx4_3 a b c d w
theorem u64_same {x : Int} (h0 : 0 ≤ x) (h1 : x < 18446744073709551616) : IntKind.u64.wrap x = x := by
 simp [IntKind.wrap, IntKind.bits, IntKind.signed]
 omega
theorem keys_get {l : List (Int × AnsC)} {i : Nat} {p : Int × AnsC} (hs : SortK (encA l)) (h : l[i]? = some p) : getK (encA l) p.1 = some (ansV p.2) :=
 (getK_mem hs).2 (List.mem_map.2 ⟨p, List.mem_of_getElem? h, rfl⟩)
theorem key_any (base D M : Nat) (d : Dev) (l : List (Int × AnsC)) (w : World) (h : DevAt base w D d) (hdl : d.length ≤ 40) (hm : MapAt .u64 w M (encA l)) (hll : l.length ≤ 40) (hok : ∀ p ∈ l, AnsOk 0 w p.2) (hn : ∀ p ∈ l, AnsN p) :
  Calls Tryz.prog 95 #[.agg #[.pointer (some ⟨D, 0, none⟩), .map (some M)]] w fun e w' => e = .returned (.string ⟨(keyM d (plainA l)).toArray⟩) ∧ Gr w w' := by
 have HBY := hd_ (fun W (g : Gr w W) => bytes_any base D d hdl W (h.gr g))
 have HM := hd_ hm
 have HOK := hd_ hok
 have HN := hd_ hn
 have hlb : (bytesK d).length ≤ 6000000 := bytesK_len hdl (by obtain ⟨M, mb, h⟩ := h; exact h.ok)
 obtain ⟨B0, hB0⟩ : ∃ B0, B0 = bytesK d := ⟨_, rfl⟩
 have hkd : keyM d (plainA l) = B0 ++ (plainA l).flatMap keyOne := by rw [hB0]; rfl
 rw [← hB0] at HBY hlb
 have HKD := hd_ hkd
 obtain ⟨KE, hKE⟩ : ∃ KE, KE = keyM d (plainA l) := ⟨_, rfl⟩
 rw [← hKE] at HKD ⊢
 have HLB := hd_ hlb
 obtain ⟨N, hN⟩ : ∃ N, N = l.length := ⟨_, rfl⟩
 have HNL := hd_ hN
 rw [← hN] at hll
 clear h hm hok hn hB0 hkd hKE hlb hN
 go_enter Tryz.func95, Tryz.ntmps95
 go_wp2_with (first
  | (go_at_call 10; ((with_reducible refine (HBY.out _ gri).mono ?_); rintro _ _ ⟨v0, rfl, ho0, ⟨g1, rfl⟩⟩; have HO0 := hd_ ho0; clear ho0))
  | (go_at_call 115; ((with_reducible refine (A.keysfU (some M) _).mono ?_); rintro _ _ ⟨rfl, rfl⟩))
  | (go_at_call 54; ((with_reducible refine (A.sortedU _ M (encA l) (by rw [List.length_map]; have := HNL.out; omega) _ inferInstance (HM.out.gr gri)).mono ?_); rintro _ _ ⟨vk, rfl, hok1, ⟨g2, rfl⟩⟩; obtain ⟨Ak, ck, hvk, hck, hcm, _⟩ := hok1.form uIs; subst hvk; have HRK := hd_ hok1; clear hok1 hck hcm)))
 obtain ⟨W1, hW1⟩ : ∃ W1, W1 = (grown ((grown (w.alloc (.cells #[.pointer (some ⟨D, 0, none⟩), .map (some M)] 79)) g1).alloc (.cells #[.map (some M)] 77)) g2) := ⟨_, rfl⟩
 have hg1 : Gr w W1 := by rw [hW1]; exact gri
 have hb1 : BlockAt W1 w.heap.size #[.pointer (some ⟨D, 0, none⟩), .map (some M)] 79 := by rw [hW1]; infer_instance
 have ho1 : OwnN bE w.heap.size W1 v0 B0 := by
  rw [hW1]
  exact (HO0.out.more (Gr.below (gri : Gr w (w.alloc _))).size).gr gri
 have hk1 := HRK.out
 rw [← hW1] at hk1 ⊢
 have HG1 := hd_ hg1
 have HB1 := hd_ hb1
 have HO1 := hd_ ho1
 have HK1 := hd_ hk1
 have hsort := HM.out.sort
 have HSO := hd_ hsort
 clear hW1 hg1 hb1 ho1 hk1 HRK HO0 hsort
 have el : (((encA l).map (·.1)).length : Int) = (N : Int) := by rw [List.length_map, List.length_map, HNL.out]
 go_loopw [3, 18] (fun v i wr => ∃ k : Nat, k ≤ N ∧ i = .int .i64 (k : Int) ∧ LowP w.heap.size W1 v (B0 ++ ((plainA l).take k).flatMap keyOne) wr) (fun _ i _ => N - (intOf i).toNat)
 case atStart => exact ⟨0, Nat.zero_le _, rfl, by simpa using LowP.start HO1.out⟩
 case round =>
  obtain ⟨k, hk, rfl, hp⟩ := hrel
  have HP := hd_ hp
  have hgw : Gr w wr := Gr.of (HG1.out.below.trans hp.below)
  haveI := grc_of hgw
  haveI := from_of hgw
  have HG := hd_ hgw
  have hbx := hp.blockAt HB1.out (by decide)
  have x0 : wr.cell? ⟨w.heap.size, 0, none⟩ = some (.pointer (some ⟨D, 0, none⟩)) := (bc 0 hbx).trans rfl
  have x1 : wr.cell? ⟨w.heap.size, 1, none⟩ = some (.map (some M)) := (bc 1 hbx).trans rfl
  haveI := hbx.old
  clear hp hgw hbx
  by_cases hlt : k < N
  ·have HLT := hd_ hlt
   obtain ⟨p, hp⟩ : ∃ p, l[k]? = some p := ⟨_, List.getElem?_eq_getElem (by rw [← HNL.out]; exact hlt)⟩
   have hkr := HK1.out.low HP.out (by decide)
   obtain ⟨gk, ck', hvk, _, hgk, _, _, hcl, _⟩ := hkr.cells uIs (by intro e; have h9 := congrArg List.length e; rw [List.length_map, List.length_map, ← HNL.out, List.length_nil] at h9; omega)
   simp only [Value.slice.injEq] at hvk
   obtain ⟨rfl, hle, rfl⟩ := hvk
   have hkc : wr.cell? ⟨gk, k, none⟩ = some (.int .u64 p.1) := by
    have := hcl k p.1 (by rw [List.getElem?_map, List.getElem?_map, hp]; rfl) 0 (.int .u64 p.1) rfl
    simpa [uE, sE] using this
   haveI : Old gk wr := ⟨hgk⟩
   have hget := keys_get HSO.out hp
   have hpo := HOK.out p (List.mem_of_getElem? hp)
   have hpn := HN.out p (List.mem_of_getElem? hp)
   have hT : (plainA l).take (k + 1) = (plainA l).take k ++ [(p.1, p.2.m)] := by rw [List.take_add_one, List.getElem?_map, hp]; rfl
   obtain ⟨PRE, hPRE⟩ : ∃ PRE, PRE = B0 ++ ((plainA l).take k).flatMap keyOne := ⟨_, rfl⟩
   have hnext : B0 ++ ((plainA l).take (k + 1)).flatMap keyOne = PRE ++ ((nums4 (p.1, p.2.m)).flatMap (fun n => leB n 8) ++ p.2.l) := by
    rw [hT, List.flatMap_append, ← List.append_assoc, ← hPRE]
    simp [keyOne, AnsC.m]
   have hplen : PRE.length ≤ 50000000 := by
    rw [hPRE, List.length_append]
    have h1 := flat_len keyOne 1000032 ((plainA l).take k) (fun x hx => by
     obtain ⟨p', hp', rfl⟩ := List.mem_map.1 (List.mem_of_mem_take hx)
     have := (HOK.out p' hp').small
     have h2 := (HOK.out p' hp').len
     simp [keyOne, nums4, leB, AnsC.m]
     omega)
    have h2 := HLB.out
    have h3 : ((plainA l).take k).length ≤ 40 := by rw [List.length_take]; omega
    omega
   have hq : LowP w.heap.size W1 u3 PRE wr := by rw [hPRE]; exact HP.out
   have HQ := hd_ hq
   have HNX := hd_ hnext
   have HPL := hd_ hplen
   have HGT := hd_ hget
   have HPO := hd_ hpo
   have HPN := hd_ hpn
   have hnl : (k : Int) < (l.length : Int) := by have := HNL.out; omega
   have hkl : k < l.length := by have := HNL.out; omega
   obtain ⟨num, ⟨code, dn, la, DA, na, qa⟩⟩ := p
   simp only [AnsC.m, ansV] at HNX HGT HPO HPN hkc
   have w1 := u64_same HPN.out.c0 (by have := HPN.out.c1; simp only at this ⊢; omega)
   have w2 := u64_same HPN.out.d0 (by have := HPN.out.d1; simp only at this ⊢; omega)
   have w3 : IntKind.u64.wrap (na : Int) = (na : Int) := u64_same (by omega) (by have := HPO.out.small; simp only at this; omega)
   simp only at w1 w2
   clear hp hkr hget hpo hpn hT hnext hplen hq hPRE hcl
   go_wp2_with (first | (at_lookup; refine wpList_lookupK (q := .u64) (b := M) rfl _ _ rfl num Tryz.underlying77 Tryz.underlying24 (Tryz.zeroValue38 _) (HM.out.gr (HG.out.trans gri)) rfl rfl ?_; rw [HGT.out]))
   obtain ⟨W2, hW2⟩ : ∃ W2, W2 = wr.alloc (.cells #[.int .i64 code, .int .i64 dn, .slice DA na qa] 38) := ⟨_, rfl⟩
   obtain ⟨Ba, hBa⟩ : ∃ Ba, Ba = wr.heap.size := ⟨_, rfl⟩
   have hg2 : Gr wr W2 := by rw [hW2]; exact gri
   have hb2 : BlockAt W2 Ba #[.int .i64 code, .int .i64 dn, .slice DA na qa] 38 := by rw [hW2, hBa]; infer_instance
   rw [← hW2, ← hBa]
   have HQ2 := hd_ (HQ.out.gr hg2 (HG1.out.below.size))
   have HG2 := hd_ (HG.out.trans hg2)
   have HB2 := hd_ hb2
   have hs2 : w.heap.size ≤ W2.heap.size := HG2.out.below.size
   have HS2 := hd_ hs2
   clear hW2 hBa hg2 hb2 hs2 hkc x0 x1
   obtain ⟨F4, hF4⟩ : ∃ F4 : List Int, F4 = [num, code, dn, (na : Int)] := ⟨_, rfl⟩
   have hf4 : ∀ x ∈ F4, 0 ≤ x ∧ x < 18446744073709551616 := fun x hx => by
    rw [hF4] at hx
    have a1 := HPN.out.k0
    have a2 := HPN.out.k1
    have a3 := HPN.out.c0
    have a4 := HPN.out.c1
    have a5 := HPN.out.d0
    have a6 := HPN.out.d1
    have a7 := HPO.out.small
    simp only at a1 a2 a3 a4 a5 a6 a7
    simp only [List.mem_cons, List.mem_nil_iff, or_false] at hx
    rcases hx with rfl | rfl | rfl | rfl <;> omega
   have HF4 := hd_ hF4
   have HX4 := hd_ hf4
   have hl4 : F4.length = 4 := by rw [hF4]; rfl
   have HL4 := hd_ hl4
   clear hF4 hf4 hl4
   go_loopw [3, 38] (fun v i ws => ∃ j : Nat, j ≤ 4 ∧ i = .int .i64 (j : Int) ∧ LowP w.heap.size W2 v (PRE ++ (F4.take j).flatMap (fun n => leB n 8)) ws) (fun _ i _ => 4 - (intOf i).toNat)
   case atStart => exact ⟨0, by omega, rfl, by simpa using LowP.start HQ2.out.own⟩
   case round =>
    obtain ⟨j, hj, rfl, hp2⟩ := hrel
    have HP2 := hd_ hp2
    have hgw2 : Gr w wr := Gr.of (HG2.out.below.trans hp2.below)
    haveI := grc_of hgw2
    haveI := from_of hgw2
    have HGW2 := hd_ hgw2
    clear hp2 hgw2
    by_cases hj4 : j < 4
    ·have HJ4 := hd_ hj4
     obtain ⟨x, hx⟩ : ∃ x, F4[j]? = some x := ⟨_, List.getElem?_eq_getElem (by rw [HL4.out]; exact hj4)⟩
     have hx2 := hx
     rw [HF4.out] at hx2
     have hidx := fun w => idx_4 num code dn (na : Int) x j hx2 w
     obtain ⟨hx0, hx9⟩ := HX4.out x (List.mem_of_getElem? hx)
     have HT4 := hd_ (show F4.take (j + 1) = F4.take j ++ [x] by rw [List.take_add_one, hx]; rfl)
     have HX0 := hd_ (And.intro hx0 hx9)
     clear hx hx2 hx0 hx9
     go_wp2
     obtain ⟨P2, hP2⟩ : ∃ P2, P2 = PRE ++ (F4.take j).flatMap (fun n => leB n 8) := ⟨_, rfl⟩
     have hp2 := HP2.out
     rw [← hP2] at hp2
     have HP3 := hd_ hp2
     have HEQ := hd_ hP2
     have hpl2 : P2.length ≤ 50000100 := by
      rw [hP2, List.length_append]
      have h1 := flat_len (fun n => leB n 8) 8 (F4.take j) (fun y _ => by simp [leB])
      have h2 : (F4.take j).length ≤ 4 := by rw [List.length_take]; omega
      have := HPL.out
      omega
     have HPL2 := hd_ hpl2
     clear hp2 hP2 hpl2
     have hdj : decide ((j : Int) < 4) = true := decide_eq_true (by have := HJ4.out; omega)
     simp only [hdj]
     clear hdj
     go_loopw [3, 41] (fun v i ws => ∃ q : Nat, q ≤ 8 ∧ i = .int .i64 (q : Int) ∧ LowP w.heap.size W2 v (P2 ++ leB x q) ws) (fun _ i _ => 8 - (intOf i).toNat)
     case atStart => exact ⟨0, by omega, rfl, by simpa [leB] using HP3.out⟩
     case round =>
      obtain ⟨q, hq8, rfl, hp4⟩ := hrel
      have HP4 := hd_ hp4
      have hgw4 : Gr w wr := Gr.of (HG2.out.below.trans hp4.below)
      haveI := grc_of hgw4
      haveI := from_of hgw4
      clear hp4 hgw4
      by_cases hq : q < 8
      ·have HQ8 := hd_ hq
       obtain ⟨y, hy⟩ : ∃ y : UInt8, UInt8.ofNat (x / 256 ^ q % 256).toNat = y := ⟨_, rfl⟩
       have hcv : x / 2 ^ (8 * q) % 256 = (y.toNat : Int) := by
        rw [Int.pow_mul, ← hy]
        have : ((2 : Int) ^ 8) = 256 := by decide
        rw [this]
        simp
        omega
       have HE := hd_ (show leB x (q + 1) = leB x q ++ [y] by rw [leB_succ, hy])
       have HLE : Hid ((leB x q).length ≤ 8) := hd_ (by simp [leB]; omega)
       clear hy
       go_wp2_with (first | (at_builtin; refine wp_append_n bIs rfl _ _ rfl rfl (HP4.out.own.gr gri) _ 0 [y] 1 1 rfl rfl (fun _ _ => trivial) (CellsN.block _ inferInstance rfl) (by have := HPL2.out; have := HLE.out; simp; omega) past (by simp) ?_; intro v1 W4 h1; have H1 := hd_ (HP4.out.app gri HS2.out h1); clear h1))
       go_roundw
       case rel => exact ⟨q + 1, HQ8.out, by go_num, by rw [HE.out, ← List.append_assoc]; exact H1.out⟩
       case measure => have := HQ8.out; simp [intOf]; omega
      ·obtain rfl : q = 8 := by omega
       go_wp2
       go_roundw
       case rel => exact ⟨j + 1, HJ4.out, by go_num, by rw [HT4.out, List.flatMap_append, ← List.append_assoc, ← HEQ.out]; simpa using HP4.out⟩
       case measure => have := HJ4.out; simp [intOf]; omega
    ·obtain rfl : j = 4 := by omega
     have hba := HP2.out.blockAt HB2.out (by decide)
     have z2 : wr.cell? ⟨Ba, 2, none⟩ = some (.slice DA na qa) := (bc 2 hba).trans rfl
     haveI := hba.old
     have hf : PRE ++ (F4.take 4).flatMap (fun n => leB n 8) = PRE ++ F4.flatMap (fun n => leB n 8) := by rw [List.take_of_length_le (by rw [HL4.out]; exact Nat.le_refl _)]
     have hp5 := HP2.out
     rw [hf] at hp5
     have HP5 := hd_ hp5
     have HRL := hd_ (rowB_n ((HPO.out.gr HGW2.out).rowb))
     have HLA := hd_ HPO.out.len
     have HNI := hd_ HPO.out.nil
     have hll5 : (PRE ++ F4.flatMap (fun n => leB n 8)).length ≤ 50000100 := by
      rw [List.length_append]
      have h1 := flat_len (fun n => leB n 8) 8 F4 (fun y _ => by simp [leB])
      have := HPL.out
      have := HL4.out
      omega
     have HL5 := hd_ hll5
     have HSM := hd_ HPO.out.small
     simp only at HRL HLA HNI HSM
     clear hba hp5 hf hll5
     go_wp2_with (first | (at_builtin; refine wp_append_x bIs rfl _ _ rfl rfl (HP5.out.own.gr gri) DA la na qa HLA.out rfl HNI.out (HRL.out.gr gri) (by have := HL5.out; have := HSM.out; have := HLA.out; omega) past ?_; intro v1 W4 h1; have H1 := hd_ (HP5.out.app gri HS2.out h1); clear h1))
     go_roundw
     case rel =>
      refine ⟨k + 1, HLT.out, by go_num, ?_⟩
      rw [HNX.out]
      have := (HQ2.out.trans H1.out)
      rw [HF4.out, List.append_assoc] at this
      have e9 : (nums4 (num, code, dn, la)) = [num, code, dn, (na : Int)] := by unfold nums4; rw [HLA.out]
      rw [e9]
      exact this
     case measure => have := HLT.out; simp [intOf]; omega
  ·have : k = N := by omega
   subst this
   have e : (plainA l).take k = plainA l := List.take_of_length_le (by rw [List.length_map, ← HNL.out]; omega)
   have hown := HP.out.own
   rw [e, ← HKD.out] at hown
   have hrow := hown
   obtain ⟨A9, c9, hv9, _, _, hr9⟩ := hown.form bIs
   subst hv9
   have hcv := conv_row A9 _ c9 _ wr rfl (rowN_b hr9)
   have hnl : ¬ ((k : Int) < (l.length : Int)) := by have := HNL.out; omega
   clear e hown hrow hr9
   go_wp2
   go_ret
   exact ⟨rfl, HG.out⟩
end Go.Proofs.YtddckdhnolmjoaaGreat
namespace Go.Proofs.YtddckdhnolmjoaaGreat
open Go.RowKit Go.MapKept
def SeenAt (W : World) (b : Nat) (S : List ByteArray) : Prop :=
 ∃ es clock, W.heap[b]? = some (.map es clock) ∧ Stamped es clock ∧ (∀ x ∈ es.toList, IsKey .string x.key ∧ x.val = .agg #[.bool true]) ∧ ∀ k, (∃ x ∈ es.toList, x.key = .string k) ↔ k ∈ S
theorem SeenAt.lt {W : World} {b : Nat} {S : List ByteArray} (h : SeenAt W b S) : b < W.heap.size := by
 obtain ⟨es, clock, hb, _⟩ := h
 exact (Array.getElem?_eq_some_iff.1 hb).1
theorem SeenAt.keep {W W' : World} {b : Nat} {S : List ByteArray} (h : SeenAt W b S) (hk : W'.heap[b]? = W.heap[b]?) : SeenAt W' b S := by
 obtain ⟨es, clock, hb, h⟩ := h
 exact ⟨es, clock, hk.trans hb, h⟩
theorem SeenAt.gr {W W' : World} {b : Nat} {S : List ByteArray} (h : SeenAt W b S) (g : Gr W W') : SeenAt W' b S := h.keep (g.below.block b h.lt)
theorem seenAt_new (W : World) : SeenAt (W.alloc (.map #[] 0)) W.heap.size [] := ⟨#[], 0, (MapKept.heap_alloc W _).1, stamped_empty 0, by simp, by simp⟩
section
variable {P : Program} {W : World} {b : Nat} {S : List ByteArray} {t kt et : TypeId}
theorem seen_find {es : Array MapEntry} (hk : ∀ x ∈ es.toList, IsKey .string x.key ∧ x.val = .agg #[.bool true]) (hm : ∀ k, (∃ x ∈ es.toList, x.key = .string k) ↔ k ∈ S) (k : ByteArray) :
  (k ∉ S ∧ Instr.findNow .string (.string k) es.toList 0 = some none ∧ ∀ x ∈ es.toList, x.key ≠ .string k) ∨
  ∃ i : Nat, Instr.findNow .string (.string k) es.toList 0 = some (some (i, .agg #[.bool true])) ∧ k ∈ S := by
 rcases findNow_spec (d := .string) (k := .string k) trivial es.toList 0 (fun x hx => (hk x hx).1) with ⟨h1, h2⟩ | ⟨j, e, h1, h2, h3⟩
 ·exact .inl ⟨fun hS => by
   obtain ⟨x, hx, e⟩ := (hm k).2 hS
   exact h2 x hx e, h1, h2⟩
 ·have he := List.mem_of_getElem? h2
  refine .inr ⟨j, ?_, (hm k).1 ⟨e, he, h3⟩⟩
  rw [h1, (hk e he).2, Nat.zero_add]
theorem seen_lookup (ht : P.underlying t = some (.map kt et)) (hk : P.underlying kt = some .string) (h : SeenAt W b S) (k : ByteArray) (hz : (zeroValue et).run P W = .ok (.agg #[.bool false]) W) :
  (k ∈ S ∧ (Instr.lookup t (.map (some b)) (.string k) false).run P W = .ok (.agg #[.bool true]) W) ∨ (k ∉ S ∧ (Instr.lookup t (.map (some b)) (.string k) false).run P W = .ok (.agg #[.bool false]) W) := by
 obtain ⟨es, clock, hb, hst, hkk, hm⟩ := h
 have hck := fun e => run_checkKey (P := P) (w := W) (k := .string k) hk trivial e 9999
 have hgo := MapKept.run_getObj_map (P := P) hb
 rcases seen_find hkk hm k with ⟨hS, hf, _⟩ | ⟨i, hf, hS⟩
 ·have hfk := run_findKey (P := P) (w := W) hk hf
  exact .inr ⟨hS, by simp [Instr.lookup, Sem.run_bind, run_underlying ht W, hgo, hck, hfk, hz]⟩
 ·have hfk := run_findKey (P := P) (w := W) hk hf
  exact .inl ⟨hS, by simp [Instr.lookup, Sem.run_bind, run_underlying ht W, hgo, hck, hfk]⟩
theorem seen_update (ht : P.underlying t = some (.map kt et)) (hk : P.underlying kt = some .string) (h : SeenAt W b S) (k : ByteArray) (hS : k ∉ S) :
  ∃ W', (Instr.mapUpdate t (.map (some b)) (.string k) (.agg #[.bool true])).run P W = .ok () W' ∧ SeenAt W' b (k :: S) ∧ OnlyB W W' b := by
 obtain ⟨es, clock, hb, hst, hkk, hm⟩ := h
 have hck := fun e => run_checkKey (P := P) (w := W) (k := .string k) hk trivial e 9999
 have hgo := MapKept.run_getObj_map (P := P) hb
 have hso := fun o => MapKept.run_setObj_map (P := P) o hb
 rcases seen_find hkk hm k with ⟨_, hf, hne⟩ | ⟨i, hf, hS2⟩
 rotate_left
 ·exact absurd hS2 hS
 have hfk := run_findKey (P := P) (w := W) hk hf
 refine ⟨_, ?_, ⟨es.push { key := .string k, val := .agg #[.bool true], born := clock }, clock + 1, (heap_set hb).1, stamped_push hst hne, ?_, ?_⟩, only_set hb⟩
 ·simp [Instr.mapUpdate, Sem.run_bind, run_underlying ht W, hgo, hck, hfk, hso]
 ·intro x hx
  rcases List.mem_append.1 (by rw [Array.toList_push] at hx; exact hx) with hx | hx
  ·exact hkk x hx
  ·obtain rfl := List.mem_singleton.1 hx
   exact ⟨trivial, rfl⟩
 ·intro j
  rw [Array.toList_push, List.mem_cons, ← hm j]
  constructor
  ·rintro ⟨x, hx, e1⟩
   rcases List.mem_append.1 hx with hx | hx
   ·exact .inr ⟨x, hx, e1⟩
   ·obtain rfl := List.mem_singleton.1 hx
    cases e1
    exact .inl rfl
  ·rintro (rfl | ⟨x, hx, e1⟩)
   ·exact ⟨_, List.mem_append_right _ (List.mem_singleton.2 rfl), rfl⟩
   ·exact ⟨x, List.mem_append_left _ hx, e1⟩
end
section
variable {P : Program} {W : World} {ops : Array Oper} {rest : List Oper} {o : Oper} {a : Act} {Q : Exit → Act → World → Prop} {b : Nat} {S : List ByteArray} {t kt et : TypeId}
theorem wpList_lookupS (hgd : o.guard = none) (x k : Operand) (ho : o.op = .lookup t x k false) (key : ByteArray) (r : Bool) (ht : P.underlying t = some (.map kt et)) (hk : P.underlying kt = some .string) (hz : (zeroValue et).run P W = .ok (.agg #[.bool false]) W)
  (hm : SeenAt W b S) (hr : key ∈ S ↔ r = true) (hx : a.eval x = .map (some b)) (hkey : a.eval k = .string key)
  (h : wpList P ops Q rest (a.put o.dst (.agg #[.bool r])) W) : wpList P ops Q (o :: rest) a W := by
 refine wpList_plain hgd fun K' hK' => ?_
 have hrun : (Instr.lookup t (.map (some b)) (.string key) false).run P W = .ok (.agg #[.bool r]) W := by
  rcases seen_lookup ht hk hm key hz with ⟨h1, h2⟩ | ⟨h1, h2⟩
  ·rw [hr.1 h1]; exact h2
  ·have : r = false := by
    cases r with
    | false => rfl
    | true => exact absurd (hr.2 rfl) h1
   rw [this]; exact h2
 unfold Oper.wp
 simp only [execOp, ho, hx, hkey, Sem.run_bind, hrun, Result.andThen_ok, Sem.run_pure]
 exact hK' _ _ h
theorem wpList_updateS (hgd : o.guard = none) (m x v : Operand) (ho : o.op = .mapUpdate t m x v) (key : ByteArray) (ht : P.underlying t = some (.map kt et)) (hk : P.underlying kt = some .string) (hm : SeenAt W b S) (hS : key ∉ S) (hm2 : a.eval m = .map (some b)) (hx : a.eval x = .string key) (hv : a.eval v = .agg #[.bool true])
  (h : ∀ W', SeenAt W' b (key :: S) → OnlyB W W' b → wpList P ops Q rest (a.put o.dst undef) W') : wpList P ops Q (o :: rest) a W := by
 refine wpList_plain hgd fun K hK => ?_
 obtain ⟨W', hrun, h1, h2⟩ := seen_update ht hk hm key hS
 unfold Oper.wp
 simp only [execOp, ho, hm2, hx, hv, Sem.run_bind, hrun, Result.andThen_ok, Sem.run_pure]
 exact hK _ _ (h W' h1 h2)
end
end Go.Proofs.YtddckdhnolmjoaaGreat
namespace Go.Proofs.YtddckdhnolmjoaaGreat
open Go.RowKit
structure CallC where
 num : Int
 node : Int
 o : OpC
 at_ : Int
 fr : Int
 tt : Int
 dn : Bool
 gone : Int
 seq : Int
 an : AnsC
def callL (x : CallC) : List Value := [.int .u64 x.num, .int .i64 x.node, .int .i64 x.o.o.k, .int .u64 x.o.o.v, .int .u64 x.o.o.t, .int .i64 x.o.o.s, .int .i64 x.o.o.a, .int .i64 x.o.o.c, .slice x.o.D x.o.n x.o.q, .int .i64 x.at_, .int .i64 x.fr, .int .i64 x.tt, .bool x.dn, .int .i64 x.gone, .int .i64 x.seq, .int .i64 x.an.code, .int .i64 x.an.done, .slice x.an.D x.an.n x.an.q]
def callZ : Value := .agg #[.int .u64 0, .int .i64 0, .int .i64 0, .int .u64 0, .int .u64 0, .int .i64 0, .int .i64 0, .int .i64 0, .slice none 0 0, .int .i64 0, .int .i64 0, .int .i64 0, .bool false, .int .i64 0, .int .i64 0, .int .i64 0, .int .i64 0, .slice none 0 0]
def callE : EK CallC := ⟨callL, 18, 51, 52, 176, callZ, fun _ => True⟩
theorem callIs : callE.Is where
 len := fun _ _ => rfl
 one := fun x _ v hv => by
  simp only [callE, callL, List.mem_cons, List.mem_nil_iff, or_false] at hv
  rcases hv with rfl | rfl | rfl | rfl | rfl | rfl | rfl | rfl | rfl | rfl | rfl | rfl | rfl | rfl | rfl | rfl | rfl | rfl <;> rfl
 pos := by decide
 hT := Tryz.underlying52
 hE := by kernel_rfl
 hz := rfl
 hb := by decide
structure CallOk (W : World) (x : CallC) : Prop where
 op : OpOk W x.o
 an : AnsOk 0 W x.an
 n0 : 0 ≤ x.num
 n1 : x.num < 18446744073709551616
theorem CallOk.gr {W W' : World} {x : CallC} (h : CallOk W x) (g : Gr W W') : CallOk W' x := ⟨h.op.gr g, h.an.gr g, h.n0, h.n1⟩
structure WrC where
 D : Nat
 M : Nat
 lo : Nat
 mid : Nat
 hi : Nat
 dev : Dev
 as_ : List (Int × AnsC)
abbrev WM := Dev × List (Int × AnsM)
def WrC.p (x : WrC) : WM := (x.dev, plainA x.as_)
def wrE : EK WrC := ⟨fun x => [.pointer (some ⟨x.D, 0, none⟩), .map (some x.M)], 2, 79, 80, 16, .agg #[.pointer none, .map none], fun _ => True⟩
theorem wrIs : wrE.Is where
 len := fun _ _ => rfl
 one := fun x _ v hv => by
  simp only [wrE, List.mem_cons, List.mem_nil_iff, or_false] at hv
  rcases hv with rfl | rfl <;> rfl
 pos := by decide
 hT := Tryz.underlying80
 hE := by kernel_rfl
 hz := rfl
 hb := by decide
def DevR (lo hi : Nat) (W : World) (D : Nat) (d : Dev) : Prop := ∃ M mb, DevIn lo W D M mb d ∧ D < hi ∧ M < hi ∧ ∀ p ∈ d, mb p.1 < hi
theorem devR_of {lo D : Nat} {W : World} {d : Dev} (h : DevAt lo W D d) : DevR lo W.heap.size W D d := by
 obtain ⟨M, mb, h⟩ := h
 exact ⟨M, mb, h, h.blk.lt, h.all.lt, fun p hp => (h.vol p hp).lt⟩
theorem DevR.at_ {lo hi D : Nat} {W : World} {d : Dev} (h : DevR lo hi W D d) : DevAt lo W D d := by
 obtain ⟨M, mb, h, _⟩ := h
 exact ⟨M, mb, h⟩
theorem DevR.keep {lo hi D : Nat} {W W' : World} {d : Dev} (h : DevR lo hi W D d) (hk : ∀ b, lo ≤ b → b < hi → W'.heap[b]? = W.heap[b]?) : DevR lo hi W' D d := by
 obtain ⟨M, mb, h, h1, h2, h3⟩ := h
 exact ⟨M, mb, ⟨⟨(hk D h.bD h1).trans h.blk.eq⟩, h.all.keep (hk M h.bM h2), fun p hp => (h.vol p hp).keep (hk _ (h.bV p hp) (h3 p hp)), h.inj, h.ne, h.bD, h.bM, h.bV, h.ok⟩, h1, h2, h3⟩
structure WrP (W : World) (x : WrC) : Prop where
 dev : DevR x.lo x.mid W x.D x.dev
 map : MapAt .u64 W x.M (encA x.as_)
 m0 : x.mid ≤ x.M
 m1 : x.M < x.hi
 hi : x.hi ≤ W.heap.size
 lo : x.lo ≤ x.mid
 ans : ∀ p ∈ x.as_, AnsOk 0 W p.2
 num : ∀ p ∈ x.as_, AnsN p
theorem WrP.keep {W W' : World} {x : WrC} (h : WrP W x) (hk : ∀ b, x.lo ≤ b → b < x.hi → W'.heap[b]? = W.heap[b]?) (hs : W.heap.size ≤ W'.heap.size) (hb : BK W W') : WrP W' x :=
 ⟨h.dev.keep fun b h1 h2 => hk b h1 (Nat.lt_trans h2 (Nat.lt_of_le_of_lt h.m0 h.m1)), h.map.keep (hk _ (Nat.le_trans h.lo h.m0) h.m1), h.m0, h.m1, Nat.le_trans h.hi hs, h.lo, fun p hp => (h.ans p hp).bk hb, h.num⟩
theorem WrP.gr {W W' : World} {x : WrC} (h : WrP W x) (g : Gr W W') : WrP W' x := h.keep (fun b _ h2 => g.below.block b (Nat.lt_of_lt_of_le h2 h.hi)) g.below.size (BK.gr g)
structure KX (X S : Nat) (W W' : World) : Prop where
 size : W.heap.size ≤ W'.heap.size
 keep : ∀ (b : Nat) o, W.heap[b]? = some o → b ≠ X → b ≠ S → rowX W X ≠ some b → W'.heap[b]? = some o
 row : ∀ b, rowX W' X = some b → rowX W X = some b ∨ W.heap.size ≤ b
 bk : BK W W'
theorem KX.refl (X S : Nat) (W : World) : KX X S W W := ⟨Nat.le_refl _, fun _ _ h _ _ _ => h, fun _ h => .inl h, BK.refl _⟩
theorem KX.trans {X S : Nat} {A B C : World} (h : KX X S A B) (k : KX X S B C) : KX X S A C where
 size := Nat.le_trans h.size k.size
 keep := fun b o hb h1 h2 h3 => by
  have hlt := (Array.getElem?_eq_some_iff.1 hb).1
  exact k.keep b o (h.keep b o hb h1 h2 h3) h1 h2 (fun e => (h.row b e).elim h3 (fun h4 => by omega))
 row := fun b hb => (k.row b hb).elim (fun e => h.row b e) (fun h2 => .inr (Nat.le_trans h.size h2))
 bk := h.bk.trans k.bk
theorem rowX_gr {W W' : World} {X : Nat} (g : Gr W W') (hX : X < W.heap.size) : rowX W' X = rowX W X := by
 unfold rowX
 rw [g.below.cell (p := ⟨X, 0, none⟩) hX]
theorem KX.gr {X S : Nat} {W W' : World} (g : Gr W W') (hX : X < W.heap.size) : KX X S W W' :=
 ⟨g.below.size, fun b o hb _ _ _ => (g.below.block b (Array.getElem?_eq_some_iff.1 hb).1).trans hb, fun b hb => .inl (by rw [← rowX_gr g hX]; exact hb), BK.gr g⟩
theorem KX.new {X S b : Nat} {A B C : World} (h : KX X S A B) (ho : OnlyB B C b) (hb : A.heap.size ≤ b) (hX : X < A.heap.size) (hbk : BK B C) : KX X S A C := by
 have hr : rowX C X = rowX B X := by
  unfold rowX World.cell?
  rw [ho.block (show X ≠ b by omega)]
 exact ⟨by rw [ho.2]; exact h.size, fun c o hc h1 h2 h3 => (ho.block (by have := (Array.getElem?_eq_some_iff.1 hc).1; omega)).trans (h.keep c o hc h1 h2 h3), fun c hc => h.row c (by rw [← hr]; exact hc), h.bk.trans hbk⟩
theorem BK.only {W W' : World} {b : Nat} {es : Array MapEntry} {clock : Nat} (hb : W.heap[b]? = some (.map es clock)) (h : OnlyB W W' b) : BK W W' := fun c cs f hc => h.block (fun e => by subst e; rw [hb] at hc; cases hc)
theorem BK.onlyK {q : IntKind} {W W' : World} {b : Nat} {L : List (Int × Value)} (hm : MapAt q W b L) (h : OnlyB W W' b) : BK W W' := by
 obtain ⟨es, clock, hb, _⟩ := hm
 exact BK.only hb h
structure Safe (X S : Nat) (v : Value) (x : WrC) : Prop where
 xx : X < x.lo ∨ x.hi ≤ X
 s : S < x.lo ∨ x.hi ≤ S
 r : ∀ g, v.ownBlock = some g → g < x.lo ∨ x.hi ≤ g
theorem row_of {W : World} {X : Nat} {v : Value} {T : TypeId} (h : BlockAt W X #[v] T) : rowX W X = v.ownBlock := by
 unfold rowX
 rw [bc 0 h]
 rfl
theorem WrP.kx {X S : Nat} {W W' : World} {v : Value} {x : WrC} {T : TypeId} (h : WrP W x) (hs : Safe X S v x) (hX : BlockAt W X #[v] T) (k : KX X S W W') : WrP W' x := by
 refine h.keep (fun b h1 h2 => ?_) k.size k.bk
 have hb : b < W.heap.size := Nat.lt_of_lt_of_le h2 h.hi
 have e : W.heap[b]? = some W.heap[b] := Array.getElem?_eq_getElem hb
 rw [e]
 refine k.keep b _ e (fun e1 => ?_) (fun e1 => ?_) (fun e1 => ?_)
 ·have := hs.xx; omega
 ·have := hs.s; omega
 ·rw [row_of hX] at e1
  have := hs.r b e1
  omega
theorem Safe.kx {X S : Nat} {W W' : World} {v v' : Value} {x : WrC} {T : TypeId} (hs : Safe X S v x) (hX : BlockAt W X #[v] T) (hX' : BlockAt W' X #[v'] T) (k : KX X S W W') (hi : x.hi ≤ W.heap.size) : Safe X S v' x :=
 ⟨hs.xx, hs.s, fun g hg => by
  have := k.row g (by rw [row_of hX']; exact hg)
  rcases this with h | h
  ·rw [row_of hX] at h
   exact hs.r g h
  ·exact .inr (by omega)⟩
theorem KX.blockAt {X S : Nat} {W W' : World} {v : Value} {T' : TypeId} (k : KX X S W W') (hX : BlockAt W X #[v] T') {B : Nat} {cs : Array Value} {T : TypeId} (hB : BlockAt W B cs T) (h1 : B ≠ X) (h2 : B ≠ S) (h3 : v.ownBlock ≠ some B) : BlockAt W' B cs T := ⟨k.keep B _ hB.eq h1 h2 (by rw [row_of hX]; exact h3)⟩
theorem KX.own {α : Type} {e : EK α} {X S b : Nat} {W W' : World} {v u : Value} {xs : List α} {ys : List WrC} {base : Nat} (k : KX X S W W') (hX : BlockAt W X #[v] 80) (hw : OwnN wrE base W v ys) {sn : List ByteArray} (hS : SeenAt W S sn) (h : OwnN e b W u xs) (h1 : e.E ≠ 80) (h2 : e.E ≠ 79) : OwnN e b W' u xs := h.keep fun q hq => by
 obtain ⟨cs, hh⟩ := h.cellsBlock q hq
 rw [hh]
 refine k.keep q _ hh (fun e1 => ?_) (fun e1 => ?_) (fun e1 => ?_)
 ·subst e1
  rw [hX.eq] at hh
  exact h1 (Obj.cells.inj (Option.some.inj hh)).2.1.symm
 ·subst e1
  obtain ⟨es, clock, hb, _⟩ := hS
  rw [hb] at hh
  cases hh
 ·rw [row_of hX] at e1
  obtain ⟨cs2, hh2⟩ := hw.cellsBlock q e1
  rw [hh2] at hh
  exact h2 (Obj.cells.inj (Option.some.inj hh)).2.1.symm
/-! Plainly. -/
def keyW (x : WM) : Byt := keyM x.1 x.2
def baB (k : Byt) : ByteArray := ⟨k.toArray⟩
theorem baB_mem {k : Byt} {S : List Byt} : baB k ∈ S.map baB ↔ k ∈ S := by
 constructor
 ·intro h
  obtain ⟨k', hk, e⟩ := List.mem_map.1 h
  have : k' = k := by
   have e2 := congrArg (fun b : ByteArray => b.data.toList) e
   simpa [baB] using e2
  rw [← this]
  exact hk
 ·exact fun h => List.mem_map.2 ⟨k, h, rfl⟩
abbrev SoM := List Byt × List WM
def addM : Nat → List (Int × OpM) → WM → SoM → Option SoM
 | 0, _, _, _ => none
 | f + 1, may, x, st =>
  if 40 < x.1.length ∨ 40 < x.2.length then none
  else if keyW x ∈ st.1 then some st
  else if 5000 ≤ st.2.length then none
  else may.foldlM (fun st c => if (getK x.2 c.1).isSome then some st else (waysK x.1 c.2).foldlM (fun st a => addM f may (doneK x.1 c.2 a, putK x.2 c.1 a) st) st) (keyW x :: st.1, st.2 ++ [x])
theorem foldM_cons {α β : Type} (f : β → α → Option β) (a : α) (l : List α) (b : β) {c : β} (h : (a :: l).foldlM f b = some c) : ∃ b', f b a = some b' ∧ l.foldlM f b' = some c := by
 rw [List.foldlM_cons] at h
 exact Option.bind_eq_some_iff.1 h
abbrev ptrB (B : Nat) : Value := .pointer (some ⟨B, 0, none⟩)
abbrev addF (X Bs Bm Ba : Nat) : Value := .func (.func 94) #[] #[ptrB Bs, ptrB X, ptrB Bm, ptrB Ba]
def Dj (x y : WrC) : Prop := x.hi ≤ y.lo ∨ y.hi ≤ x.lo
structure StA (w : World) (X S Bs Bm Ba : Nat) (Am : Option Addr) (nm cm : Nat) (may : List CallC) (seen : List Byt) (out : List WrC) (v : Value) (W : World) : Prop where
 bx : BlockAt W X #[v] 80
 own : OwnN wrE w.heap.size W v out
 seen : SeenAt W S (seen.map baB)
 bs : BlockAt W Bs #[.map (some S)] 171
 bm : BlockAt W Bm #[.slice Am nm cm] 52
 ba : BlockAt W Ba #[addF X Bs Bm Ba] 172
 mr : OwnN callE w.heap.size W (.slice Am nm cm) may
 gr : Gr w W
 wX : w.heap.size ≤ X
 wS : w.heap.size ≤ S
 all : ∀ x ∈ out, WrP W x ∧ Safe X S v x
section
variable {w W W' : World} {X S Bs Bm Ba nm cm : Nat} {Am : Option Addr} {may : List CallC} {seen : List Byt} {out : List WrC} {v : Value}
theorem StA.grow (h : StA w X S Bs Bm Ba Am nm cm may seen out v W) (g : Gr W W') : StA w X S Bs Bm Ba Am nm cm may seen out v W' :=
 ⟨h.bx.gr g, h.own.gr g, h.seen.gr g, h.bs.gr g, h.bm.gr g, h.ba.gr g, h.mr.gr g, h.gr.trans g, h.wX, h.wS, fun x hx => ⟨(h.all x hx).1.gr g, (h.all x hx).2⟩⟩
theorem StA.neXS (h : StA w X S Bs Bm Ba Am nm cm may seen out v W) : X ≠ S := fun e => by
 subst e
 obtain ⟨es, clock, hb, _⟩ := h.seen
 rw [h.bx.eq] at hb
 cases hb
theorem StA.neS (h : StA w X S Bs Bm Ba Am nm cm may seen out v W) {B : Nat} {cs : Array Value} {T : TypeId} (hB : BlockAt W B cs T) : B ≠ S := fun e => by
 subst e
 obtain ⟨es, clock, hb, _⟩ := h.seen
 rw [hB.eq] at hb
 cases hb
theorem StA.neX (h : StA w X S Bs Bm Ba Am nm cm may seen out v W) {B : Nat} {cs : Array Value} {T : TypeId} (hB : BlockAt W B cs T) (hT : T ≠ 80) : B ≠ X := fun e => by
 subst e
 have := h.bx.eq
 rw [hB.eq] at this
 exact hT (Obj.cells.inj (Option.some.inj this)).2.1
theorem StA.neR (h : StA w X S Bs Bm Ba Am nm cm may seen out v W) {B : Nat} {cs : Array Value} {T : TypeId} (hB : BlockAt W B cs T) (hT : T ≠ 79) : v.ownBlock ≠ some B := fun e => by
 obtain ⟨cs2, hh⟩ := h.own.cellsBlock B e
 rw [hB.eq] at hh
 exact hT (Obj.cells.inj (Option.some.inj hh)).2.1
theorem StA.rowLt (h : StA w X S Bs Bm Ba Am nm cm may seen out v W) : ∀ g, v.ownBlock = some g → g < W.heap.size := fun g hg => (h.own.lt g hg).2
theorem sta_push {Wa Wb Wc Wd : World} {v1 : Value} {x : WrC} {k : Byt} (h : StA w X S Bs Bm Ba Am nm cm may seen out v W) (ga : Gr W Wa) (hob : OnlyB Wa Wb S) (hsb : SeenAt Wb S ((k :: seen).map baB)) (gc : Gr Wb Wc) (ha : AppN wrE w.heap.size Wc v out [x] v1 Wd)
  (hx : WrP W x) (hs : Safe X S v x) :
  StA w X S Bs Bm Ba Am nm cm may (k :: seen) (out ++ [x]) v1 (Wd.setCell ⟨X, 0, none⟩ v1) ∧ KX X S W (Wd.setCell ⟨X, 0, none⟩ v1) ∧ WrP (Wd.setCell ⟨X, 0, none⟩ v1) x ∧ Safe X S v1 x := by
 have hSa : SeenAt Wa S (seen.map baB) := h.seen.gr ga
 have hXa := h.bx.gr ga
 have hXW : X < W.heap.size := h.bx.lt
 have hXS := h.neXS
 have hXb : BlockAt Wb X #[v] 80 := ⟨(hob.block hXS).trans hXa.eq⟩
 have hXc := hXb.gr gc
 have hXd := ha.keep X _ _ hXc (by decide)
 have hXe : BlockAt (Wd.setCell ⟨X, 0, none⟩ v1) X #[v1] 80 := by
  haveI := hXd
  show BlockAt _ X (#[v].setIfInBounds 0 v1) _
  infer_instance
 have sa := ga.below.size
 have sb := hob.2
 have sc := gc.below.size
 have sd := ha.size
 have se : (Wd.setCell ⟨X, 0, none⟩ v1).heap.size = Wd.heap.size := by simp [World.setCell]
 obtain ⟨es, clock, hbS, _⟩ := hSa
 have bkb : BK Wa Wb := BK.only hbS hob
 have bkd : BK Wc Wd := BK.app ha (by decide)
 have bke : BK Wd (Wd.setCell ⟨X, 0, none⟩ v1) := fun b cs f hb => Below.heap_setCell Wd ⟨X, 0, none⟩ v1 b (fun e => by
  subst e
  rw [hXd.eq] at hb
  exact absurd (Obj.cells.inj (Option.some.inj hb)).2.1 (by decide))
 have hk : KX X S W (Wd.setCell ⟨X, 0, none⟩ v1) := by
  refine ⟨by omega, fun b o hb h1 h2 h3 => ?_, fun b hb => ?_, ((((BK.gr ga).trans bkb).trans (BK.gr gc)).trans bkd).trans bke⟩
  ·have hlt := (Array.getElem?_eq_some_iff.1 hb).1
   rw [row_of h.bx] at h3
   rw [Below.heap_setCell Wd ⟨X, 0, none⟩ v1 b h1, ha.gb.block b (by omega) (fun e => h3 e.symm), gc.below.block b (by omega), hob.block h2, ga.below.block b hlt]
   exact hb
  ·rw [row_of hXe] at hb
   rw [row_of h.bx]
   rcases ha.row b hb with h4 | h4
   ·exact .inl h4
   ·exact .inr (by omega)
 have hsafe : ∀ y, WrP W y → Safe X S v y → WrP (Wd.setCell ⟨X, 0, none⟩ v1) y ∧ Safe X S v1 y := fun y hy hs => ⟨hy.kx hs h.bx hk, hs.kx h.bx hXe hk hy.hi⟩
 refine ⟨⟨hXe, ha.own.set_ (hB := hXd) _ _ _ (by decide), ?_, ?_, ?_, ?_, ?_, ?_, h.wX, h.wS, ?_⟩, hk, (hsafe x hx hs).1, (hsafe x hx hs).2⟩
 ·refine (hsb.gr gc).keep ?_
  have e1 : S ≠ X := fun e => hXS e.symm
  have hSc : S < Wc.heap.size := by have := hsb.lt; omega
  rw [Below.heap_setCell Wd ⟨X, 0, none⟩ v1 S e1]
  refine ha.gb.block S hSc (fun e => ?_)
  obtain ⟨cs2, hh⟩ := h.own.cellsBlock S e.symm
  obtain ⟨es2, clock2, hb2, _⟩ := h.seen
  rw [hb2] at hh
  cases hh
 ·exact hk.blockAt h.bx h.bs (h.neX h.bs (by decide)) (h.neS h.bs) (h.neR h.bs (by decide))
 ·exact hk.blockAt h.bx h.bm (h.neX h.bm (by decide)) (h.neS h.bm) (h.neR h.bm (by decide))
 ·exact hk.blockAt h.bx h.ba (h.neX h.ba (by decide)) (h.neS h.ba) (h.neR h.ba (by decide))
 ·exact hk.own h.bx h.own h.seen h.mr (by decide) (by decide)
 ·have b1 : Below w.heap.size w Wb := hob.below h.wS (by rw [← sb]; exact hsb.lt) (h.gr.trans ga).below
  have b2 : Below w.heap.size w Wd := (b1.trans (gc.below.mono (by have := b1.size; omega))).trans ha.below
  exact Gr.of (b2.setCell (p := ⟨X, 0, none⟩) h.wX v1)
 ·intro y hy
  rw [List.mem_append, List.mem_singleton] at hy
  rcases hy with hy | rfl
  ·exact hsafe y (h.all y hy).1 (h.all y hy).2
  ·exact hsafe y hx hs
theorem sta_own {Wa Wb : World} (h : StA w X S Bs Bm Ba Am nm cm may seen out v W) (ga : Gr W Wa) (hob : OnlyB Wa Wb S) : OwnN wrE w.heap.size Wb v out ∧ w.heap.size ≤ Wb.heap.size := by
 refine ⟨(h.own.gr ga).keep fun q hq => hob.block (fun e => ?_), ?_⟩
 ·subst e
  obtain ⟨cs2, hh2⟩ := h.own.cellsBlock q hq
  obtain ⟨es2, clock2, hb2, _⟩ := h.seen
  rw [hb2] at hh2
  cases hh2
 ·have a1 := hob.2
  have a2 := h.gr.below.size
  have a3 := ga.below.size
  omega
theorem sta_box {Wb Wc Wd : World} {v1 : Value} {x : WrC} (h : StA w X S Bs Bm Ba Am nm cm may seen out v W) (gc : Gr Wb Wc) (ha : AppN wrE w.heap.size Wc v out [x] v1 Wd) {B : Nat} {cs : Array Value} {T : TypeId} (hB : BlockAt Wb B cs T) (hge : W.heap.size ≤ B) :
  BlockAt (Wd.setCell ⟨X, 0, none⟩ v1) B cs T ∧ v1.ownBlock ≠ some B := by
 have hXW : X < W.heap.size := h.bx.lt
 have hc := hB.gr gc
 have hv : ∀ g, v.ownBlock = some g → g < W.heap.size := h.rowLt
 refine ⟨⟨?_⟩, fun e => ?_⟩
 ·rw [Below.heap_setCell Wd ⟨X, 0, none⟩ v1 B (show B ≠ X by omega), ha.gb.block B hc.lt (fun e => by have := hv B e.symm; omega)]
  exact hc.eq
 ·rcases ha.row B e with h4 | h4
  ·have := hv B h4
   omega
  ·have := hB.lt
   have := gc.below.size
   have := hc.lt
   omega
end
theorem run_storeX (X n1 c1 : Nat) (A1 : Option Addr) (v : Value) (Wd : World) (bxd : BlockAt Wd X #[v] 80) : (storeVar 80 ⟨X, 0, none⟩ (.slice A1 n1 c1)).run Tryz.prog Wd = .ok () (Wd.setCell ⟨X, 0, none⟩ (.slice A1 n1 c1)) := by
 have cxd : Wd.cell? ⟨X, 0, none⟩ = some v := (bc 0 bxd).trans rfl
 have fxd : Wd.frozen? ⟨X, 0, none⟩ = false := @block_frozen _ _ 0 _ _ bxd
 go_simp
theorem ansK_nn (d : Dev) (o : OpM) (most : Int) (hm : 0 ≤ most) (h9 : most ≤ 1073741824) : 0 ≤ (ansK d o most).1 ∧ (ansK d o most).1 ≤ 100 ∧ 0 ≤ (ansK d o most).2.1 ∧ (ansK d o most).2.1 ≤ 1073741824 := by
 have he : 0 ≤ errK d o ∧ errK d o ≤ 100 := by
  unfold errK
  repeat' split
  all_goals omega
 unfold ansK
 repeat' split
 all_goals simp only
 all_goals omega
theorem waysK_nn (d : Dev) (o : OpM) : ∀ a ∈ waysK d o, 0 ≤ a.1 ∧ a.1 ≤ 100 ∧ 0 ≤ a.2.1 ∧ a.2.1 ≤ 1073741824 := by
 intro a ha
 have h0 := ansK_nn d o 1024 (by omega) (by omega)
 have hl := waysK_len d o
 unfold waysK at ha hl
 rcases List.mem_cons.1 ha with rfl | ha
 ·exact h0
 ·split at ha
  ·simp at ha
  ·rename_i hn
   rw [if_neg hn] at hl
   split at ha
   ·rename_i h5
    rw [if_pos h5] at hl
    obtain ⟨k, hk, rfl⟩ := List.mem_map.1 ha
    have := List.mem_range.1 hk
    simp only [List.length_cons, List.length_map, List.length_range] at hl
    simp only
    omega
   ·rw [List.mem_singleton] at ha
    subst ha
    simp
def AddPost (w : World) (X S Bs Bm Ba : Nat) (Am : Option Addr) (nm cm : Nat) (may : List CallC) (W : World) (x : WrC) (out : List WrC) (seen' : List Byt) (outM : List WM) (e : Ending) (w' : World) : Prop :=
 ∃ v' new, e = .returned (.bool true) ∧ StA w X S Bs Bm Ba Am nm cm may seen' (out ++ new) v' w' ∧ (out ++ new).map WrC.p = outM ∧ KX X S W w' ∧ (∀ y ∈ new, y = x ∨ W.heap.size ≤ y.lo) ∧ (out ++ new).Pairwise Dj
abbrev wrV (x : WrC) : Array Value := #[.pointer (some ⟨x.D, 0, none⟩), .map (some x.M)]
structure Lp (w : World) (X S Bs Bm Ba : Nat) (Am : Option Addr) (nm cm : Nat) (may : List CallC) (W : World) (x : WrC) (out : List WrC) (sn : List Byt) (new : List WrC) (v : Value) (wr : World) : Prop where
 st : StA w X S Bs Bm Ba Am nm cm may sn (out ++ new) v wr
 kx : KX X S W wr
 nw : ∀ y ∈ new, y = x ∨ W.heap.size ≤ y.lo
 pw : (out ++ new).Pairwise Dj
 xm : x ∈ new
 bx : BlockAt wr W.heap.size (wrV x) 79
 br : v.ownBlock ≠ some W.heap.size
 xW : X < W.heap.size
section
variable {w W wr wr' : World} {X S Bs Bm Ba nm cm : Nat} {Am : Option Addr} {may : List CallC} {sn : List Byt} {out new : List WrC} {v : Value} {x : WrC}
theorem Lp.xp (h : Lp w X S Bs Bm Ba Am nm cm may W x out sn new v wr) : WrP wr x := (h.st.all x (List.mem_append_right _ h.xm)).1
theorem Lp.gr (h : Lp w X S Bs Bm Ba Am nm cm may W x out sn new v wr) (g : Gr wr wr') : Lp w X S Bs Bm Ba Am nm cm may W x out sn new v wr' :=
 ⟨h.st.grow g, h.kx.trans (KX.gr g h.st.bx.lt), h.nw, h.pw, h.xm, h.bx.gr g, h.br, h.xW⟩
theorem BlockAt.onlyK {q : IntKind} {W6 wg : World} {b : Nat} {L : List (Int × Value)} (hm : MapAt q wg b L) (ho : OnlyB wg W6 b) {B : Nat} {cs : Array Value} {T : TypeId} (hB : BlockAt wg B cs T) : BlockAt W6 B cs T := ⟨(ho.block (fun e => by
 subst e
 obtain ⟨es, clock, hb, _⟩ := hm
 rw [hB.eq] at hb
 cases hb)).trans hB.eq⟩
theorem OwnN.onlyK {α : Type} {e : EK α} {base : Nat} {u : Value} {xs : List α} {q : IntKind} {W6 wg : World} {b : Nat} {L : List (Int × Value)} (hm : MapAt q wg b L) (ho : OnlyB wg W6 b) (h : OwnN e base wg u xs) : OwnN e base W6 u xs := h.keep fun k hk => ho.block (fun e2 => by
 subst e2
 obtain ⟨cs, hh⟩ := h.cellsBlock k hk
 obtain ⟨es, clock, hb, _⟩ := hm
 rw [hh] at hb
 cases hb)
theorem Lp.turn {wg W6 : World} {M2 : Nat} {L : List (Int × Value)} (h : Lp w X S Bs Bm Ba Am nm cm may W x out sn new v wr) (g : Gr wr wg) (hm : MapAt .u64 wg M2 L) (ho : OnlyB wg W6 M2) (hM : wr.heap.size ≤ M2) : Lp w X S Bs Bm Ba Am nm cm may W x out sn new v W6 := by
 have h2 := h.gr g
 have hk := BK.onlyK hm ho
 have hsz := ho.2
 refine ⟨⟨BlockAt.onlyK hm ho h2.st.bx, OwnN.onlyK hm ho h2.st.own, h2.st.seen.keep (ho.block (by have := h.st.seen.lt; omega)), BlockAt.onlyK hm ho h2.st.bs, BlockAt.onlyK hm ho h2.st.bm, BlockAt.onlyK hm ho h2.st.ba, OwnN.onlyK hm ho h2.st.mr, ?_, h.st.wX, h.st.wS, fun y hy => ⟨?_, (h2.st.all y hy).2⟩⟩, ?_, h.nw, h.pw, h.xm, BlockAt.onlyK hm ho h2.bx, h.br, h.xW⟩
 ·exact Gr.of (ho.below (by have := h.st.gr.below.size; omega) hm.lt h2.st.gr.below)
 ·have hy0 := (h.st.all y hy).1
  exact (hy0.gr g).keep (fun b _ hb => ho.block (by have := hy0.hi; omega)) (by omega) hk
 ·exact h2.kx.new ho (by have := h.kx.size; omega) h.xW hk
theorem Lp.add {W6 w' : World} {x2 : WrC} {sn' : List Byt} {outM : List WM} {e : Ending} (h : Lp w X S Bs Bm Ba Am nm cm may W x out sn new v W6) (hB : W.heap.size < W6.heap.size) (hlo : W.heap.size ≤ x2.lo) (ha : AddPost w X S Bs Bm Ba Am nm cm may W6 x2 (out ++ new) sn' outM e w') :
  e = .returned (.bool true) ∧ ∃ v' new', Lp w X S Bs Bm Ba Am nm cm may W x out sn' new' v' w' ∧ (out ++ new').map WrC.p = outM ∧ KX X S W6 w' := by
 obtain ⟨v', n2, rfl, hst, hm, hk, hn, hp⟩ := ha
 rw [List.append_assoc] at hst hm hp
 refine ⟨rfl, v', new ++ n2, ⟨hst, h.kx.trans hk, fun y hy => ?_, hp, List.mem_append_left _ h.xm, hk.blockAt h.st.bx h.bx (h.st.neX h.bx (by decide)) (h.st.neS h.bx) h.br, fun e => ?_, h.xW⟩, hm, hk⟩
 ·rcases List.mem_append.1 hy with hy | hy
  ·exact h.nw y hy
  ·rcases hn y hy with rfl | h3
   ·exact .inr hlo
   ·exact .inr (by have := h.kx.size; omega)
 ·rcases hk.row W.heap.size (by rw [row_of hst.bx]; exact e) with h4 | h4
  ·rw [row_of h.st.bx] at h4
   exact h.br h4
  ·omega
end
theorem DevR.row {lo hi D B : Nat} {W : World} {d : Dev} {cs cs' : Array Value} (h : DevR lo hi W D d) (hB : BlockAt W B cs 79) : DevR lo hi (W.setRow B cs') D d := by
 obtain ⟨M, mb, h, h1, h2, h3⟩ := h
 have hm : ∀ (q : IntKind) (b : Nat) L, MapAt q W b L → MapAt q (W.setRow B cs') b L := fun q b L hm => hm.keep (setRow_other W B b cs' (fun e => by
  subst e
  obtain ⟨es, clock, hb, _⟩ := hm
  rw [hB.eq] at hb
  cases hb))
 refine ⟨M, mb, ⟨⟨(setRow_other W B D cs' (fun e => ?_)).trans h.blk.eq⟩, hm _ _ _ h.all, fun p hp => hm _ _ _ (h.vol p hp), h.inj, h.ne, h.bD, h.bM, h.bV, h.ok⟩, h1, h2, h3⟩
 subst e
 have := h.blk.eq
 rw [hB.eq] at this
 exact absurd (Obj.cells.inj (Option.some.inj this)).2.1 (by decide)
theorem MapAt.rowK {q : IntKind} {B b : Nat} {W : World} {L : List (Int × Value)} {cs cs' : Array Value} {T : TypeId} (hm : MapAt q W b L) (hB : BlockAt W B cs T) : MapAt q (W.setRow B cs') b L := hm.keep (setRow_other W B b cs' (fun e => by
 subst e
 obtain ⟨es, clock, hb, _⟩ := hm
 rw [hB.eq] at hb
 cases hb))
theorem DevR.gr {lo hi D : Nat} {W W' : World} {d : Dev} (h : DevR lo hi W D d) (g : Gr W W') : DevR lo hi W' D d := by
 obtain ⟨M, mb, h, h1, h2, h3⟩ := h
 exact ⟨M, mb, h.gr g, h1, h2, h3⟩
theorem wrP_next {W10 W11 : World} {x : WrC} {lo mid M2 D2 : Nat} {dz : Dev} {num : Int} {a : AnsC} (hd : DevR lo mid W10 D2 dz) (hm : MapAt .u64 W10 M2 (encA x.as_)) (h1 : MapAt .u64 W11 M2 (putK (encA x.as_) num (ansV a))) (h2 : OnlyB W10 W11 M2) (hlm : lo ≤ mid) (hmM : mid ≤ M2) (hx : WrP W10 x)
  (ha : AnsOk 0 W10 a) (hn : AnsN (num, a)) : WrP W11 ⟨D2, M2, lo, mid, M2 + 1, dz, putK x.as_ num a⟩ := by
 have hs : SortK x.as_ := by
  have := hm.sort
  have h3 := List.pairwise_map.1 this
  exact h3
 have hk := BK.onlyK hm h2
 refine ⟨hd.keep fun b _ hb => h2.block (by omega), ?_, hmM, Nat.lt_succ_self _, h1.lt, hlm, fun p hp => ?_, fun p hp => ?_⟩
 ·rw [show encA (putK x.as_ num a) = putK (encA x.as_) num (ansV a) from (putK_enc ansV x.as_ num a).symm]
  exact h1
 ·rcases (mem_putK hs p).1 hp with rfl | ⟨hp, _⟩
  ·exact ha.bk hk
  ·exact (hx.ans p hp).bk hk
 ·rcases (mem_putK hs p).1 hp with rfl | ⟨hp, _⟩
  ·exact hn
  ·exact hx.num p hp
theorem wp_storeCall {W0 W : World} {ops : Array Oper} {rest : List Oper} {o : Oper} {a : Act} {Q : Exit → Act → World → Prop} (hgd : o.guard = none) (x y : Operand) (ho : o.op = .store 51 x y) (B : Nat) (c : CallC) (zs : Array Value) (hx : a.eval x = .pointer (some ⟨B, 0, none⟩)) (hy : a.eval y = .agg (callL c).toArray) (hB : BlockAt W B zs 51) (hz : zs.size = 18) (g0 : Gr W0 W) (hle : W0.heap.size ≤ B)
  (h : ∀ W7, Gr W0 W7 → BlockAt W7 B (callL c).toArray 51 → wpList Tryz.prog ops Q rest (a.put o.dst undef) W7) : wpList Tryz.prog ops Q (o :: rest) a W :=
 wpList_storeRow hgd _ x y ho B zs (callL c).toArray hx hy hB (by kernel_rfl) (by rw [hz]; rfl) (fun u hu => callIs.one c trivial u (by simpa [callE] using hu))
  (h _ (Gr.of (below_row g0.below hle _)) (blockAt_row (h := hB) _ _ _ _ _))
end Go.Proofs.YtddckdhnolmjoaaGreat
