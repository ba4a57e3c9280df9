/- The reference's device: refused. Conditions: the device stands in memory; at most 10^6 volumes, .. -/
import Derived.Test.YtddckdhnolmjoaaGreatW07
import Derived.Great.BuildSlice
import Derived.Test.YtddckdhnolmjoaaGreatW03
import Derived.Test.YtddckdhnolmjoaaGreatW02
set_option linter.unusedVariables false
set_option linter.unusedSimpArgs false
set_option linter.unnecessarySimpa false
set_option maxRecDepth 100000
set_option maxHeartbeats 8000000
namespace Go.Proofs.YtddckdhnolmjoaaGreat
open Go.RowKit
theorem idx_get {d : Dev} {v : Int} {x : VolM} (h : getK d v = some x) : ∃ i : Nat, idxK d v = i ∧ d[i]? = some (v, x) ∧ i < d.length := by
 cases hf : findN d v with
 | none => rw [findN_none, h] at hf; cases hf
 | some i =>
  obtain ⟨y, h1, h2⟩ := findN_some hf
  rw [h] at h2
  cases h2
  exact ⟨i, idx_some hf, h1, (List.getElem?_eq_some_iff.1 h1).1⟩
theorem idx_no {d : Dev} {v : Int} (h : getK d v = none) : idxK d v = -1 := idx_none (findN_none.2 h)
theorem idx_sign (d : Dev) (v : Int) : decide (0 ≤ idxK d v) = (getK d v).isSome := by
 cases h : getK d v with
 | none => rw [idx_no h]; rfl
 | some x => obtain ⟨i, hi, _⟩ := idx_get h; rw [hi]; simp
theorem rrefused_any (xk xv xt xs xa xc : Int) (xD : Option Addr) (xn xq : Nat) (lx : Byt) (hxn : lx.length = xn) (base R : Nat) (d : Dev) (w : World) (h : RefAt base w R d) (hl : d.length ≤ 1000000) (hn : xn ≤ 1000000) (v0 : 0 ≤ xv) (t0 : 0 ≤ xt) :
  Calls Tryz.prog 45 #[.pointer (some ⟨R, 0, none⟩), .agg #[.int .i64 xk, .int .u64 xv, .int .u64 xt, .int .i64 xs, .int .i64 xa, .int .i64 xc, .slice xD xn xq]] w fun e w' => e = .returned (.int .i64 (errK d ⟨xk, xv, xt, xs, xa, xc, lx⟩)) ∧ Gr w w' := by
 have hok : DevOk d := by obtain ⟨v, vf, h⟩ := h; exact h.ok
 have HM := hd_ (fun W => may13_any xk xv xt xs xa xc xD xn xq lx W hxn (by omega) v0 t0)
 have HF := hd_ (fun W (g : Gr w W) => rfind_any base R d xv W (h.gr g) hl)
 have HT := hd_ (fun W (g : Gr w W) => rfind_any base R d xt W (h.gr g) hl)
 have HH := hd_ h
 have eS := idx_sign d xt
 clear h
 cases hm : mayOpB xk xv xt xs xa xc xn lx with
 | false =>
  have he : errK d ⟨xk, xv, xt, xs, xa, xc, lx⟩ = 2 := by rw [errK, if_pos (by show mayOpB _ _ _ _ _ _ lx.length lx = false; rw [hxn]; exact hm)]
  rw [he]
  rw [hm] at HM
  have HE := hd_ hm
  clear hm
  go_enter Tryz.func45, Tryz.ntmps45
  go_wp2_with ((go_at_call 79; ((with_reducible refine (HM.out _).mono ?_); rintro _ _ ⟨rfl, g1, rfl⟩)))
  go_ret
  exact ⟨rfl, gri⟩
 | true =>
  have hmm : OpM.may ⟨xk, xv, xt, xs, xa, xc, lx⟩ = true := by show mayOpB _ _ _ _ _ _ lx.length lx = true; rw [hxn]; exact hm
  have hs := may_s hmm
  have hk9 := may_kind hmm
  simp only at hk9
  rw [hm] at HM
  have hE0 : errK d ⟨xk, xv, xt, xs, xa, xc, lx⟩ = if xk = 8 then 0 else match getK d xv with
   | none => if xk = 1 then 0 else 6
   | some x => if xk = 1 then 7 else if xk = 4 then (if (getK d xt).isSome then 7 else 0) else if xk = 5 then (if 4 * x.1 < xa + (xn / 64 : Nat) then 5 else 0)
    else if xk = 6 ∨ xk = 9 then (if 4 * x.1 < xa + xc then 5 else 0) else if xk = 7 then (if x.1 < xa + xc then 5 else 0) else 0 := by
   rw [errK, if_neg (by rw [hmm]; simp)]
   simp only [hxn]
   cases getK d xv <;> rfl
  obtain ⟨r, hr⟩ : ∃ r, r = errK d ⟨xk, xv, xt, xs, xa, xc, lx⟩ := ⟨_, rfl⟩
  rw [← hr]
  rw [hE0] at hr
  have h9 : xk = 1 ∨ xk = 2 ∨ xk = 3 ∨ xk = 4 ∨ xk = 5 ∨ xk = 6 ∨ xk = 7 ∨ xk = 8 ∨ xk = 9 := by omega
  have hat : xk = 5 ∨ xk = 6 ∨ xk = 7 ∨ xk = 9 → 0 ≤ xa ∧ xa ≤ 1048576 := hs.at_
  have hct : xk = 6 ∨ xk = 7 ∨ xk = 9 → 1 ≤ xc ∧ xc ≤ 1024 := hs.cnt
  clear hE0 hk9 hmm hs hm hxn
  cases hg : getK d xv with
  | none =>
   rw [idx_no hg] at HF
   rw [hg] at hr
   simp only at hr
   have HRR := hd_ hr
   clear hg eS HT hr
   rcases h9 with rfl | rfl | rfl | rfl | rfl | rfl | rfl | rfl | rfl
   all_goals
    clear hat hct
    go_enter Tryz.func45, Tryz.ntmps45
    go_wp2_with (((first | (go_at_call 79; with_reducible refine (HM.out _).mono ?_) | (go_at_call 46; with_reducible refine (HF.out _ gri).mono ?_)); rintro _ _ ⟨rfl, g1, rfl⟩))
    go_ret
    exact ⟨by have h9 := HRR.out; simp at h9; rw [h9]; rfl, gri⟩
  | some x =>
   obtain ⟨i, hi, hdi, hil⟩ := idx_get hg
   rw [hi] at HF
   rw [hg] at hr
   simp only at hr
   obtain ⟨v, vf, hH⟩ := HH.out
   obtain ⟨g, c, rfl, hbg, hgl, hne, hc1, hc2, _, hcl⟩ := hH.form (by rintro rfl; simp at hil)
   obtain ⟨c0, c1, c2⟩ := hcl i _ hdi
   simp only at c0 c1 c2
   rw [Nat.add_zero] at c0
   have hx := hok.vols _ (List.mem_of_getElem? hdi)
   have hx0 : 0 ≤ x.1 := hx.s0
   have hx1 : x.1 ≤ 256 := hx.s1
   have x0 : w.cell? ⟨R, 0, none⟩ = some (.slice (some ⟨g, 0, none⟩) d.length c) := (bc 0 hH.blk).trans rfl
   haveI : Old R w := hH.blk.old
   haveI : Old g w := ⟨hgl⟩
   have HI := hd_ hi
   clear hcl hdi hg hi hH hx c0 c2 hok
   generalize d.length = N at *
   generalize x.1 = S at *
   have HRR := hd_ hr
   clear hr
   rcases h9 with rfl | rfl | rfl | rfl | rfl | rfl | rfl | rfl | rfl
   ·clear HH eS
    clear hat hct HT
    go_enter Tryz.func45, Tryz.ntmps45
    go_wp2_with (((first | (go_at_call 79; with_reducible refine (HM.out _).mono ?_) | (go_at_call 46; with_reducible refine (HF.out _ gri).mono ?_)); rintro _ _ ⟨rfl, g1, rfl⟩))
    go_ret
    exact ⟨by have h9 := HRR.out; simp at h9; rw [h9]; rfl, gri⟩
   ·clear HH eS
    clear hat hct HT
    go_enter Tryz.func45, Tryz.ntmps45
    go_wp2_with (((first | (go_at_call 79; with_reducible refine (HM.out _).mono ?_) | (go_at_call 46; with_reducible refine (HF.out _ gri).mono ?_)); rintro _ _ ⟨rfl, g1, rfl⟩))
    go_ret
    exact ⟨by have h9 := HRR.out; simp at h9; rw [h9]; rfl, gri⟩
   ·clear HH eS
    clear hat hct HT
    go_enter Tryz.func45, Tryz.ntmps45
    go_wp2_with (((first | (go_at_call 79; with_reducible refine (HM.out _).mono ?_) | (go_at_call 46; with_reducible refine (HF.out _ gri).mono ?_)); rintro _ _ ⟨rfl, g1, rfl⟩))
    go_ret
    exact ⟨by have h9 := HRR.out; simp at h9; rw [h9]; rfl, gri⟩
   ·clear HH
    clear hat hct
    cases hg2 : getK d xt with
    | none =>
     rw [idx_no hg2] at HT
     have HG2 := hd_ hg2
     clear hg2 eS
     go_enter Tryz.func45, Tryz.ntmps45
     go_wp2_with (first | ((first | (go_at_call 79; with_reducible refine (HM.out _).mono ?_) | (go_at_call 46; with_reducible refine (HF.out _ gri).mono ?_)); rintro _ _ ⟨rfl, g1, rfl⟩) | (go_at_call 46; ((with_reducible refine (HT.out _ gri).mono ?_); rintro _ _ ⟨rfl, g2, rfl⟩)))
     go_ret
     exact ⟨by have h9 := HRR.out; simp [HG2.out] at h9; rw [h9]; rfl, gri⟩
    | some y =>
     obtain ⟨i2, hi2, _, _⟩ := idx_get hg2
     rw [hi2] at HT
     have HG2 := hd_ hg2
     clear hg2 eS hi2
     go_enter Tryz.func45, Tryz.ntmps45
     go_wp2_with (first | ((first | (go_at_call 79; with_reducible refine (HM.out _).mono ?_) | (go_at_call 46; with_reducible refine (HF.out _ gri).mono ?_)); rintro _ _ ⟨rfl, g1, rfl⟩) | (go_at_call 46; ((with_reducible refine (HT.out _ gri).mono ?_); rintro _ _ ⟨rfl, g2, rfl⟩)))
     go_ret
     exact ⟨by have h9 := HRR.out; simp [HG2.out] at h9; rw [h9]; rfl, gri⟩
   ·clear HH eS
    have ha := hat (by simp)
    clear hat hct HT
    have e5 : ((xn / 64 : Nat) : Int) = (xn : Int) / 64 := by omega
    by_cases hfit : 4 * S < xa + (xn : Int) / 64
    ·have HV := hd_ (show 4 * S < xa + ((xn / 64 : Nat) : Int) from by omega)
     have d1 : decide (4 * S < xa + (xn : Int) / 64) = true := decide_eq_true hfit
     clear hfit
     go_enter Tryz.func45, Tryz.ntmps45
     go_wp2_with (((first | (go_at_call 79; with_reducible refine (HM.out _).mono ?_) | (go_at_call 46; with_reducible refine (HF.out _ gri).mono ?_)); rintro _ _ ⟨rfl, g1, rfl⟩))
     go_ret
     exact ⟨by have h9 := HRR.out; simp only [reduceIte, Int.reduceEq, true_or, or_true, or_false, false_or] at h9; rw [if_pos HV.out] at h9; rw [h9]; rfl, gri⟩
    ·have HV := hd_ (show ¬ 4 * S < xa + ((xn / 64 : Nat) : Int) from by omega)
     have d1 : decide (4 * S < xa + (xn : Int) / 64) = false := decide_eq_false hfit
     clear hfit
     go_enter Tryz.func45, Tryz.ntmps45
     go_wp2_with (((first | (go_at_call 79; with_reducible refine (HM.out _).mono ?_) | (go_at_call 46; with_reducible refine (HF.out _ gri).mono ?_)); rintro _ _ ⟨rfl, g1, rfl⟩))
     go_ret
     exact ⟨by have h9 := HRR.out; simp only [reduceIte, Int.reduceEq, true_or, or_true, or_false, false_or] at h9; rw [if_neg (Int.not_lt.2 HV.out)] at h9; rw [h9]; rfl, gri⟩
   ·clear HH eS
    have ha := hat (by simp)
    have hc := hct (by simp)
    clear hat hct HT
    by_cases hfit : 4 * S < xa + xc
    ·have HV := hd_ (show 4 * S < xa + xc from by omega)
     have d1 : decide (4 * S < xa + xc) = true := decide_eq_true hfit
     clear hfit
     go_enter Tryz.func45, Tryz.ntmps45
     go_wp2_with (((first | (go_at_call 79; with_reducible refine (HM.out _).mono ?_) | (go_at_call 46; with_reducible refine (HF.out _ gri).mono ?_)); rintro _ _ ⟨rfl, g1, rfl⟩))
     go_ret
     exact ⟨by have h9 := HRR.out; simp only [reduceIte, Int.reduceEq, true_or, or_true, or_false, false_or] at h9; rw [if_pos HV.out] at h9; rw [h9]; rfl, gri⟩
    ·have HV := hd_ (show ¬ 4 * S < xa + xc from by omega)
     have d1 : decide (4 * S < xa + xc) = false := decide_eq_false hfit
     clear hfit
     go_enter Tryz.func45, Tryz.ntmps45
     go_wp2_with (((first | (go_at_call 79; with_reducible refine (HM.out _).mono ?_) | (go_at_call 46; with_reducible refine (HF.out _ gri).mono ?_)); rintro _ _ ⟨rfl, g1, rfl⟩))
     go_ret
     exact ⟨by have h9 := HRR.out; simp only [reduceIte, Int.reduceEq, true_or, or_true, or_false, false_or] at h9; rw [if_neg (Int.not_lt.2 HV.out)] at h9; rw [h9]; rfl, gri⟩
   ·clear HH eS
    have ha := hat (by simp)
    have hc := hct (by simp)
    clear hat hct HT
    by_cases hfit : S < xa + xc
    ·have HV := hd_ (show S < xa + xc from by omega)
     have d1 : decide (S < xa + xc) = true := decide_eq_true hfit
     clear hfit
     go_enter Tryz.func45, Tryz.ntmps45
     go_wp2_with (((first | (go_at_call 79; with_reducible refine (HM.out _).mono ?_) | (go_at_call 46; with_reducible refine (HF.out _ gri).mono ?_)); rintro _ _ ⟨rfl, g1, rfl⟩))
     go_ret
     exact ⟨by have h9 := HRR.out; simp only [reduceIte, Int.reduceEq, true_or, or_true, or_false, false_or] at h9; rw [if_pos HV.out] at h9; rw [h9]; rfl, gri⟩
    ·have HV := hd_ (show ¬ S < xa + xc from by omega)
     have d1 : decide (S < xa + xc) = false := decide_eq_false hfit
     clear hfit
     go_enter Tryz.func45, Tryz.ntmps45
     go_wp2_with (((first | (go_at_call 79; with_reducible refine (HM.out _).mono ?_) | (go_at_call 46; with_reducible refine (HF.out _ gri).mono ?_)); rintro _ _ ⟨rfl, g1, rfl⟩))
     go_ret
     exact ⟨by have h9 := HRR.out; simp only [reduceIte, Int.reduceEq, true_or, or_true, or_false, false_or] at h9; rw [if_neg (Int.not_lt.2 HV.out)] at h9; rw [h9]; rfl, gri⟩
   ·clear HH eS
    clear hat hct HT
    go_enter Tryz.func45, Tryz.ntmps45
    go_wp2_with (((first | (go_at_call 79; with_reducible refine (HM.out _).mono ?_) | (go_at_call 46; with_reducible refine (HF.out _ gri).mono ?_)); rintro _ _ ⟨rfl, g1, rfl⟩))
    go_ret
    exact ⟨by have h9 := HRR.out; simp at h9; rw [h9]; rfl, gri⟩
   ·clear HH eS
    have ha := hat (by simp)
    have hc := hct (by simp)
    clear hat hct HT
    by_cases hfit : 4 * S < xa + xc
    ·have HV := hd_ (show 4 * S < xa + xc from by omega)
     have d1 : decide (4 * S < xa + xc) = true := decide_eq_true hfit
     clear hfit
     go_enter Tryz.func45, Tryz.ntmps45
     go_wp2_with (((first | (go_at_call 79; with_reducible refine (HM.out _).mono ?_) | (go_at_call 46; with_reducible refine (HF.out _ gri).mono ?_)); rintro _ _ ⟨rfl, g1, rfl⟩))
     go_ret
     exact ⟨by have h9 := HRR.out; simp only [reduceIte, Int.reduceEq, true_or, or_true, or_false, false_or] at h9; rw [if_pos HV.out] at h9; rw [h9]; rfl, gri⟩
    ·have HV := hd_ (show ¬ 4 * S < xa + xc from by omega)
     have d1 : decide (4 * S < xa + xc) = false := decide_eq_false hfit
     clear hfit
     go_enter Tryz.func45, Tryz.ntmps45
     go_wp2_with (((first | (go_at_call 79; with_reducible refine (HM.out _).mono ?_) | (go_at_call 46; with_reducible refine (HF.out _ gri).mono ?_)); rintro _ _ ⟨rfl, g1, rfl⟩))
     go_ret
     exact ⟨by have h9 := HRR.out; simp only [reduceIte, Int.reduceEq, true_or, or_true, or_false, false_or] at h9; rw [if_neg (Int.not_lt.2 HV.out)] at h9; rw [h9]; rfl, gri⟩
theorem fold_row : ∀ (cs : List Value) (off k : Nat) (a : Array Value), off + k + cs.length ≤ a.size → (cs.zipIdx k).foldl (fun (a : Array Value) (x : Value × Nat) => a.setIfInBounds (off + x.2) x.1) a = (a.toList.take (off + k) ++ cs ++ a.toList.drop (off + k + cs.length)).toArray
 | [], off, k, a, h => by simp
 | c :: cs, off, k, a, h => by
  rw [List.zipIdx_cons, List.foldl_cons, fold_row cs off (k + 1) _ (by simp at h ⊢; omega)]
  congr 1
  simp only [Array.toList_setIfInBounds, List.length_cons]
  simp at h
  have h1 : off + k < a.toList.length := by simp; omega
  rw [show off + (k + 1) = off + k + 1 by omega, List.take_set, List.drop_set_of_lt (by omega), show off + k + (cs.length + 1) = off + k + 1 + cs.length by omega]
  rw [List.take_add_one, List.getElem?_eq_getElem h1]
  rw [List.set_append_right _ _ (by simp; omega)]
  have : off + k - (a.toList.take (off + k)).length = 0 := by simp; omega
  rw [this]
  simp
theorem fold_rowA (cs a : Array Value) (off : Nat) (h : off + cs.size ≤ a.size) : cs.zipIdx.foldl (fun (a : Array Value) (x : Value × Nat) => a.setIfInBounds (off + x.2) x.1) a = (a.toList.take off ++ cs.toList ++ a.toList.drop (off + cs.size)).toArray := by
 have := fold_row cs.toList off 0 a (by simpa using h)
 simp only [Nat.add_zero, Array.length_toList] at this
 rw [← this, ← Array.foldl_toList, Array.toList_zipIdx]
def blkA (p : Int × Byt) : Array Value := (rbE.cs p).toArray
theorem blkA_size {p : Int × Byt} (h : p.2.length = 256) : (blkA p).size = 257 := by simp [blkA, rbE, h]
theorem builtBlk (parts : List (Nat × Value)) : Tryz.prog.built 159 parts = Instr.fill (fun i => #[(0, 1), (1, 256)][i]?) (#[.int .i64 0] ++ Tryz.zeroCells66) parts := by kernel_rfl
theorem buildBlk (n : Int) (B : Byt) (h : B.length = 256) (W : World) : (Instr.build 159 #[(0, .int .i64 n), (1, .agg (bkC B))]).run Tryz.prog W = .ok (.agg (blkA (n, B))) W := by
 have hb : (bkC B).size = 256 := by rw [bkC_size, h]
 have hz : (Tryz.zeroCells66).size = 256 := by kernel_rfl
 refine run_build W _ _ _ ?_
 rw [show (#[(0, Value.int .i64 n), (1, Value.agg (bkC B))] : Array (Nat × Value)).toList = [(0, .int .i64 n), (1, .agg (bkC B))] from rfl, builtBlk]
 generalize Tryz.zeroCells66 = z at *
 have e1 : (Value.int .i64 n).cells = #[.int .i64 n] := rfl
 have e2 : (Value.agg (bkC B)).cells = bkC B := rfl
 have f1 : (#[Value.int .i64 n] : Array Value).zipIdx.foldl (fun (cs : Array Value) (x : Value × Nat) => cs.setIfInBounds (0 + x.2) x.1) (#[.int .i64 0] ++ z) = #[.int .i64 n] ++ z := by
  rw [fold_rowA _ _ _ (by simp)]
  simp
 have f2 := fold_rowA (bkC B) (#[.int .i64 n] ++ z) 1 (by simp [hb, hz])
 have f3 : ((#[Value.int .i64 n] ++ z).toList.take 1 ++ (bkC B).toList ++ (#[Value.int .i64 n] ++ z).toList.drop (1 + (bkC B).size)).toArray = blkA (n, B) := by
  have : (#[Value.int .i64 n] ++ z).toList.drop (1 + (bkC B).size) = [] := List.drop_eq_nil_of_le (by simp [hb, hz])
  rw [this]
  simp [blkA, rbE, bkC]
 rw [f3] at f2
 simp only [Instr.fill, e1, e2]
 simp only [List.getElem?_toArray, List.getElem?_cons_zero, List.getElem?_cons_succ]
 rw [f1, f2]
 simp [hb, hz]
theorem build1B (p : Int × Byt) (h : p.2.length = 256) (W : World) : (Instr.buildSlice 100 1 #[(0, .agg (blkA p))]).run Tryz.prog W = .ok (.slice (some ⟨W.heap.size, 0, none⟩) 1 1) (W.alloc (.cells (blkA p) 159)) := by
 obtain ⟨i0, hi, hz0, hz2, hz3⟩ := info_parts rbIs.hE
 have hs := blkA_size h
 have hk : i0.size = 257 := hz2
 refine run_buildSlice W _ _ 1 _ (blkA p) i0 rbE.z rbIs.hT hi hz0 (by rw [hk]; decide) (by rw [hk]; decide) ?_
 rw [show (#[(0, Value.agg (blkA p))] : Array (Nat × Value)).toList = [(0, .agg (blkA p))] from rfl]
 generalize hzz : (Array.range (1 * i0.size)).map (rbE.z.cells[· % rbE.z.cells.size]!) = zz
 have hzs : zz.size = 257 := by rw [← hzz]; simp [hk]
 have e2 : (Value.agg (blkA p)).cells = blkA p := rfl
 have f := fold_rowA (blkA p) zz 0 (by omega)
 have f3 : (zz.toList.take 0 ++ (blkA p).toList ++ zz.toList.drop (0 + (blkA p).size)).toArray = blkA p := by
  have : zz.toList.drop (0 + (blkA p).size) = [] := List.drop_eq_nil_of_le (by simp [hs, hzs])
  rw [this]
  simp
 rw [f3] at f
 simp only [Instr.fill, e2, Nat.zero_mul]
 rw [f]
 simp [hs, hzs, hk]
section
variable {W : World} {ops : Array Oper} {rest : List Oper} {o : Oper} {a : Act} {Q : Exit → Act → World → Prop}
theorem wpLoadBlk (hgd : o.guard = none) (x : Operand) (ho : o.op = .load 159 x) (b q k : Nat) (m : List (Int × Byt)) (p : Int × Byt) (hx : a.eval x = .pointer (some ⟨b, q + k * 257, none⟩)) (hm : CellsN rbE W b q m) (hp : m[k]? = some p) (h256 : p.2.length = 256)
  (h : wpList Tryz.prog ops Q rest (a.put o.dst (.agg (blkA p))) W) : wpList Tryz.prog ops Q (o :: rest) a W :=
 wpLoadCs hgd _ x ho ⟨b, q + k * 257, none⟩ (rbE.cs p) _ hx Tryz.underlying159 rfl (by rw [rbIs.len p h256]; kernel_rfl) (fun j v hj => by rw [Go.WideShapes.add_plain]; exact hm k p hp j v hj) h
theorem wpBuildBlk (hgd : o.guard = none) (x y : Operand) (ho : o.op = .build 159 #[(0, x), (1, y)]) (n : Int) (B : Byt) (h256 : B.length = 256) (hx : a.eval x = .int .i64 n) (hy : a.eval y = .agg (bkC B))
  (h : wpList Tryz.prog ops Q rest (a.put o.dst (.agg (blkA (n, B)))) W) : wpList Tryz.prog ops Q (o :: rest) a W := by
 refine wpList_plain hgd fun K' hK' => ?_
 have hrun := buildBlk n B h256 W
 unfold Oper.wp execOp
 simp only [ho, List.map_toArray, List.map_cons, List.map_nil, hx, hy, Sem.run_bind, hrun, Result.andThen_ok]
 exact hK' _ _ h
theorem wpBuild1 (hgd : o.guard = none) (x : Operand) (ho : o.op = .buildSlice 100 1 #[(0, x)]) (p : Int × Byt) (h256 : p.2.length = 256) (hx : a.eval x = .agg (blkA p))
  (h : wpList Tryz.prog ops Q rest (a.put o.dst (.slice (some ⟨W.heap.size, 0, none⟩) 1 1)) (W.alloc (.cells (blkA p) 159))) : wpList Tryz.prog ops Q (o :: rest) a W := by
 refine wpList_plain hgd fun K' hK' => ?_
 have hrun := build1B p h256 W
 unfold Oper.wp execOp
 simp only [ho, List.map_toArray, List.map_cons, List.map_nil, hx, Sem.run_bind, hrun, Result.andThen_ok]
 exact hK' _ _ h
end
def StM (w : World) (g q : Nat) (m : List (Int × Byt)) (e : Ending) (w' : World) : Prop :=
 e = .returned (.tuple #[]) ∧ ∃ w1 u, Gr w w1 ∧ OwnN rbE w.heap.size w1 u m ∧ w' = w1.setCell ⟨g, q, none⟩ u
theorem set_lo {m : List (Int × Byt)} {n : Int} {B : Byt} {k : Nat} {p : Int × Byt} (hl : ∀ x ∈ m.take k, x.1 < n) (hp : m[k]? = some p) (h : n < p.1) : putK (m.take (k + 1)) n B = m.take k ++ [(n, B)] ++ [p] := by
 rw [List.take_add_one, hp, Option.toList_some, putK_low hl]
 obtain ⟨a, x⟩ := p
 simp only at h
 simp [putK, h]
theorem set_eq {m : List (Int × Byt)} {n : Int} {B : Byt} {k : Nat} {p : Int × Byt} (hl : ∀ x ∈ m.take k, x.1 < n) (hp : m[k]? = some p) (h : p.1 = n) : putK (m.take (k + 1)) n B = m.take k ++ [(n, B)] := by
 rw [List.take_add_one, hp, Option.toList_some, putK_low hl]
 obtain ⟨a, x⟩ := p
 simp only at h
 simp [putK, h]
theorem set_hi {m : List (Int × Byt)} {n : Int} {B : Byt} {k : Nat} {p : Int × Byt} (hl : ∃ x ∈ m.take k, n ≤ x.1) (hp : m[k]? = some p) : putK (m.take (k + 1)) n B = putK (m.take k) n B ++ [p] := by
 rw [List.take_add_one, hp, Option.toList_some, putK_high hl]
theorem set_end {m : List (Int × Byt)} {n : Int} {B : Byt} (hl : ∀ x ∈ m, x.1 < n) : putK m n B = m ++ [(n, B)] := by
 have := putK_low (r := []) (x := B) hl
 rwa [List.append_nil] at this
theorem putK_len (m : List (Int × Byt)) (n : Int) (B : Byt) : (putK m n B).length ≤ m.length + 1 := by
 induction m with
 | nil => simp [putK]
 | cons p r ih =>
  obtain ⟨a, x⟩ := p
  unfold putK
  split
  ·simp
  split
  ·simp
  ·simp; exact ih
theorem one_block {W : World} {B : Nat} (b : Int × Byt) (h : BlockAt W B (blkA b) 159) : CellsN rbE W B 0 [b] := CellsN.block b h (by simp [blkA])
theorem gr_frozen {w W : World} {g o : Nat} (hg : Gr w W) (hl : g < w.heap.size) (h : w.frozen? ⟨g, o, none⟩ = false) : W.frozen? ⟨g, o, none⟩ = false := by
 have := hg.below.block g hl
 unfold World.frozen? at h ⊢
 simp only [this]
 exact h
theorem rowCells {W : World} {b o : Nat} {m : List (Int × Byt)} {p : Int × Byt} (h : RowN rbE W (some ⟨b, o, none⟩) m) (hp : p ∈ m) : CellsN rbE W b o m := by
 obtain ⟨b', o', e, _, hc⟩ := h.at_ (by rintro rfl; cases hp)
 cases e
 exact hc
theorem take_has {m : List (Int × Byt)} {k : Nat} {p : Int × Byt} (h : m[k]? = some p) : p ∈ m.take (k + 1) := by
 rw [List.take_add_one, h]
 simp
theorem rset_any (g q : Nat) (v : Value) (m : List (Int × Byt)) (n : Int) (B : Byt) (hB : B.length = 256) (w : World) (hc : w.cell? ⟨g, q + 2, none⟩ = some v) (hfz : w.frozen? ⟨g, q + 2, none⟩ = false) (hm : BlkS w v m) (hs : SortK m) (hl : m.length ≤ 1000) : Calls Tryz.prog 52 #[.pointer (some ⟨g, q, none⟩), .int .i64 n, .agg (bkC B)] w (StM w g (q + 2) (putK m n B)) := by
 obtain ⟨A, c, hv, hc1, hc2, _, hr⟩ := hm.row
 obtain ⟨N, hN⟩ : ∃ N : Nat, N = m.length := ⟨_, rfl⟩
 rw [← hN] at hv hc1 hl
 subst hv
 have HN := hd_ hN
 have HR := hd_ hr
 haveI : Old g w := old_of_cell hc
 have HC := hd_ hc
 have HFZ := hd_ hfz
 haveI := bkC_row hB
 have HS := hd_ hs
 clear hr hc hm hs hN hfz
 go_enter Tryz.func52, Tryz.ntmps52
 go_wp2
 go_loopw [6, 7, 8] (fun v b i wr => ∃ (k : Nat) (put : Bool) (L : List (Int × Byt)), k ≤ N ∧ i = .int .i64 k ∧ b = .bool put ∧ ((put = true → (∃ x ∈ m.take k, n ≤ x.1) ∧ L = putK (m.take k) n B) ∧ (put = false → (∀ x ∈ m.take k, x.1 < n) ∧ L = m.take k)) ∧ OwnN rbE w.heap.size wr v L ∧ BlockAt wr w.heap.size (bkC B) 66 ∧ Gr w wr) (fun _ _ i _ => N - (intOf i).toNat)
 case atStart => exact ⟨0, false, [], Nat.zero_le _, rfl, rfl, by simp, OwnN.nil _ _, inferInstance, gri⟩
 case round =>
  obtain ⟨k, put, L, hk, rfl, rfl, hput, hown, hbk, hg⟩ := hrel
  have y0 : wr.cell? ⟨g, q + 2, none⟩ = some (.slice A N c) := (hg.below.cell (p := ⟨g, q + 2, none⟩) (old_of_cell HC.out).lt).trans HC.out
  have y1 : wr.frozen? ⟨g, q + 2, none⟩ = false := gr_frozen hg (old_of_cell HC.out).lt HFZ.out
  haveI : Old g wr := old_of_cell y0
  haveI := hbk
  haveI := grc_of hg
  haveI := from_of hg
  have HO := hd_ hown
  have HP0 := hd_ hput
  have HLn : L.length ≤ N + 1 := by
   cases put
   ·rw [(hput.2 rfl).2, HN.out]; simp; omega
   ·rw [(hput.1 rfl).2]; have := putK_len (m.take k) n B; have := List.length_take_le k m; rw [HN.out]; simp at *; omega
  clear hown hput
  by_cases hlt : k < N
  ·obtain ⟨p, hp⟩ : ∃ p, m[k]? = some p := ⟨_, List.getElem?_eq_getElem (by rw [← HN.out]; exact hlt)⟩
   obtain ⟨b, o, rfl, hbl, hcl⟩ := (HR.out.gr hg).at_ (by rintro rfl; have := HN.out; simp at this; omega)
   have c0 := (cells_blk hcl hp).1
   have h256 : p.2.length = 256 := HR.out.ok p (List.mem_of_getElem? hp)
   haveI : Old b wr := ⟨hbl⟩
   have HP := hd_ hp
   have HG := hd_ hg
   have HCL := hd_ hcl
   clear hcl hp hg
   cases put with
   | true =>
    obtain ⟨hex, hL⟩ := HP0.out.1 rfl
    have hne : ¬ p.1 = n := fun e => by
     obtain ⟨x, hx, hle⟩ := hex
     have := sort_low HS.out HP.out x hx
     omega
    have hb : (p.1 != n) = true := by rw [bne_iff_ne]; exact hne
    have HL := hd_ hL
    have HX := hd_ hex
    clear hne hex hL
    go_wp2_with (first | (refine wpLoadBlk rfl _ rfl b o k m p rfl HCL.out HP.out h256 ?_) | (refine wpBuild1 rfl _ rfl p h256 rfl ?_) | (at_builtin; refine wp_append_n rbIs (v := u6) rfl _ _ rfl rfl (HO.out.gr gri) _ 0 [p] 1 1 rfl rfl (fun x hx => by simp at hx; rw [hx]; exact h256) (one_block p inferInstance) (by simp; omega) past (by simp) ?_; intro v1 W1 h1; have H1 := hd_ h1; clear h1))
    go_roundw
    case rel => exact ⟨k + 1, true, _, hlt, by go_num, rfl, ⟨fun _ => ⟨by obtain ⟨x, hx, hle⟩ := HX.out; exact ⟨x, List.take_subset_take_left m (Nat.le_succ k) hx, hle⟩, by rw [set_hi HX.out HP.out, HL.out]⟩, fun h => by cases h⟩, H1.out.own, H1.out.keep _ _ _ inferInstance (by decide), by haveI := H1.out.grc w (Nat.le_refl _); exact gri⟩
    case measure => simp [intOf]; omega
   | false =>
    obtain ⟨hlo, hL⟩ := HP0.out.2 rfl
    have HL := hd_ hL
    have HX := hd_ hlo
    clear hL hlo
    by_cases hge : n ≤ p.1
    ·have d1 : decide (n ≤ p.1) = true := decide_eq_true hge
     by_cases hne : p.1 = n
     ·have hb : (p.1 != n) = false := by simp [hne]
      have HE := hd_ hne
      clear hne
      go_wp2_with (first | (refine wpLoadB rfl _ rfl _ _ rfl inferInstance inferInstance ?_) | (refine wpBuildBlk rfl _ _ rfl n B hB rfl rfl ?_) | (refine wpBuild1 rfl _ rfl (n, B) hB rfl ?_) | (at_builtin; refine wp_append_n rbIs (v := u6) rfl _ _ rfl rfl (HO.out.gr gri) _ 0 [(n, B)] 1 1 rfl rfl (fun x hx => by simp at hx; rw [hx]; exact hB) (one_block (n, B) inferInstance) (by simp; omega) past (by simp) ?_; intro v1 W1 h1; have H1 := hd_ h1; haveI := h1.grc w (Nat.le_refl _); haveI := h1.from_ w; have g1 : Gr w W1 := gri; have z0 : W1.cell? ⟨g, q + 2, none⟩ = some (.slice (some ⟨b, o, none⟩) N c) := (g1.below.cell (p := ⟨g, q + 2, none⟩) (old_of_cell HC.out).lt).trans HC.out; haveI : Old g W1 := old_of_cell z0; have HCL1 := hd_ (rowCells (HR.out.gr g1) (List.mem_of_getElem? HP.out)); have c1 := (cells_blk HCL1.out HP.out).1; haveI : Old b W1 := old_of_cell c1; have B1 := h1.keep _ _ _ (inferInstance : BlockAt _ w.heap.size (bkC B) 66) (by decide); haveI := B1; clear h1))
      go_roundw
      case rel => exact ⟨k + 1, true, _, hlt, by go_num, rfl, ⟨fun _ => ⟨⟨p, take_has HP.out, hge⟩, by rw [set_eq HX.out HP.out HE.out, HL.out]⟩, fun h => by cases h⟩, H1.out.own, inferInstance, gri⟩
      case measure => simp [intOf]; omega
     ·have hb : (p.1 != n) = true := by rw [bne_iff_ne]; exact hne
      have HE := hd_ hne
      clear hne
      go_wp2_with (first | (refine wpLoadB rfl _ rfl _ _ rfl inferInstance inferInstance ?_) | (refine wpBuildBlk rfl _ _ rfl n B hB rfl rfl ?_) | (refine wpBuild1 rfl _ rfl (n, B) hB rfl ?_) | (at_builtin; refine wp_append_n rbIs (v := u6) rfl _ _ rfl rfl (HO.out.gr gri) _ 0 [(n, B)] 1 1 rfl rfl (fun x hx => by simp at hx; rw [hx]; exact hB) (one_block (n, B) inferInstance) (by simp; omega) past (by simp) ?_; intro v1 W1 h1; have H1 := hd_ h1; haveI := h1.grc w (Nat.le_refl _); haveI := h1.from_ w; have g1 : Gr w W1 := gri; have z0 : W1.cell? ⟨g, q + 2, none⟩ = some (.slice (some ⟨b, o, none⟩) N c) := (g1.below.cell (p := ⟨g, q + 2, none⟩) (old_of_cell HC.out).lt).trans HC.out; haveI : Old g W1 := old_of_cell z0; have HCL1 := hd_ (rowCells (HR.out.gr g1) (List.mem_of_getElem? HP.out)); have c1 := (cells_blk HCL1.out HP.out).1; haveI : Old b W1 := old_of_cell c1; have B1 := h1.keep _ _ _ (inferInstance : BlockAt _ w.heap.size (bkC B) 66) (by decide); haveI := B1; clear h1) | (refine wpLoadBlk rfl _ rfl b o k m p rfl HCL1.out HP.out h256 ?_) | (refine wpBuild1 rfl _ rfl p h256 rfl ?_) | (at_builtin; refine wp_append_n rbIs (v := v1) rfl _ _ rfl rfl (H1.out.own.gr gri) _ 0 [p] 1 1 rfl rfl (fun x hx => by simp at hx; rw [hx]; exact h256) (one_block p inferInstance) (by simp; omega) past (by simp) ?_; intro v2 W2 h2; have H2 := hd_ h2; clear h2))
      go_roundw
      case rel => exact ⟨k + 1, true, _, hlt, by go_num, rfl, ⟨fun _ => ⟨⟨p, take_has HP.out, hge⟩, by rw [set_lo HX.out HP.out (by have := HE.out; omega), HL.out]⟩, fun h => by cases h⟩, H2.out.own, H2.out.keep _ _ _ inferInstance (by decide), by haveI := H2.out.grc w (Nat.le_refl _); exact gri⟩
      case measure => simp [intOf]; omega
    ·have d1 : decide (n ≤ p.1) = false := decide_eq_false hge
     have hb : (p.1 != n) = true := by rw [bne_iff_ne]; omega
     have HG2 := hd_ hge
     clear hge
     go_wp2_with (first | (refine wpLoadBlk rfl _ rfl b o k m p rfl HCL.out HP.out h256 ?_) | (refine wpBuild1 rfl _ rfl p h256 rfl ?_) | (at_builtin; refine wp_append_n rbIs (v := u6) rfl _ _ rfl rfl (HO.out.gr gri) _ 0 [p] 1 1 rfl rfl (fun x hx => by simp at hx; rw [hx]; exact h256) (one_block p inferInstance) (by simp; omega) past (by simp) ?_; intro v1 W1 h1; have H1 := hd_ h1; clear h1))
     go_roundw
     case rel => exact ⟨k + 1, false, _, hlt, by go_num, rfl, ⟨(fun h => by cases h), fun _ => ⟨fun x hx => by
      rw [List.take_add_one, HP.out] at hx
      rcases List.mem_append.1 hx with hx | hx
      ·exact HX.out x hx
      ·simp at hx; subst hx; have := HG2.out; omega, by rw [HL.out, List.take_add_one, HP.out]; rfl⟩⟩, H1.out.own, H1.out.keep _ _ _ inferInstance (by decide), by haveI := H1.out.grc w (Nat.le_refl _); exact gri⟩
     case measure => simp [intOf]; omega
  ·have : k = N := by omega
   subst this
   have HG := hd_ hg
   clear hg
   have e : m.take k = m := List.take_of_length_le (by rw [← HN.out]; omega)
   cases put with
   | true =>
    have hL : L = putK m n B := by rw [(HP0.out.1 rfl).2, e]
    subst hL
    clear e
    obtain ⟨A6, c6, rfl, _, _, _⟩ := HO.out.form rbIs
    go_wp2
    exact ⟨rfl, .tuple #[], by simp [results, go_sem], ⟨rfl, wr, _, HG.out, HO.out, rfl⟩⟩
   | false =>
    have hL : L = m := by rw [(HP0.out.2 rfl).2, e]
    have hlo : ∀ x ∈ m, x.1 < n := by have := (HP0.out.2 rfl).1; rwa [e] at this
    subst hL
    have HLO := hd_ (set_end (B := B) hlo)
    clear e hlo
    go_wp2_with (first | (refine wpLoadB rfl _ rfl _ _ rfl inferInstance inferInstance ?_) | (refine wpBuildBlk rfl _ _ rfl n B hB rfl rfl ?_) | (refine wpBuild1 rfl _ rfl (n, B) hB rfl ?_) | (at_builtin; refine wp_append_n rbIs (v := u6) rfl _ _ rfl rfl (HO.out.gr gri) _ 0 [(n, B)] 1 1 rfl rfl (fun x hx => by simp at hx; rw [hx]; exact hB) (one_block (n, B) inferInstance) (by simp; omega) past (by simp) ?_; intro v1 W1 h1; have H1 := hd_ h1; haveI := h1.grc w (Nat.le_refl _); haveI := h1.from_ w; have g1 : Gr w W1 := gri; have z0 : W1.cell? ⟨g, q + 2, none⟩ = some (.slice A k c) := (g1.below.cell (p := ⟨g, q + 2, none⟩) (old_of_cell HC.out).lt).trans HC.out; have z1 : W1.frozen? ⟨g, q + 2, none⟩ = false := gr_frozen g1 (old_of_cell HC.out).lt HFZ.out; haveI : Old g W1 := old_of_cell z0; obtain ⟨A6, c6, rfl, _, _, _⟩ := H1.out.own.form rbIs; clear h1))
    exact ⟨rfl, .tuple #[], by simp [results, go_sem], ⟨rfl, W1, _, g1, by rw [HLO.out]; have := H1.out.own; simp only [List.length_append, List.length_singleton] at this; exact this, rfl⟩⟩
theorem rdrop_any (g q : Nat) (v : Value) (m : List (Int × Byt)) (n1 n2 : Int) (w : World) (hc : w.cell? ⟨g, q + 2, none⟩ = some v) (hfz : w.frozen? ⟨g, q + 2, none⟩ = false) (hm : BlkS w v m) (hl : m.length ≤ 1000) : Calls Tryz.prog 48 #[.pointer (some ⟨g, q, none⟩), .int .i64 n1, .int .i64 n2] w (StM w g (q + 2) (m.filter fun p => decide (p.1 < n1 ∨ n2 ≤ p.1))) := by
 obtain ⟨A, c, hv, hc1, hc2, _, hr⟩ := hm.row
 obtain ⟨N, hN⟩ : ∃ N : Nat, N = m.length := ⟨_, rfl⟩
 rw [← hN] at hv hc1 hl
 subst hv
 have HN := hd_ hN
 have HR := hd_ hr
 haveI : Old g w := old_of_cell hc
 have HC := hd_ hc
 have HFZ := hd_ hfz
 clear hr hc hm hN hfz
 go_enter Tryz.func48, Tryz.ntmps48
 go_wp2
 go_loopw [6, 7] (fun v i wr => ∃ (k : Nat) (L : List (Int × Byt)), k ≤ N ∧ i = .int .i64 k ∧ L = (m.take k).filter (fun p => decide (p.1 < n1 ∨ n2 ≤ p.1)) ∧ OwnN rbE w.heap.size wr v L ∧ Gr w wr) (fun _ i _ => N - (intOf i).toNat)
 case atStart => exact ⟨0, [], Nat.zero_le _, rfl, by simp, OwnN.nil _ _, gri⟩
 case round =>
  obtain ⟨k, L, hk, rfl, hL, hown, hg⟩ := hrel
  have y0 : wr.cell? ⟨g, q + 2, none⟩ = some (.slice A N c) := (hg.below.cell (p := ⟨g, q + 2, none⟩) (old_of_cell HC.out).lt).trans HC.out
  have y1 : wr.frozen? ⟨g, q + 2, none⟩ = false := gr_frozen hg (old_of_cell HC.out).lt HFZ.out
  haveI : Old g wr := old_of_cell y0
  haveI := grc_of hg
  haveI := from_of hg
  have HO := hd_ hown
  have HL := hd_ hL
  have HLn : L.length ≤ N := by
   rw [hL, HN.out]
   exact Nat.le_trans (List.length_filter_le _ _) (by simp; omega)
  clear hown hL
  by_cases hlt : k < N
  ·obtain ⟨p, hp⟩ : ∃ p, m[k]? = some p := ⟨_, List.getElem?_eq_getElem (by rw [← HN.out]; exact hlt)⟩
   obtain ⟨b, o, rfl, hbl, hcl⟩ := (HR.out.gr hg).at_ (by rintro rfl; have := HN.out; simp at this; omega)
   have c0 := (cells_blk hcl hp).1
   have h256 : p.2.length = 256 := HR.out.ok p (List.mem_of_getElem? hp)
   haveI : Old b wr := ⟨hbl⟩
   have HP := hd_ hp
   have HG := hd_ hg
   have HCL := hd_ hcl
   clear hcl hp hg
   have hst : (m.take (k + 1)).filter (fun p => decide (p.1 < n1 ∨ n2 ≤ p.1)) = L ++ (if p.1 < n1 ∨ n2 ≤ p.1 then [p] else []) := by
    rw [List.take_add_one, HP.out, List.filter_append, ← HL.out]
    by_cases h : p.1 < n1 ∨ n2 ≤ p.1 <;> simp [h]
   have HST := hd_ hst
   clear hst
   by_cases h1 : p.1 < n1
   ·have d1 : decide (p.1 < n1) = true := decide_eq_true h1
    have HT := hd_ (show (if p.1 < n1 ∨ n2 ≤ p.1 then [p] else []) = [p] from if_pos (.inl h1))
    clear h1
    go_wp2_with (first | (refine wpLoadBlk rfl _ rfl b o k m p rfl HCL.out HP.out h256 ?_) | (refine wpBuild1 rfl _ rfl p h256 rfl ?_) | (at_builtin; refine wp_append_n rbIs (v := u6) rfl _ _ rfl rfl (HO.out.gr gri) _ 0 [p] 1 1 rfl rfl (fun x hx => by simp at hx; rw [hx]; exact h256) (one_block p inferInstance) (by simp; omega) past (by simp) ?_; intro v1 W1 h1; have H1 := hd_ h1; clear h1))
    go_roundw
    case rel => exact ⟨k + 1, _, hlt, by go_num, rfl, by rw [HST.out, HT.out]; exact H1.out.own, by haveI := H1.out.grc w (Nat.le_refl _); exact gri⟩
    case measure => simp [intOf]; omega
   ·have d1 : decide (p.1 < n1) = false := decide_eq_false h1
    by_cases h2 : n2 ≤ p.1
    ·have d2 : decide (n2 ≤ p.1) = true := decide_eq_true h2
     have HT := hd_ (show (if p.1 < n1 ∨ n2 ≤ p.1 then [p] else []) = [p] from if_pos (.inr h2))
     clear h1 h2
     go_wp2_with (first | (refine wpLoadBlk rfl _ rfl b o k m p rfl HCL.out HP.out h256 ?_) | (refine wpBuild1 rfl _ rfl p h256 rfl ?_) | (at_builtin; refine wp_append_n rbIs (v := u6) rfl _ _ rfl rfl (HO.out.gr gri) _ 0 [p] 1 1 rfl rfl (fun x hx => by simp at hx; rw [hx]; exact h256) (one_block p inferInstance) (by simp; omega) past (by simp) ?_; intro v1 W1 h1; have H1 := hd_ h1; clear h1))
     go_roundw
     case rel => exact ⟨k + 1, _, hlt, by go_num, rfl, by rw [HST.out, HT.out]; exact H1.out.own, by haveI := H1.out.grc w (Nat.le_refl _); exact gri⟩
     case measure => simp [intOf]; omega
    ·have d2 : decide (n2 ≤ p.1) = false := decide_eq_false h2
     have HT := hd_ (show (if p.1 < n1 ∨ n2 ≤ p.1 then [p] else []) = [] from if_neg (fun h => h.elim h1 h2))
     clear h1 h2
     go_wp2
     go_roundw
     case rel => exact ⟨k + 1, _, hlt, by go_num, rfl, by rw [HST.out, HT.out, List.append_nil]; exact HO.out, HG.out⟩
     case measure => simp [intOf]; omega
  ·have : k = N := by omega
   subst this
   have HG := hd_ hg
   clear hg
   have e : m.take k = m := List.take_of_length_le (by rw [← HN.out]; omega)
   have HE := hd_ (HL.out.trans (by rw [e]))
   clear e
   obtain ⟨A6, c6, rfl, _, _, _⟩ := HO.out.form rbIs
   go_wp2
   exact ⟨rfl, .tuple #[], by simp [results, go_sem], ⟨rfl, wr, _, HG.out, by rw [← HE.out]; exact HO.out, rfl⟩⟩
def SvPost (R : Nat) (d' : Dev) (vf' : Int → Value) (w : World) (e : Ending) (w' : World) : Prop :=
 e = .returned (.tuple #[]) ∧ ∃ w1 v', Gr w w1 ∧ OwnN rvE w.heap.size w1 v' (d'.map (rvF vf')) ∧ w' = w1.setCell ⟨R, 0, none⟩ v'
theorem elemV : Tryz.prog.elem 33 = 102 := by kernel_rfl
theorem sizeV (w : World) : (sizeOf 102).run Tryz.prog w = .ok 3 w := by kernel_rfl
section
variable {W : World} {o : Oper} {a : Act} {R : Value → World → Prop}
theorem effAt_ok {P : Program} {w w' : World} (u : Value) (h : (execOp a.eval o).run P w = .ok (.value u) w') (hr : R u w') : EffAt P o a w R := by
 unfold EffAt
 rw [h]
 exact hr
theorem effAt_loadRow {P : Program} {w : World} {ty : TypeId} {x : Operand} {B : Nat} {cs : Array Value} {t : TypeId} {d : TypeDesc} (ho : o.op = .load ty x) (hx : a.eval x = .pointer (some ⟨B, 0, none⟩)) (hB : BlockAt w B cs t) (hu : P.underlying ty = some d) (hd : (match d with | .struct _ | .array _ _ => true | _ => false) = true) (hi : (P.info? ty).map (·.size) = some cs.size)
  (h : R (.agg cs) w) : EffAt P o a w R := by
 refine effAt_ok (.agg cs) ?_ h
 unfold execOp
 simp only [ho, hx, Instr.loadAt, Instr.sureAddr, Sem.run_bind, Sem.run_pure, Result.andThen_ok, run_loadVar_row w B t ty cs (0, 0) d hB.eq hu hd hi]
end
theorem rowV_block {W : World} {B : Nat} {n s : Int} {u : Value} (hu : u.oneCell' = true) (h : BlockAt W B #[.int .u64 n, .int .i64 s, u] 102) : RowN rvE W (some ⟨B, 0, none⟩) [⟨n, s, u⟩] :=
 ⟨fun x hx => by simp at hx; subst hx; exact hu, fun _ => ⟨B, 0, rfl, h.lt, CellsN.block _ h rfl⟩⟩
theorem sliceTo (A : Option Addr) (n c k : Nat) (h : k ≤ n) (h3 : n ≤ c) (w : World) : (Instr.slice 33 (.slice A n c) none (some (.int .i64 (k : Int))) none).run Tryz.prog w = .ok (.slice A k c) w := by
 have h := run_slice_h (P := Tryz.prog) w 33 A n c (by rw [elemV]; exact Tryz.underlying33) .i64 (k : Int) (by omega) (by omega)
 rw [h, elemV, sizeV, Int.toNat_natCast]
 simp only [Result.andThen_ok, sliced]
 split
 ·rfl
 ·cases A with
  | none => rfl
  | some a => simp only [Option.map_some, Nat.zero_mul, Nat.sub_zero]; congr 1
def fromV (A : Option Addr) (k c : Nat) : Option Addr := if c = k then A else A.map (·.add (k * 3))
theorem sliceFrom (A : Option Addr) (n c k : Nat) (h : k ≤ n) (h3 : n ≤ c) (w : World) : (Instr.slice 33 (.slice A n c) (some (.int .i64 (k : Int))) none none).run Tryz.prog w = .ok (.slice (fromV A k c) (n - k) (c - k)) w := by
 have h := run_slice_l (P := Tryz.prog) w 33 A n c (by rw [elemV]; exact Tryz.underlying33) .i64 (k : Int) (by omega) (by omega)
 rw [h, elemV, sizeV, Int.toNat_natCast]
 rfl
theorem RowN.take {α : Type} {e : EK α} {W : World} {A : Option Addr} {xs : List α} (h : RowN e W A xs) (k : Nat) : RowN e W A (xs.take k) := ⟨fun x hx => h.ok x (List.mem_of_mem_take hx), fun hne => by
 obtain ⟨b, p, e1, hb, hc⟩ := h.at_ (by rintro rfl; simp at hne)
 exact ⟨b, p, e1, hb, hc.take k⟩⟩
theorem RowN.fromV_ {W : World} {A : Option Addr} {xs : List RV} (h : RowN rvE W A xs) (k c : Nat) (hk : k ≤ xs.length) (hc : xs.length ≤ c) : RowN rvE W (fromV A k c) (xs.drop k) := ⟨fun x hx => h.ok x (List.mem_of_mem_drop hx), fun hne => by
 obtain ⟨b, p, rfl, hb, hcl⟩ := h.at_ (by rintro rfl; simp at hne)
 have hlt : k < xs.length := by
  rcases Nat.lt_or_ge k xs.length with h | h
  ·exact h
  ·exact absurd (List.drop_eq_nil_of_le h) hne
 refine ⟨b, p + k * 3, ?_, hb, hcl.drop k⟩
 rw [fromV, if_neg (by omega)]
 simp [Go.WideShapes.add_plain]⟩
theorem fromV_none {A : Option Addr} {k c : Nat} (h : A = none → c = 0) (he : fromV A k c = none) : c - k = 0 := by
 unfold fromV at he
 split at he
 ·omega
 ·cases A with
  | none => have := h rfl; omega
  | some a => cases he
theorem add_rows (vf : Int → Value) (d : Dev) (n s : Int) (u : Value) (m : List (Int × Byt)) (k : Nat) (hs : SortK d) (h1 : ∀ p ∈ d.take k, p.1 < n) (h2 : ∀ p, d[k]? = some p → n < p.1) :
  (putK d n (s, m)).map (rvF fun k => if k = n then u else vf k) = (d.map (rvF vf)).take k ++ [⟨n, s, u⟩] ++ (d.map (rvF vf)).drop k := by
 rw [putK_at h1 h2, List.map_append, List.map_cons, ← List.map_take, ← List.map_drop]
 have e1 : (d.take k).map (rvF fun k => if k = n then u else vf k) = (d.take k).map (rvF vf) := List.map_congr_left fun p hp => by
  have := h1 p hp
  simp [rvF, show ¬ p.1 = n by omega]
 have e2 : (d.drop k).map (rvF fun k => if k = n then u else vf k) = (d.drop k).map (rvF vf) := List.map_congr_left fun p hp => by
  have : n < p.1 := by
   cases hd : d.drop k with
   | nil => rw [hd] at hp; cases hp
   | cons q r =>
    have hq : d[k]? = some q := by rw [← List.head?_drop, hd]; rfl
    have hnq := h2 q hq
    have hpq : p ∈ q :: d.drop (k + 1) := by
     have e9 := cut_at hq
     have : d.drop k = q :: d.drop (k + 1) := by
      obtain ⟨hl, he⟩ := List.getElem?_eq_some_iff.1 hq
      rw [← he, List.getElem_cons_drop]
     rw [← this]; exact hp
    rcases List.mem_cons.1 hpq with rfl | hp2
    ·exact hnq
    ·have := sort_high hs hq p hp2; omega
  simp [rvF, show ¬ p.1 = n by omega]
 rw [e1, e2]
 simp [rvF]
theorem RefIn.row {base R : Nat} {W : World} {A : Option Addr} {n c : Nat} {vf : Int → Value} {d : Dev} (h : RefIn base W R (.slice A n c) vf d) : RowN rvE W A (d.map (rvF vf)) := by
 obtain ⟨A', c', hv, _, _, _, hr⟩ := h.nilv
 simp only [Value.slice.injEq] at hv
 rw [hv.1]
 exact hr
theorem Gr.trans_below {a b c : World} (h : Gr a b) (k : Below a.heap.size b c) : Gr a c := Gr.of (h.below.trans k)
theorem radd_any (base R : Nat) (v : Value) (vf : Int → Value) (d : Dev) (n s : Int) (u : Value) (m : List (Int × Byt)) (w : World) (h : RefIn base w R v vf d) (hu : BlkS w u m) (hn : getK d n = none) (hl : d.length ≤ 1000000) :
  Calls Tryz.prog 47 #[.pointer (some ⟨R, 0, none⟩), .agg #[.int .u64 n, .int .i64 s, u]] w (SvPost R (putK d n (s, m)) (fun k => if k = n then u else vf k) w) := by
 haveI := h.blk
 haveI : Old R w := h.blk.old
 have x0 : w.cell? ⟨R, 0, none⟩ = some v := (bc 0 h.blk).trans rfl
 obtain ⟨A, c, hv, hc1, hc2, hc3, hr⟩ := h.nilv
 obtain ⟨N, hN⟩ : ∃ N : Nat, N = d.length := ⟨_, rfl⟩
 rw [← hN] at hv hc1 hl
 subst hv
 obtain ⟨uA, uc, rfl, _, _, _, _⟩ := hu.row
 generalize m.length = un at *
 have HH := hd_ h
 have HN := hd_ hN
 have HK := hd_ hn
 clear h hN hn hr hu
 go_enter Tryz.func47, Tryz.ntmps47
 go_wp2
 go_loopw [4] (fun i wr => ∃ k : Nat, k ≤ N ∧ i = .int .i64 (k : Int) ∧ (∀ p ∈ d.take k, p.1 < n) ∧ BlockAt wr w.heap.size #[.int .u64 n, .int .i64 s, .slice uA un uc] 102 ∧ Gr w wr) (fun i _ => N - (intOf i).toNat)
 case atStart => exact ⟨0, Nat.zero_le _, rfl, by simp, inferInstance, gri⟩
 case round =>
  obtain ⟨k, hk, rfl, hlo, hbx, hg⟩ := hrel
  have y0 : wr.cell? ⟨R, 0, none⟩ = some (.slice A N c) := (bc 0 (HH.out.blk.gr hg)).trans rfl
  have y1 : wr.frozen? ⟨R, 0, none⟩ = false := @block_frozen _ _ 0 _ _ (HH.out.blk.gr hg)
  haveI : Old R wr := (HH.out.blk.gr hg).old
  haveI := grc_of hg
  haveI := from_of hg
  haveI := hbx
  haveI := hbx.old
  have b0 : wr.cell? ⟨w.heap.size, 0, none⟩ = some (.int .u64 n) := (bc 0 hbx).trans rfl
  have HLO := hd_ hlo
  clear hlo
  by_cases hlt : k < N
  ·obtain ⟨p, hp⟩ : ∃ p, d[k]? = some p := ⟨_, List.getElem?_eq_getElem (by rw [← HN.out]; exact hlt)⟩
   obtain ⟨g, c', hv, hbg, hgl, _, _, _, _, hcl⟩ := (HH.out.gr hg).form (by rintro rfl; have := HN.out; simp at this; omega)
   simp only [Value.slice.injEq] at hv
   obtain ⟨hA, -, -⟩ := hv
   subst hA
   have c0 := (hcl k p hp).1
   rw [Nat.add_zero] at c0
   haveI : Old g wr := ⟨hgl⟩
   have HP := hd_ hp
   have HG := hd_ hg
   clear hcl hp hg
   by_cases hq : p.1 < n
   ·have d1 : decide (p.1 < n) = true := decide_eq_true hq
    have HQ := hd_ hq
    go_wp2
    refine wp_region_grow (by kernel_rfl) (by kernel_rfl) ?_
    repeat (go_big_quiet_step (fail))
    refine wpQuiet_nil ?_
    intro g1
    go_wp2
    go_roundw
    case rel => exact ⟨k + 1, by omega, by go_num, fun p' hp' => by
     rw [List.take_add_one, HP.out] at hp'
     rcases List.mem_append.1 hp' with h | h
     ·exact HLO.out p' h
     ·simp at h; subst h; exact HQ.out, inferInstance, gri⟩
    case measure => simp [intOf]; omega
   ·have d1 : decide (p.1 < n) = false := decide_eq_false hq
    have HQ := hd_ hq
    clear hq
    go_wp2
    refine wp_region_grow (by kernel_rfl) (by kernel_rfl) ?_
    repeat (go_big_quiet_step (fail))
    refine wpQuiet_nil ?_
    intro g1
    have hsl := fun W => sliceTo (some ⟨g, 0, none⟩) N c k (by omega) hc1 W
    have hsf := fun W => sliceFrom (some ⟨g, 0, none⟩) N c k (by omega) hc1 W
    have HRW := hd_ (HH.out.row)
    have HQ2 : Hid (∀ p, d[k]? = some p → n < p.1) := hd_ (fun p' hp' => by rw [HP.out] at hp'; cases hp'; have h1 := HQ.out; have h2 := getK_none.1 HK.out p (List.mem_of_getElem? HP.out); omega)
    have HDK : Hid (((d.map (rvF vf)).drop k).length = N - k) := hd_ (by have := HN.out; simp; omega)
    have HTK : Hid (((d.map (rvF vf)).take k).length = k) := hd_ (by have := HN.out; simp; omega)
    go_wp2_with (first | (at_builtin; go_loud (refine wp_append_x rvIs rfl _ _ rfl rfl (OwnN.nil w.heap.size _) (some ⟨g, 0, none⟩) ((d.map (rvF vf)).take k) k _ HTK.out rfl (fun e => by cases e) (HRW.out.take k |>.gr gri) (by rw [HTK.out, List.length_nil]; omega) past ?_); go_loud (intro v1 W1 h1; haveI := h1.grc w (Nat.le_refl _); have gg1 : Gr w W1 := gri; have HW1 := hd_ (by have := h1.own; rwa [List.nil_append] at this : OwnN rvE w.heap.size W1 v1 ((d.map (rvF vf)).take k)); have HG1 := hd_ gg1; have HB1 := hd_ (BlockAt.grown (inferInstance : BlockAt (grown wr g1) w.heap.size #[.int .u64 n, .int .i64 s, .slice uA un uc] 102) h1.gb (show some w.heap.size ≠ none from fun e => by cases e)); clear h1)))
    refine wp_region_treeT (W := w) (inCls_ghost _) ⟨fun w' => OwnN rvE w.heap.size w' v1 ((d.map (rvF vf)).take k) ∧ BlockAt w' w.heap.size #[.int .u64 n, .int .i64 s, .slice uA un uc] 102, fun a b h g => ⟨h.1.gr g, h.2.gr g⟩⟩ ⟨HG1.out.trans (Gr.of ((Below.refl _ _).drew)), HW1.out.gr (Gr.of ((Below.refl _ _).drew)), HB1.out.gr (Gr.of ((Below.refl _ _).drew))⟩ [0, 1, 5, 6, 7, 8, 9, 10] 4 12 (by kernel_rfl) (by kernel_rfl) ?_
    simp only [pick, List.drop, List.take, List.nil_append, List.cons_append]
    repeat (refine wpCalm_step (fun K hK => ?_); go_simp; first | (refine hK _ ?_; clear hK K) | (apply Exists.intro; refine ⟨fun _ => ?_, hK _ ?_⟩; (skip); clear hK K))
    refine wpCalm_nil ?_
    refine ft_effD 2 (by kernel_rfl) (by omega) rfl rfl rfl fun w3 hw3 => effAt_loadRow rfl rfl hw3.2.2 Tryz.underlying102 rfl (by kernel_rfl) ⟨_, hw3, ?_⟩
    simp only [Act.put, stA, List.set]
    refine ft_effD 3 (by kernel_rfl) (by omega) rfl rfl rfl fun w4 hw4 => effAt_ok (.slice (some ⟨w4.heap.size, 0, none⟩) 1 1) (w' := w4.alloc (.cells #[.int .u64 n, .int .i64 s, .slice uA un uc] 102)) (by go_simp) ⟨⟨fun w' => OwnN rvE w.heap.size w' v1 ((d.map (rvF vf)).take k) ∧ BlockAt w' w4.heap.size #[.int .u64 n, .int .i64 s, .slice uA un uc] 102, fun a b h g => ⟨h.1.gr g, h.2.gr g⟩⟩, ⟨hw4.1.trans gri, hw4.2.1.gr gri, inferInstance⟩, ?_⟩
    generalize w4.heap.size = B2 at *
    clear hw4 w4 hw3 w3
    simp only [Act.put, stA, List.set]
    refine ft_effD 4 (by kernel_rfl) (by omega) rfl rfl rfl fun w4 hw4 => effAt_append_x rvIs _ _ rfl rfl hw4.2.1 (some ⟨B2, 0, none⟩) [⟨n, s, .slice uA un uc⟩] 1 1 rfl rfl (fun e => by cases e) (rowV_block rfl hw4.2.2) (by rw [HTK.out, List.length_singleton]; omega) hw4.1.below.size fun v2 W2 h2 => ⟨⟨fun w' => OwnN rvE w.heap.size w' v2 ((d.map (rvF vf)).take k ++ [⟨n, s, .slice uA un uc⟩]), fun a b h g => h.gr g⟩, ⟨hw4.1.trans_below h2.below, h2.own⟩, ?_⟩
    clear h2 W2 hw4 w4
    simp only [Act.put, stA, List.set]
    refine ft_effD 11 (by kernel_rfl) (by omega) rfl rfl rfl fun w4 hw4 => effAt_append_x rvIs _ _ rfl rfl hw4.2 (fromV (some ⟨g, 0, none⟩) k c) ((d.map (rvF vf)).drop k) (N - k) (c - k) HDK.out rfl (fromV_none (fun e => by cases e)) ((HRW.out.fromV_ k c (by have := HN.out; simp; omega) (by have := HN.out; simp; omega)).gr hw4.1) (by rw [HDK.out, List.length_append, HTK.out, List.length_singleton]; omega) hw4.1.below.size fun v3 W3 h3 => ⟨⟨fun w' => OwnN rvE w.heap.size w' v3 ((d.map (rvF vf)).take k ++ [⟨n, s, .slice uA un uc⟩] ++ (d.map (rvF vf)).drop k), fun a b h g => h.gr g⟩, ⟨hw4.1.trans_below h3.below, h3.own⟩, ?_⟩
    clear h3 W3 hw4 w4
    simp only [Act.put, stA, List.set]
    refine ft_end ⟨by kernel_rfl, fun w9 hw9 => ?_⟩
    try simp only [List.drop_succ_cons, List.drop_zero]
    obtain ⟨hg9, ho9⟩ := hw9
    have hR9 := HH.out.blk.gr hg9
    have r0 : w9.cell? ⟨R, 0, none⟩ = some (.slice (some ⟨g, 0, none⟩) N c) := (bc 0 hR9).trans rfl
    have r1 : w9.frozen? ⟨R, 0, none⟩ = false := @block_frozen _ _ 0 _ _ hR9
    haveI : Old R w9 := hR9.old
    have hE := add_rows vf d n s (.slice uA un uc) m k HH.out.ok.sort HLO.out HQ2.out
    rw [← hE] at ho9
    obtain ⟨L9, hL9⟩ : ∃ L, L = (putK d n (s, m)).map (rvF fun k => if k = n then .slice uA un uc else vf k) := ⟨_, rfl⟩
    rw [← hL9] at ho9
    have HL9 := hd_ hL9
    clear hL9
    obtain ⟨A6, c6, rfl, _, _, _⟩ := ho9.form rvIs
    have HO9 := hd_ ho9
    have HG9 := hd_ hg9
    clear ho9 hg9 hR9 hE
    go_wp2
    exact ⟨rfl, .tuple #[], by simp [results, go_sem], ⟨rfl, w9, _, HG9.out, by rw [← HL9.out]; exact HO9.out, rfl⟩⟩
  ·have HG := hd_ hg
   clear hg
   go_wp2
   refine wp_region_grow (by kernel_rfl) (by kernel_rfl) ?_
   repeat (go_big_quiet_step (fail))
   refine wpQuiet_nil ?_
   intro g1
   have hsl := fun W => sliceTo A N c k (by omega) hc1 W
   have hsf := fun W => sliceFrom A N c k (by omega) hc1 W
   have HRW := hd_ (HH.out.row)
   have HQ2 : Hid (∀ p, d[k]? = some p → n < p.1) := hd_ (fun p' hp' => by have := (List.getElem?_eq_some_iff.1 hp').1; have := HN.out; omega)
   have HDK : Hid (((d.map (rvF vf)).drop k).length = N - k) := hd_ (by have := HN.out; simp; omega)
   have HTK : Hid (((d.map (rvF vf)).take k).length = k) := hd_ (by have := HN.out; simp; omega)
   go_wp2_with (first | (at_builtin; go_loud (refine wp_append_x rvIs rfl _ _ rfl rfl (OwnN.nil w.heap.size _) A ((d.map (rvF vf)).take k) k _ HTK.out rfl hc3 (HRW.out.take k |>.gr gri) (by rw [HTK.out, List.length_nil]; omega) past ?_); go_loud (intro v1 W1 h1; haveI := h1.grc w (Nat.le_refl _); have gg1 : Gr w W1 := gri; have HW1 := hd_ (by have := h1.own; rwa [List.nil_append] at this : OwnN rvE w.heap.size W1 v1 ((d.map (rvF vf)).take k)); have HG1 := hd_ gg1; have HB1 := hd_ (BlockAt.grown (inferInstance : BlockAt (grown wr g1) w.heap.size #[.int .u64 n, .int .i64 s, .slice uA un uc] 102) h1.gb (show some w.heap.size ≠ none from fun e => by cases e)); clear h1)))
   refine wp_region_treeT (W := w) (inCls_ghost _) ⟨fun w' => OwnN rvE w.heap.size w' v1 ((d.map (rvF vf)).take k) ∧ BlockAt w' w.heap.size #[.int .u64 n, .int .i64 s, .slice uA un uc] 102, fun a b h g => ⟨h.1.gr g, h.2.gr g⟩⟩ ⟨HG1.out.trans (Gr.of ((Below.refl _ _).drew)), HW1.out.gr (Gr.of ((Below.refl _ _).drew)), HB1.out.gr (Gr.of ((Below.refl _ _).drew))⟩ [0, 1, 5, 6, 7, 8, 9, 10] 4 12 (by kernel_rfl) (by kernel_rfl) ?_
   simp only [pick, List.drop, List.take, List.nil_append, List.cons_append]
   repeat (refine wpCalm_step (fun K hK => ?_); go_simp; first | (refine hK _ ?_; clear hK K) | (apply Exists.intro; refine ⟨fun _ => ?_, hK _ ?_⟩; (skip); clear hK K))
   refine wpCalm_nil ?_
   refine ft_effD 2 (by kernel_rfl) (by omega) rfl rfl rfl fun w3 hw3 => effAt_loadRow rfl rfl hw3.2.2 Tryz.underlying102 rfl (by kernel_rfl) ⟨_, hw3, ?_⟩
   simp only [Act.put, stA, List.set]
   refine ft_effD 3 (by kernel_rfl) (by omega) rfl rfl rfl fun w4 hw4 => effAt_ok (.slice (some ⟨w4.heap.size, 0, none⟩) 1 1) (w' := w4.alloc (.cells #[.int .u64 n, .int .i64 s, .slice uA un uc] 102)) (by go_simp) ⟨⟨fun w' => OwnN rvE w.heap.size w' v1 ((d.map (rvF vf)).take k) ∧ BlockAt w' w4.heap.size #[.int .u64 n, .int .i64 s, .slice uA un uc] 102, fun a b h g => ⟨h.1.gr g, h.2.gr g⟩⟩, ⟨hw4.1.trans gri, hw4.2.1.gr gri, inferInstance⟩, ?_⟩
   generalize w4.heap.size = B2 at *
   clear hw4 w4 hw3 w3
   simp only [Act.put, stA, List.set]
   refine ft_effD 4 (by kernel_rfl) (by omega) rfl rfl rfl fun w4 hw4 => effAt_append_x rvIs _ _ rfl rfl hw4.2.1 (some ⟨B2, 0, none⟩) [⟨n, s, .slice uA un uc⟩] 1 1 rfl rfl (fun e => by cases e) (rowV_block rfl hw4.2.2) (by rw [HTK.out, List.length_singleton]; omega) hw4.1.below.size fun v2 W2 h2 => ⟨⟨fun w' => OwnN rvE w.heap.size w' v2 ((d.map (rvF vf)).take k ++ [⟨n, s, .slice uA un uc⟩]), fun a b h g => h.gr g⟩, ⟨hw4.1.trans_below h2.below, h2.own⟩, ?_⟩
   clear h2 W2 hw4 w4
   simp only [Act.put, stA, List.set]
   refine ft_effD 11 (by kernel_rfl) (by omega) rfl rfl rfl fun w4 hw4 => effAt_append_x rvIs _ _ rfl rfl hw4.2 (fromV A k c) ((d.map (rvF vf)).drop k) (N - k) (c - k) HDK.out rfl (fromV_none hc3) ((HRW.out.fromV_ k c (by have := HN.out; simp; omega) (by have := HN.out; simp; omega)).gr hw4.1) (by rw [HDK.out, List.length_append, HTK.out, List.length_singleton]; omega) hw4.1.below.size fun v3 W3 h3 => ⟨⟨fun w' => OwnN rvE w.heap.size w' v3 ((d.map (rvF vf)).take k ++ [⟨n, s, .slice uA un uc⟩] ++ (d.map (rvF vf)).drop k), fun a b h g => h.gr g⟩, ⟨hw4.1.trans_below h3.below, h3.own⟩, ?_⟩
   clear h3 W3 hw4 w4
   simp only [Act.put, stA, List.set]
   refine ft_end ⟨by kernel_rfl, fun w9 hw9 => ?_⟩
   try simp only [List.drop_succ_cons, List.drop_zero]
   obtain ⟨hg9, ho9⟩ := hw9
   have hR9 := HH.out.blk.gr hg9
   have r0 : w9.cell? ⟨R, 0, none⟩ = some (.slice A N c) := (bc 0 hR9).trans rfl
   have r1 : w9.frozen? ⟨R, 0, none⟩ = false := @block_frozen _ _ 0 _ _ hR9
   haveI : Old R w9 := hR9.old
   have hE := add_rows vf d n s (.slice uA un uc) m k HH.out.ok.sort HLO.out HQ2.out
   rw [← hE] at ho9
   obtain ⟨L9, hL9⟩ : ∃ L, L = (putK d n (s, m)).map (rvF fun k => if k = n then .slice uA un uc else vf k) := ⟨_, rfl⟩
   rw [← hL9] at ho9
   have HL9 := hd_ hL9
   clear hL9
   obtain ⟨A6, c6, rfl, _, _, _⟩ := ho9.form rvIs
   have HO9 := hd_ ho9
   have HG9 := hd_ hg9
   clear ho9 hg9 hR9 hE
   go_wp2
   exact ⟨rfl, .tuple #[], by simp [results, go_sem], ⟨rfl, w9, _, HG9.out, by rw [← HL9.out]; exact HO9.out, rfl⟩⟩
theorem rsplit_any (a c : Nat) (ha : a ≤ 1048576) (h0 : 0 < c) (hc : c ≤ 1048576) (w : World) : Calls Tryz.prog 29 #[.int .i64 (a : Int), .int .i64 (c : Int)] w fun e w' => ∃ v, e = .returned v ∧ OwnN spE w.heap.size w' v (spans a c) ∧ Gr w w' := by
 go_enter Tryz.func29, Tryz.ntmps29
 go_wp2
 go_loopw [5, 6] (fun v i wr => ∃ k : Nat, k ≤ c ∧ i = .int .i64 ((a + k : Nat) : Int) ∧ OwnN spE w.heap.size wr v (spans a k) ∧ Gr w wr) (fun _ i _ => a + c - (intOf i).toNat)
 case atStart => exact ⟨0, Nat.zero_le _, by simp, OwnN.nil _ _, gri⟩
 case round =>
  obtain ⟨k, hk, rfl, hown, hg⟩ := hrel
  haveI := grc_of hg
  haveI := from_of hg
  have HG := hd_ hg; clear hg
  by_cases hlt : k < c
  ·obtain ⟨L, hL⟩ : ∃ L, spans a k = L := ⟨_, rfl⟩
   have hLn : L.length ≤ k := by rw [← hL]; exact spans_len a k
   have hnx : spans a (k + 1) = addP L (a + k) := by rw [← hL]; exact spans_snoc k a
   rw [hL] at hown
   have HN := hd_ hnx
   clear hL hnx
   obtain ⟨S, hS⟩ : ∃ S, S = a + k := ⟨_, rfl⟩
   have hS1 : S < a + c := by omega
   have HS := hd_ hS
   rw [← hS]
   rw [← hS] at HN
   have hS3 : S ≤ 2097152 := by omega
   clear hS
   rcases List.eq_nil_or_concat L with rfl | ⟨L0, x, rfl⟩
   ·obtain ⟨A, c', rfl, _, _, _⟩ := hown.form spIs
    have HO := hd_ hown
    clear hown hLn
    go_wp2_with (first | (at_builtin; refine wp_append_n spIs rfl _ _ rfl rfl (HO.out.gr gri) _ 0 [⟨S / 4, S % 4, S % 4 + 1⟩] 1 1 rfl rfl (fun _ _ => trivial) (CellsN.block _ inferInstance rfl) (by simp) past (by simp) ?_; intro v1 W1 h1; have H1 := hd_ h1; clear h1))
    go_roundw
    case rel => exact ⟨k + 1, by omega, by have := HS.out; go_num, by rw [HN.out]; exact H1.out.own, by haveI := H1.out.grc w (Nat.le_refl _); exact gri⟩
    case measure => have := HS.out; simp [intOf]; omega
   ·rw [List.concat_eq_append] at hLn HN hown
    have hm : (L0 ++ [x]).length = L0.length + 1 := by simp
    obtain ⟨g, c', hv, hbg, hgl, _, hcm, hcl, hfz⟩ := hown.cells spIs (by simp)
    rw [hm] at hv hLn
    subst hv
    have hx := hcl L0.length x (by simp)
    have x0 : wr.cell? ⟨g, L0.length * 3, none⟩ = some (.int .i64 (x.b : Int)) := by have := hx 0 _ rfl; rwa [Nat.zero_add, Nat.add_zero] at this
    have x2 : wr.cell? ⟨g, L0.length * 3 + 2, none⟩ = some (.int .i64 (x.t : Int)) := by have := hx 2 _ rfl; rwa [Nat.zero_add] at this
    haveI : Old g wr := ⟨hgl⟩
    have u1 := hfz (L0.length * 3 + 2)
    have HO := hd_ hown
    have HM := hd_ hm
    have hm2 : L0.length + 1 ≤ 2097152 := by omega
    have HX : Hid ((L0 ++ [x])[L0.length]? = some x) := hd_ (by simp)
    have HSS : Hid (∀ y, (L0 ++ [x]).set L0.length y = L0 ++ [y]) := hd_ (by simp)
    clear hx hfz hcl hown hm hLn
    generalize L0.length = m at *
    by_cases hq : x.b = S / 4
    ·have hb : ((x.b : Int) == (S : Int) / 4) = true := by simp [hq]
     have HQ := hd_ hq; clear hq
     go_wp2
     go_roundw
     case rel => exact ⟨k + 1, by omega, by have := HS.out; go_num, by
      rw [HN.out, addP_last, if_pos HQ.out, ← HSS.out]
      exact (HO.out.gr gri).store spIs m 2 x _ _ HX.out (by decide) rfl trivial, by haveI : Past w g := ⟨hbg⟩; exact gri⟩
     case measure => have := HS.out; simp [intOf]; omega
    ·have hb : ((x.b : Int) == (S : Int) / 4) = false := by
      simp only [beq_eq_false_iff_ne, ne_eq]; omega
     have HQ := hd_ hq; clear hq
     go_wp2_with (first | (at_builtin; refine wp_append_n spIs rfl _ _ rfl rfl (HO.out.gr gri) _ 0 [⟨S / 4, S % 4, S % 4 + 1⟩] 1 1 rfl rfl (fun _ _ => trivial) (CellsN.block _ inferInstance rfl) (by rw [HM.out, List.length_singleton]; omega) past (by simp) ?_; intro v1 W1 h1; have H1 := hd_ h1; clear h1))
     go_roundw
     case rel => exact ⟨k + 1, by omega, by have := HS.out; go_num, by rw [HN.out, addP_last, if_neg HQ.out]; exact H1.out.own, by haveI := H1.out.grc w (Nat.le_refl _); exact gri⟩
     case measure => have := HS.out; simp [intOf]; omega
  ·have : k = c := by omega
   subst this
   have HO := hd_ hown; clear hown
   go_wp2
   go_ret
   exact ⟨_, rfl, HO.out, HG.out⟩
theorem bkC_set (X : Byt) (i : Nat) (x : UInt8) : bkC (X.set i x) = (bkC X).setIfInBounds i (bv x) := by
 apply Array.toList_inj.1
 simp [bkC, List.map_set]
theorem rmerge_any (B D : Byt) (f n c b p : Nat) (w : World) (hB : B.length = 256) (hf : f < 4) (hl : D.length = n) (h64 : n % 64 = 0) (hn : n ≤ (4 - f) * 64) (hb : b < w.heap.size) (hc : ∀ (j : Nat) x, D[j]? = some x → w.cell? ⟨b, p + j, none⟩ = some (bv x)) :
  Calls Tryz.prog 50 #[.agg (bkC B), .int .i64 (f : Int), .slice (some ⟨b, p, none⟩) n c] w fun e w' => e = .returned (.tuple #[.agg (bkC (mergeB B f D)), .int .i64 0]) ∧ Gr w w' := by
 haveI : Old b w := ⟨hb⟩
 haveI := bkC_row hB
 have HC := hd_ hc
 have HL := hd_ hl
 have HB := hd_ hB
 have hmod : (n : Int) % 64 = 0 := by omega
 have hle : ¬ (4 - (f : Int)) < (n : Int) / 64 := by omega
 clear hc hl hB
 go_enter Tryz.func50, Tryz.ntmps50
 go_wp2
 go_loopw [8] (fun i wr => ∃ k : Nat, k ≤ n ∧ i = .int .i64 (k : Int) ∧ BlockAt wr w.heap.size (bkC (mergeB B f (D.take k))) 66 ∧ BlockAt wr (w.heap.size + 1) Tryz.zeroCells66 66 ∧ Gr w wr) (fun i _ => n - (intOf i).toNat)
 case atStart => exact ⟨0, Nat.zero_le _, rfl, by rw [List.take_zero, mergeB_zero]; infer_instance, inferInstance, gri⟩
 case round =>
  obtain ⟨k, hk, rfl, hb1, hb2, hg⟩ := hrel
  haveI := hb1
  haveI := hb2
  haveI := grc_of hg
  haveI := from_of hg
  have hM : (mergeB B f (D.take k)).length = 256 := mergeB_len B f _ HB.out (by have := HL.out; simp; omega)
  haveI := bkC_row hM
  have HG := hd_ hg
  clear hg
  by_cases hlt : k < n
  ·obtain ⟨x, hx⟩ : ∃ x, D[k]? = some x := ⟨_, List.getElem?_eq_getElem (by rw [HL.out]; exact hlt)⟩
   have c1 : wr.cell? ⟨b, p + k, none⟩ = some (.int .u8 x.toNat) := (HG.out.below.cell (p := ⟨b, p + k, none⟩) hb).trans (HC.out k x hx)
   haveI : Old b wr := old_of_cell c1
   obtain ⟨S, hS⟩ : ∃ S, S = 64 * f + k := ⟨_, rfl⟩
   have e1 : 64 * (f : Int) + (k : Int) = (S : Int) := by omega
   have hS2 : S < 256 := by omega
   have z1 : wr.cell? ⟨w.heap.size, S, none⟩ = (bkC (mergeB B f (D.take k)))[S]? := bc S hb1
   obtain ⟨y, hxs⟩ : ∃ y, (bkC (mergeB B f (D.take k)))[S]? = some (bv y) := ⟨_, bkC_at (List.getElem?_eq_getElem (by omega))⟩
   rw [hxs] at z1
   have z2 : wr.frozen? ⟨w.heap.size, S, none⟩ = false := @block_frozen _ _ S _ _ hb1
   have hst : bkC (mergeB B f (D.take (k + 1))) = (bkC (mergeB B f (D.take k))).setIfInBounds S (.int .u8 x.toNat) := by
    rw [List.take_add_one, hx, hS]
    have h1 := mergeB_snoc B f (D.take k) x (by have := HB.out; have := HL.out; simp; omega)
    have h2 : (D.take k).length = k := by simp; have := HL.out; omega
    rw [h2] at h1
    rw [Option.toList_some, h1, bkC_set]
    rfl
   have HST := hd_ hst
   clear hst hx hxs hS hM
   generalize hMM : mergeB B f (D.take k) = M at *
   go_wp2
   go_roundw
   case rel => exact ⟨k + 1, by omega, by go_num, by rw [HST.out]; infer_instance, inferInstance, gri⟩
   case measure => simp [intOf]; omega
  ·have : k = n := by omega
   subst this
   have e : D.take k = D := List.take_of_length_le (by rw [HL.out]; omega)
   rw [e] at hb1 hM
   haveI := hb1
   haveI := bkC_row hM
   clear e
   go_wp2_with (first | (refine wpStoreB rfl _ _ rfl _ _ (bkC (mergeB B f D)) rfl rfl inferInstance inferInstance inferInstance ?_) | (refine wpLoadB rfl _ rfl _ (bkC (mergeB B f D)) rfl hb1 inferInstance ?_))
   exact bodyPost_ret (run_resB rfl _ _ _ _ rfl rfl inferInstance inferInstance) rfl ⟨rfl, gri⟩
theorem rspan_any (b f t : Nat) (h1 : f < t) (h2 : t ≤ 4) (w : World) : Calls Tryz.prog 80 #[.agg #[.int .i64 (b : Int), .int .i64 (f : Int), .int .i64 (t : Int)]] w fun e w' => e = .returned (.bool true) ∧ Gr w w' := by
 go_enter Tryz.func80, Tryz.ntmps80
 go_wp2
 go_ret
 exact ⟨rfl, gri⟩
theorem rcut_any (B : Byt) (b f t : Nat) (hB : B.length = 256) (h1 : f < t) (h2 : t ≤ 4) (w : World) : Calls Tryz.prog 53 #[.agg (bkC B), .agg #[.int .i64 (b : Int), .int .i64 (f : Int), .int .i64 (t : Int)]] w fun e w' => ∃ v, e = .returned v ∧ OwnN bE w.heap.size w' v (cutK B ⟨b, f, t⟩) ∧ Gr w w' := by
 haveI := bkC_row hB
 have HB := hd_ hB
 have HS := hd_ (fun W => rspan_any b f t h1 h2 W)
 clear hB
 go_enter Tryz.func53, Tryz.ntmps53
 go_wp2
 go_loopw [5, 6] (fun v i wr => ∃ k : Nat, k ≤ 64 * (t - f) ∧ i = .int .i64 ((64 * f + k : Nat) : Int) ∧ OwnN bE w.heap.size wr v ((B.drop (64 * f)).take k) ∧ BlockAt wr w.heap.size (bkC B) 66 ∧ BlockAt wr (w.heap.size + 1) #[.int .i64 (b : Int), .int .i64 (f : Int), .int .i64 (t : Int)] 107 ∧ Gr w wr) (fun _ i _ => 64 * t - (intOf i).toNat)
 case atStart => exact ⟨0, Nat.zero_le _, by go_num, OwnN.nil _ _, inferInstance, inferInstance, gri⟩
 case round =>
  obtain ⟨k, hk, rfl, hown, hb1, hb2, hg⟩ := hrel
  haveI := hb1
  haveI := hb2
  haveI := hb1.old
  haveI := hb2.old
  haveI := grc_of hg
  haveI := from_of hg
  have s0 : wr.cell? ⟨w.heap.size + 1, 0, none⟩ = some (.int .i64 (b : Int)) := (bc 0 hb2).trans rfl
  have s1 : wr.cell? ⟨w.heap.size + 1, 1, none⟩ = some (.int .i64 (f : Int)) := (bc 1 hb2).trans rfl
  have s2 : wr.cell? ⟨w.heap.size + 1, 2, none⟩ = some (.int .i64 (t : Int)) := (bc 2 hb2).trans rfl
  have HG := hd_ hg; clear hg
  have HO := hd_ hown; clear hown
  obtain ⟨S, hS⟩ : ∃ S, S = 64 * f + k := ⟨_, rfl⟩
  rw [← hS]
  have hS1 : S ≤ 64 * t := by omega
  have HSS := hd_ hS
  by_cases hlt : S < 64 * t
  ·obtain ⟨x, hx⟩ : ∃ x, B[S]? = some x := ⟨_, List.getElem?_eq_getElem (by rw [HB.out]; omega)⟩
   have z1 : wr.cell? ⟨w.heap.size, S, none⟩ = some (.int .u8 x.toNat) := (bc S hb1).trans (bkC_at hx)
   have hnx : (B.drop (64 * f)).take (k + 1) = (B.drop (64 * f)).take k ++ [x] := by
    rw [List.take_add_one, List.getElem?_drop, ← hS, hx]; rfl
   have hln : ((B.drop (64 * f)).take k).length ≤ 256 := by have := HB.out; simp; omega
   have HN := hd_ hnx
   clear hnx hx hS
   go_wp2_with (first | (go_at_call 80; ((with_reducible refine (HS.out _).mono ?_); rintro _ _ ⟨rfl, g1, rfl⟩)) | (at_builtin; refine wp_append_n bIs rfl _ _ rfl rfl (HO.out.gr gri) _ 0 [x] 1 1 rfl rfl (fun _ _ => trivial) (CellsN.block _ inferInstance rfl) (by simp; omega) past (by simp) ?_; intro v1 W1 h1; have H1 := hd_ h1; clear h1))
   go_roundw
   case rel => exact ⟨k + 1, by have := HSS.out; omega, by have := HSS.out; go_num, by rw [HN.out]; exact H1.out.own, H1.out.keep _ _ _ inferInstance (by decide), H1.out.keep _ _ _ inferInstance (by decide), by haveI := H1.out.grc w (Nat.le_refl _); exact gri⟩
   case measure => have := HSS.out; simp [intOf]; omega
  ·have e : k = 64 * (t - f) := by omega
   have HE := hd_ e
   clear hS e
   go_wp2_with ((go_at_call 80; ((with_reducible refine (HS.out _).mono ?_); rintro _ _ ⟨rfl, g1, rfl⟩)))
   go_ret
   exact ⟨_, rfl, by rw [cutK, ← HE.out]; exact HO.out.gr gri, gri⟩
theorem sliceI (b p n c x y : Nat) (h0 : x < c) (h1 : x ≤ y) (h2 : y ≤ n) (h3 : n ≤ c) (w : World) : (Instr.slice 25 (.slice (some ⟨b, p, none⟩) n c) (some (.int .i64 (x : Int))) (some (.int .i64 (y : Int))) none).run Tryz.prog w = .ok (.slice (some ⟨b, p + x, none⟩) (y - x) (c - x)) w := by
 have h := run_slice_lh (P := Tryz.prog) w 25 (some ⟨b, p, none⟩) n c (by rw [elemB]; exact Tryz.underlying25) .i64 .i64 (x : Int) (y : Int) (by omega) (by omega) (by omega)
 rw [h, elemB, asize]
 rw [Int.toNat_natCast, Int.toNat_natCast]
 simp only [Result.andThen_ok, sliced]
 rw [if_neg (by omega)]
 simp [Go.WideShapes.add_plain]
theorem rdata_any (b f t at_ n c B p : Nat) (D : Byt) (w : World) (hb : b ≤ 1000000) (h1 : f < t) (h2 : t ≤ 4) (ha : at_ ≤ 4 * b + f) (hat : at_ ≤ 1073741824) (hn : 4 * b + t ≤ at_ + n / 64) (hn2 : n ≤ 1000000) (hl : D.length = n) (hnc : n ≤ c) (hB : B < w.heap.size) (hc : ∀ (j : Nat) x, D[j]? = some x → w.cell? ⟨B, p + j, none⟩ = some (bv x)) :
  Calls Tryz.prog 51 #[.agg #[.int .i64 (b : Int), .int .i64 (f : Int), .int .i64 (t : Int)], .int .i64 (at_ : Int), .slice (some ⟨B, p, none⟩) n c] w fun e w' => ∃ v, e = .returned v ∧ OwnN bE w.heap.size w' v (segK ⟨b, f, t⟩ at_ D) ∧ Gr w w' := by
 have HC := hd_ hc
 have HL := hd_ hl
 have HS := hd_ (fun W => rspan_any b f t h1 h2 W)
 haveI : Old B w := ⟨hB⟩
 have HBl := hd_ hB
 clear hl hc hB
 go_enter Tryz.func51, Tryz.ntmps51
 go_wp2_with ((go_at_call 80; ((with_reducible refine (HS.out _).mono ?_); rintro _ _ ⟨rfl, g1, rfl⟩)))
 go_loopw [7, 8] (fun v i wr => ∃ k : Nat, k ≤ t - f ∧ i = .int .i64 ((f + k : Nat) : Int) ∧ OwnN bE w.heap.size wr v ((D.drop (64 * (4 * b + f - at_))).take (64 * k)) ∧ BlockAt wr w.heap.size #[.int .i64 (b : Int), .int .i64 (f : Int), .int .i64 (t : Int)] 107 ∧ Gr w wr) (fun _ i _ => t - (intOf i).toNat)
 case atStart => exact ⟨0, Nat.zero_le _, by go_num, OwnN.nil _ _, inferInstance, gri⟩
 case round =>
  obtain ⟨k, hk, rfl, hown, hb1, hg⟩ := hrel
  haveI := hb1
  haveI := hb1.old
  haveI := grc_of hg
  haveI := from_of hg
  have s0 : wr.cell? ⟨w.heap.size, 0, none⟩ = some (.int .i64 (b : Int)) := (bc 0 hb1).trans rfl
  have s2 : wr.cell? ⟨w.heap.size, 2, none⟩ = some (.int .i64 (t : Int)) := (bc 2 hb1).trans rfl
  have HG := hd_ hg; clear hg
  have HO := hd_ hown; clear hown
  obtain ⟨S, hS⟩ : ∃ S, S = f + k := ⟨_, rfl⟩
  rw [← hS]
  have hS1 : S ≤ t := by omega
  have HSS := hd_ hS
  by_cases hlt : S < t
  ·obtain ⟨N, hN⟩ : ∃ N, N = 4 * b + S - at_ := ⟨_, rfl⟩
   have e1 : 4 * (b : Int) + (S : Int) - (at_ : Int) = (N : Int) := by omega
   have hN1 : (N : Int) < (n : Int) / 64 := by omega
   obtain ⟨Q, hQ⟩ : ∃ Q, Q = 64 * N := ⟨_, rfl⟩
   obtain ⟨R, hR⟩ : ∃ R, R = Q + 64 := ⟨_, rfl⟩
   have e2 : 64 * (N : Int) = (Q : Int) := by omega
   have e3 : (Q : Int) + 64 = (R : Int) := by omega
   have hN3 : N ≤ 1000000 := by omega
   have hQ3 : Q ≤ 64000000 := by omega
   have hR3 : R ≤ 64000064 := by omega
   have hsl := fun W => sliceI B p n c Q R (by omega) (by omega) (by omega) hnc W
   have hd1 : R - Q = 64 := by omega
   rw [hd1] at hsl
   have hnx : (D.drop (64 * (4 * b + f - at_))).take (64 * (k + 1)) = (D.drop (64 * (4 * b + f - at_))).take (64 * k) ++ (D.drop Q).take 64 := by
    rw [show 64 * (k + 1) = 64 * k + 64 by omega, List.take_add, List.drop_drop]
    congr 3
    omega
   have hln : ((D.drop (64 * (4 * b + f - at_))).take (64 * k)).length ≤ 256 := by simp; omega
   have hl2 : ((D.drop Q).take 64).length = 64 := by have := HL.out; simp; omega
   have hcl : ∀ W, Gr wr W → CellsN bE W B (p + Q) ((D.drop Q).take 64) := fun W hW => cellsB (Row.part (Nat.lt_of_lt_of_le HBl.out (HG.out.trans hW).below.size) (fun j x hj => ((HG.out.trans hW).below.cell (p := ⟨B, p + j, none⟩) HBl.out).trans (HC.out j x hj)) Q 64)
   have HN := hd_ hnx
   have HCL := hd_ hcl
   have HL2 := hd_ hl2
   have hln2 : ((D.drop (64 * (4 * b + f - at_))).take (64 * k)).length + ((D.drop Q).take 64).length ≤ 100000000 := by omega
   have HLN := hd_ hln2
   clear hnx hS hcl hl2 hln hln2 hd1 hN hQ hR
   go_wp2_with (first | (at_builtin; refine wp_append_n bIs rfl _ _ rfl rfl (HO.out.gr gri) B (p + Q) ((D.drop Q).take 64) 64 _ HL2.out rfl (fun _ _ => trivial) (HCL.out _ gri) HLN.out past (by rw [HL2.out]; decide) ?_; intro v1 W1 h1; have H1 := hd_ h1; clear h1))
   go_roundw
   case rel => exact ⟨k + 1, by have := HSS.out; omega, by have := HSS.out; go_num, by rw [HN.out]; exact H1.out.own, H1.out.keep _ _ _ inferInstance (by decide), by haveI := H1.out.grc w (Nat.le_refl _); exact gri⟩
   case measure => have := HSS.out; simp [intOf]; omega
  ·have e : k = t - f := by omega
   have HE := hd_ e
   clear hS e
   go_wp2
   go_ret
   exact ⟨_, rfl, by rw [segK, ← HE.out]; exact HO.out.gr gri, gri⟩
def RPost (base R : Nat) (d : Dev) (code done : Int) (data : Byt) (w : World) (e : Ending) (w' : World) : Prop :=
 ∃ A n c, e = .returned (.agg #[.int .i64 code, .int .i64 done, .slice A n c]) ∧ OwnN bE w.heap.size w' (.slice A n c) data ∧ RefAt base w' R d ∧ Below base w w' ∧ RK w w'
theorem RefIn.setCell {base R : Nat} {W : World} {v : Value} {vf : Int → Value} {d : Dev} (h : RefIn base W R v vf d) (B o : Nat) (u : Value) {cs : Array Value} {t : TypeId} [hB : BlockAt W B cs t] (h1 : t ≠ 35) (h2 : t ≠ 102) (h3 : t ≠ 159) : RefIn base (W.setCell ⟨B, o, none⟩ u) R v vf d := by
 have hR : R ≠ B := fun e => by
  subst e
  have := h.blk.eq
  rw [hB.eq] at this
  cases this
  exact h1 rfl
 refine ⟨⟨(Below.heap_setCell W ⟨B, o, none⟩ u R hR).trans h.blk.eq⟩, h.own.set_ B o u h2, fun p hp => (h.vol p hp).keep fun b cs' f hb => Below.heap_setCell W ⟨B, o, none⟩ u b (fun e => ?_), h.bR, h.ok⟩
 subst e
 rw [hB.eq] at hb
 cases hb
 exact h3 rfl
theorem RK.new {w W : World} (k : RK w W) {B o : Nat} (hB : w.heap.size ≤ B) (u : Value) : RK w (W.setCell ⟨B, o, none⟩ u) := ⟨by have := k.size; simpa [World.setCell] using this, fun b ob hb hn => by
 have hl := (Array.getElem?_eq_some_iff.1 hb).1
 exact (Below.heap_setCell W ⟨B, o, none⟩ u b (by show b ≠ B; omega)).trans (k.keep b ob hb hn)⟩
theorem ans_ref {base : Nat} {W : World} {R : Nat} {v : Value} {vf : Int → Value} {d : Dev} (h : RefIn base W R v vf d) {B : Nat} {cs : Array Value} (hB : BlockAt W B cs 38) (c0 c1 c2 : Value) : RefAt base (((W.setCell ⟨B, 0, none⟩ c0).setCell ⟨B, 1, none⟩ c1).setCell ⟨B, 2, none⟩ c2) R d :=
 ⟨v, vf, ((h.setCell B 0 c0 (by decide) (by decide) (by decide)).setCell B 1 c1 (by decide) (by decide) (by decide)).setCell B 2 c2 (by decide) (by decide) (by decide)⟩
theorem ans_rk {w W : World} (h : RK w W) {B : Nat} (hB : w.heap.size ≤ B) (c0 c1 c2 : Value) : RK w (((W.setCell ⟨B, 0, none⟩ c0).setCell ⟨B, 1, none⟩ c1).setCell ⟨B, 2, none⟩ c2) := ((h.new hB c0).new hB c1).new hB c2
def RC (base R : Nat) (d : Dev) (W : World) (e : Ending) (w' : World) : Prop := e = .returned (.tuple #[]) ∧ RefAt base w' R d ∧ RK W w' ∧ Below base W w'
theorem RefIn.setSM {base R : Nat} {w W W2 : World} {g n c : Nat} {vf : Int → Value} {d : Dev} (h : RefIn base w R (.slice (some ⟨g, 0, none⟩) n c) vf d) (hg : Gr w W) {i : Nat} {p : Int × VolM} (hp : d[i]? = some p) (s : Int) (hg2 : Gr (W.setCell ⟨g, i * 3 + 1, none⟩ (.int .i64 s)) W2) (m : List (Int × Byt)) (u : Value) (hu : BlkS W2 u m) (hok : VolOk (s, m)) :
  RefIn base (W2.setCell ⟨g, i * 3 + 2, none⟩ u) R (.slice (some ⟨g, 0, none⟩) n c) (fun k => if k = p.1 then u else vf k) (putK d p.1 (s, m)) ∧ RK W (W2.setCell ⟨g, i * 3 + 2, none⟩ u) := by
 have H := h.gr hg
 obtain ⟨cs, hh⟩ : ∃ cs, W.heap[g]? = some (.cells cs 102 (0, 0)) := by
  rcases H.own.own.2 with ⟨e, _⟩ | ⟨b, cap, cur, e, _, hh, _⟩
  ·cases e
  ·cases e; exact ⟨_, hh⟩
 have hk := h.ok.keys p (List.mem_of_getElem? hp)
 have hset := putK_set h.ok.sort (y := (s, m)) (show d[i]? = some (p.1, p.2) from hp)
 have hrk1 : RK W (W.setCell ⟨g, i * 3 + 1, none⟩ (.int .i64 s)) := (RK.refl W).set_ g _ _ hh (.inl rfl)
 haveI : BlockAt W g cs 102 := ⟨hh⟩
 have hh2 : BlockAt W2 g (cs.setIfInBounds (i * 3 + 1) (.int .i64 s)) 102 := BlockAt.gr (inferInstance : BlockAt (W.setCell ⟨g, i * 3 + 1, none⟩ (.int .i64 s)) g _ _) hg2
 have hrk2 : RK W W2 := hrk1.trans (RK.gr hg2)
 have hrk : RK W (W2.setCell ⟨g, i * 3 + 2, none⟩ u) := hrk2.set_ g _ u hh2.eq (.inl rfl)
 have hrk3 : RK W2 (W2.setCell ⟨g, i * 3 + 2, none⟩ u) := (RK.refl W2).set_ g _ u hh2.eq (.inl rfl)
 have hil : i < d.length := (List.getElem?_eq_some_iff.1 hp).1
 refine ⟨⟨?_, ?_, fun q hq => ?_, h.bR, put_ok h.ok hk.1 hk.2 hok⟩, hrk⟩
 ·haveI := H.blk
  haveI : BNe R g := ⟨(H.neD rfl).symm⟩
  haveI : BlockAt W2 R _ _ := BlockAt.gr (inferInstance : BlockAt (W.setCell ⟨g, i * 3 + 1, none⟩ (.int .i64 s)) R _ _) hg2
  infer_instance
 ·have hs1 := H.own.store rvIs i 1 (rvF vf p) ⟨p.1, s, vf p.1⟩ (.int .i64 s) (by rw [List.getElem?_map, hp]; rfl) (by decide) rfl (h.vol p (List.mem_of_getElem? hp)).one
  have hs2 := (hs1.gr hg2).store rvIs i 2 ⟨p.1, s, vf p.1⟩ ⟨p.1, s, u⟩ u (by rw [List.getElem?_set_self (by rw [List.length_map]; exact hil)]) (by decide) rfl hu.one
  rw [List.set_set] at hs2
  have e : (d.map (rvF vf)).set i ⟨p.1, s, u⟩ = (putK d p.1 (s, m)).map (rvF fun k => if k = p.1 then u else vf k) := by
   rw [← hset]
   apply List.ext_getElem?
   intro j
   rw [List.getElem?_set, List.getElem?_map, List.getElem?_map, List.getElem?_set]
   by_cases hj : i = j
   ·subst hj
    simp [hil, rvF]
   ·simp only [hj, if_false]
    cases hq : d[j]? with
    | none => rfl
    | some q =>
     have hne : ¬ q.1 = p.1 := fun e => by
      have h1 := findN_at h.ok.sort (show d[i]? = some (p.1, p.2) from hp)
      have h2 := findN_at h.ok.sort (show d[j]? = some (q.1, q.2) from hq)
      rw [e, h1] at h2
      cases h2
      exact hj rfl
     simp [rvF, hne]
  rw [e] at hs2
  exact hs2
 ·rcases (mem_putK h.ok.sort q).1 hq with rfl | ⟨hq, hne⟩
  ·simp only [if_true]
   exact hrk3.blkS hu
  ·simp only [if_neg hne]
   exact hrk.blkS (H.vol q hq)
theorem stm_rc {base R : Nat} {W : World} {g n c : Nat} {vf : Int → Value} {d : Dev} (h : RefIn base W R (.slice (some ⟨g, 0, none⟩) n c) vf d) (hb : base ≤ g) {i : Nat} {p : Int × VolM} (hp : d[i]? = some p) (m : List (Int × Byt)) (hok : VolOk (p.2.1, m)) {e : Ending} {w' : World} (hst : StM W g (i * 3 + 2) m e w') (hbase : base ≤ W.heap.size) : RC base R (putK d p.1 (p.2.1, m)) W e w' := by
 obtain ⟨rfl, w1, u, hg, ho, rfl⟩ := hst
 have hr := h.setM hg hp m u ho.blkS hok
 refine ⟨rfl, ⟨_, _, hr⟩, ?_, (hg.below.mono hbase).setCell (p := ⟨g, i * 3 + 2, none⟩) hb u⟩
 have H := h.gr hg
 rcases H.own.own.2 with ⟨e, _⟩ | ⟨b, cap, cur, e, _, hh, _⟩
 ·cases e
 ·cases e
  exact (RK.gr hg).set_ g _ u hh (.inl rfl)
theorem vols_len {x : VolM} (h : VolOk x) : x.2.length ≤ 256 := by
 have h1 := h.s0
 have h2 := h.s1
 have hk : ∀ p ∈ x.2, 0 ≤ p.1 ∧ p.1 < 256 := fun p hp => by have := h.keys p hp; omega
 have hs := h.sort
 have : ∀ (l : List (Int × Byt)) (lo : Int), SortK l → (∀ p ∈ l, lo ≤ p.1 ∧ p.1 < 256) → lo ≤ 256 → (l.length : Int) ≤ 256 - lo := by
  intro l
  induction l with
  | nil => intro lo _ _ h; simp; omega
  | cons p r ih =>
   intro lo hs hk hlo
   have hp := hk p (.head _)
   have h9 := List.pairwise_cons.1 hs
   have := ih (p.1 + 1) h9.2 (fun q hq => ⟨by have := h9.1 q hq; omega, (hk q (.tail _ hq)).2⟩) (by omega)
   simp only [List.length_cons]
   omega
 have := this x.2 0 hs hk (by omega)
 omega
theorem wpStoreG {W : World} {ops : Array Oper} {rest : List Oper} {o : Oper} {a : Act} {Q : Exit → Act → World → Prop} {ty : TypeId} (hgd : o.guard = none) (x y : Operand) (ho : o.op = .store ty x y) (ad : Addr) (u : Value) (hx : a.eval x = .pointer (some ad)) (hy : a.eval y = u) (W' : World) (hrun : (storeVar ty ad u).run Tryz.prog W = .ok () W')
  (h : wpList Tryz.prog ops Q rest (a.put o.dst undef) W') : wpList Tryz.prog ops Q (o :: rest) a W := by
 refine wpList_plain hgd fun K' hK' => ?_
 unfold Oper.wp execOp
 simp only [ho, hx, hy, Instr.storeAt, Instr.sureAddr, Sem.run_bind, Sem.run_pure, Result.andThen_ok, hrun]
 exact hK' _ _ h
theorem wrapJ (n : Nat) (h : n < 9223372036854775808) : IntKind.i64.wrap (n : Int) = (n : Int) := by
 have hm : (n : Int) % 18446744073709551616 = n := by omega
 unfold IntKind.wrap
 simp [IntKind.bits, IntKind.signed, hm]
 omega
theorem froV {W : World} {g : Nat} (h : ∃ cs, W.heap[g]? = some (.cells cs 102 (0, 0))) (o : Nat) : W.frozen? ⟨g, o, none⟩ = false := by
 obtain ⟨cs, h⟩ := h
 simp [World.frozen?, h]
theorem del_rows (vf : Int → Value) (d : Dev) (n : Int) (i : Nat) (x : VolM) (j : Nat) (hs : SortK d) (h : d[i]? = some (n, x)) (hj : j = i + 1) : (delK d n).map (rvF vf) = (d.map (rvF vf)).take i ++ (d.map (rvF vf)).drop j := by
 subst hj
 rw [delK_at hs h, List.map_append, ← List.map_take, ← List.map_drop]
theorem add_rc {base R : Nat} {v : Value} {vf : Int → Value} {d : Dev} {n s : Int} {u : Value} {m : List (Int × Byt)} {W : World} (h : RefIn base W R v vf d) (hu : BlkS W u m) (hn : getK d n = none) (hl : d.length ≤ 1000000) (hbase : base ≤ W.heap.size) (hok : DevOk (putK d n (s, m))) :
  Calls Tryz.prog 47 #[.pointer (some ⟨R, 0, none⟩), .agg #[.int .u64 n, .int .i64 s, u]] W (RC base R (putK d n (s, m)) W) := by
 refine (radd_any base R v vf d n s u m W h hu hn hl).mono ?_
 rintro _ _ ⟨rfl, w1, v', hg, ho, rfl⟩
 obtain ⟨h1, h2⟩ := h.setV hg hbase ho (fun p hp => by
  rcases (mem_putK h.ok.sort p).1 hp with rfl | ⟨hp, hne⟩
  ·simp only [if_true]; exact hu.gr hg
  ·simp only [if_neg hne]; exact (h.vol p hp).gr hg) hok
 exact ⟨rfl, ⟨v', _, h1⟩, h2, (hg.below.mono hbase).setCell (p := ⟨R, 0, none⟩) h.bR v'⟩
theorem rpart_ref (xk xv xt xs xa xc most : Int) (xD : Option Addr) (xn xq : Nat) (lx : Byt) (hxn : lx.length = xn) (base R : Nat) (d : Dev) (w : World) (h : RefAt base w R d) (hbase : base ≤ w.heap.size) (hl : d.length ≤ 1000000) (hn : xn ≤ 1000000) (v0 : 0 ≤ xv) (t0 : 0 ≤ xt) (k : Int) (he : errK d ⟨xk, xv, xt, xs, xa, xc, lx⟩ = k) (hk : k = 2 ∨ k = 5 ∨ k = 6 ∨ k = 7) :
  Calls Tryz.prog 18 #[.pointer (some ⟨R, 0, none⟩), .agg #[.int .i64 xk, .int .u64 xv, .int .u64 xt, .int .i64 xs, .int .i64 xa, .int .i64 xc, .slice xD xn xq], .int .i64 most] w (RPost base R d k 0 [] w) := by
 have HR := hd_ (fun W (g : Gr w W) => rrefused_any xk xv xt xs xa xc xD xn xq lx hxn base R d W (h.gr g) hl hn v0 t0)
 rw [he] at HR
 have HH := hd_ h
 clear h he
 rcases hk with rfl | rfl | rfl | rfl
 all_goals
  go_enter Tryz.func18, Tryz.ntmps18
  go_wp2_with ((go_at_call 45; ((with_reducible refine (HR.out _ gri).mono ?_); rintro _ _ ⟨rfl, g1, rfl⟩)))
  obtain ⟨v, vf, hd3⟩ := HH.out
  have gW : Gr w (grown _ g1) := gri
  have bA := (inferInstance : BlockAt (grown _ g1) (w.heap.size + 1) #[.int .i64 0, .int .i64 0, .slice none 0 0] 38)
  exact bodyPost_ret (run_resCell1 rfl _ _ _ _ rfl (ans_block bA _ _ _) Tryz.underlying38 rfl (by kernel_rfl)) rfl ⟨none, 0, 0, rfl, OwnN.nil _ _, ans_ref (hd3.gr gW) bA _ _ _, ans_below (gW.below.mono hbase) (by omega) _ _ _, ans_rk (RK.gr gW) (by omega) _ _ _⟩
theorem rpart_8 (xv xt xs xa xc most : Int) (xD : Option Addr) (xn xq : Nat) (lx : Byt) (hxn : lx.length = xn) (base R : Nat) (d : Dev) (w : World) (h : RefAt base w R d) (hbase : base ≤ w.heap.size) (hl : d.length ≤ 1000000) (hn : xn ≤ 1000000) (v0 : 0 ≤ xv) (t0 : 0 ≤ xt) (he : errK d ⟨8, xv, xt, xs, xa, xc, lx⟩ = 0) :
  Calls Tryz.prog 18 #[.pointer (some ⟨R, 0, none⟩), .agg #[.int .i64 8, .int .u64 xv, .int .u64 xt, .int .i64 xs, .int .i64 xa, .int .i64 xc, .slice xD xn xq], .int .i64 most] w (RPost base R d 0 0 [] w) := by
 have HR := hd_ (fun W (g : Gr w W) => rrefused_any 8 xv xt xs xa xc xD xn xq lx hxn base R d W (h.gr g) hl hn v0 t0)
 have HF := hd_ (fun W (g : Gr w W) => rfind_any base R d xv W (h.gr g) hl)
 rw [he] at HR
 have HH := hd_ h
 clear h he
 generalize idxK d xv = ix at *
 go_enter Tryz.func18, Tryz.ntmps18
 go_wp2_with (first | (go_at_call 45; ((with_reducible refine (HR.out _ gri).mono ?_); rintro _ _ ⟨rfl, g1, rfl⟩)) | (go_at_call 46; ((with_reducible refine (HF.out _ gri).mono ?_); rintro _ _ ⟨rfl, g2, rfl⟩)))
 obtain ⟨v, vf, hd3⟩ := HH.out
 have gW : Gr w (grown _ g2) := gri
 have bA := (inferInstance : BlockAt (grown _ g2) (w.heap.size + 1) #[.int .i64 0, .int .i64 0, .slice none 0 0] 38)
 exact bodyPost_ret (run_resCell1 rfl _ _ _ _ rfl (ans_block bA _ _ _) Tryz.underlying38 rfl (by kernel_rfl)) rfl ⟨none, 0, 0, rfl, OwnN.nil _ _, ans_ref (hd3.gr gW) bA _ _ _, ans_below (gW.below.mono hbase) (by omega) _ _ _, ans_rk (RK.gr gW) (by omega) _ _ _⟩
section
variable {P : Program} {ops : Array Oper} {W : World} {Q : Act → Prop} {a : Act} {o : Oper} {rest : List Oper}
theorem wpCalm_load {ty : TypeId} {x : Operand} {B : Nat} {cs : Array Value} {t : TypeId} {d : TypeDesc} (hg : o.guard = none) (ho : o.op = .load ty x) (hx : a.eval x = .pointer (some ⟨B, 0, none⟩)) (hB : BlockAt W B cs t) (hu : P.underlying ty = some d) (hd : (match d with | .struct _ | .array _ _ => true | _ => false) = true) (hi : (P.info? ty).map (·.size) = some cs.size)
  (h : wpCalm P ops W Q rest (a.put o.dst (.agg cs))) : wpCalm P ops W Q (o :: rest) a := by
 unfold wpCalm
 rw [if_pos (by simp [Region.wanted, hg])]
 refine ⟨.agg cs, fun g => ?_, h⟩
 have hB2 : BlockAt (grown W g) B cs t := inferInstance
 unfold calmAt execOp
 simp only [ho, hx, Instr.loadAt, Instr.sureAddr, Sem.run_bind, Sem.run_pure, Result.andThen_ok, run_loadVar_row (grown W g) B t ty cs (0, 0) d hB2.eq hu hd hi]
 simp [calmUpon]
end
theorem run_storeB {W : World} {B : Nat} {zs cs : Array Value} (hB : BlockAt W B zs 66) (hz : zs.size = 256) (hc : CellRow 256 cs) : (storeVar 66 ⟨B, 0, none⟩ (.agg cs)).run Tryz.prog W = .ok () (W.setRow B cs) := by
 have := run_storeCells_from (P := Tryz.prog) B 66 cs.toList 0 zs W hB.eq (by simp [hz, hc.size]) hc.one
 have hi := infoBlk
 cases hq : Tryz.prog.info? 66 with
 | none => simp [hq] at hi
 | some i =>
  have hs : 256 = i.size := by simp [hq] at hi; omega
  have e : (Value.agg cs).cells = cs := rfl
  have hs2 := hc.size
  simp [storeVar, sizeOf, typeInfo, hq, e, ← hs, hs2, this]
theorem effAt_storeB {w : World} {o : Oper} {a : Act} {K : Value → World → Prop} {x y : Operand} {B : Nat} {zs cs : Array Value} (ho : o.op = .store 66 x y) (hx : a.eval x = .pointer (some ⟨B, 0, none⟩)) (hy : a.eval y = .agg cs) (hB : BlockAt w B zs 66) (hz : zs.size = 256) (hc : CellRow 256 cs) (h : K undef (w.setRow B cs)) : EffAt Tryz.prog o a w K := by
 unfold EffAt execOp
 simp only [ho, hx, hy, Instr.storeAt, Instr.sureAddr, Sem.run_bind, Sem.run_pure, Result.andThen_ok, run_storeB hB hz hc, effUpon]
 exact h
theorem setRow_gr {w0 W : World} {B : Nat} {cs : Array Value} (g : Gr w0 W) (hB : w0.heap.size ≤ B) : Gr w0 (W.setRow B cs) := by
 refine Gr.of (g.below.trans ⟨rfl, rfl, rfl, by simp [World.setRow], fun k hk => ?_⟩)
 simp only [World.setRow, Array.getElem?_modify]
 rw [if_neg (by omega)]
theorem setRow_block {W : World} {B : Nat} {zs cs : Array Value} {T : TypeId} (h : BlockAt W B zs T) : BlockAt (W.setRow B cs) B cs T := ⟨setRow_heap W B zs _ T _ h.eq⟩
section
variable {P : Program} {md : Region.Mode} {ops : Array Oper} {W : World} {L : Blocks → Act → Prop} {f : Nat} {listed : Array Bool} {bs : Blocks} {a : Act}
theorem fe_mixAllocD {o : Oper} {d : Tmp} {T : TypeId} {z : Value} (i : Nat) (hr : Region.ready md ops listed = [i]) (ho : ops[i]? = some o) (hg : o.guard = none) (hd : o.dst = some d) (hop : o.op = .alloc T) (hz : ∀ w, (zeroValue T).run P w = .ok z w)
  (h : ∀ b, W.heap.size ≤ b → (∀ x ∈ bs, x.1 ≠ b) → feAny P md ops W (MixWorld W) L f (listed.setIfInBounds i true) ((b, z.cells, T) :: bs) (a.put (some d) (.pointer (some ⟨b, 0, none⟩)))) : feAny P md ops W (MixWorld W) L (f + 1) listed bs a :=
 fe_mixAlloc i hr ho hg hop hz (by rw [hd]; exact h)
theorem fe_mixStoreN {o : Oper} {T ty : TypeId} {x y : Operand} {b : Nat} {zs : Array Value} (i : Nat) (bs' : Blocks) (cs : Array Value) (hr : Region.ready md ops listed = [i]) (ho : ops[i]? = some o) (hg : o.guard = none) (hd : o.dst = none) (hop : o.op = .store ty x y)
  (hx : a.eval x = .pointer (some ⟨b, 0, none⟩)) (hb : (b, zs, T) ∈ bs) (hW : W.heap.size ≤ b) (hy : (a.eval y).cells = cs) (hi : (P.info? ty).map (·.size) = some cs.size) (hold : zs.size = cs.size) (h1 : cs.toList.all (·.oneCell') = true)
  (hp : ∀ z ∈ bs', z = (b, cs, T) ∨ (z ∈ bs ∧ z.1 ≠ b))
  (h : feAny P md ops W (MixWorld W) L f (listed.setIfInBounds i true) bs' a) : feAny P md ops W (MixWorld W) L (f + 1) listed bs a :=
 fe_mixStore i bs' cs hr ho hg hop hx hb hW hy hi hold h1 hp (by rw [hd]; exact h)
theorem fe_mixCalmD {o : Oper} {d : Tmp} (i : Nat) (v : Value) (hr : Region.ready md ops listed = [i]) (ho : ops[i]? = some o) (hg : o.guard = none) (hd : o.dst = some d) (hc : ∀ g : Growth W, calmAt P o a (grown W g) v)
  (h : feAny P md ops W (MixWorld W) L f (listed.setIfInBounds i true) bs (a.put (some d) v)) : feAny P md ops W (MixWorld W) L (f + 1) listed bs a :=
 fe_mixCalm i v hr ho hg hc (by rw [hd]; exact h)
end
theorem effAt_storeG {w w' : World} {o : Oper} {a : Act} {K : Value → World → Prop} {ty : TypeId} {x y : Operand} {ad : Addr} {u : Value} (ho : o.op = .store ty x y) (hx : a.eval x = .pointer (some ad)) (hy : a.eval y = u) (hrun : (storeVar ty ad u).run Tryz.prog w = .ok () w') (h : K undef w') : EffAt Tryz.prog o a w K := by
 unfold EffAt execOp
 simp only [ho, hx, hy, Instr.storeAt, Instr.sureAddr, Sem.run_bind, Sem.run_pure, Result.andThen_ok, hrun, effUpon]
 exact h
theorem CellsN.rk {α : Type} {e : EK α} {W W' : World} {g p : Nat} {xs : List α} {cs : Array Value} {t : TypeId} {f : Nat × Nat} (h : CellsN e W g p xs) (hh : W.heap[g]? = some (.cells cs t f)) (ht : ¬ refT t) (k : RK W W') : CellsN e W' g p xs := fun j x hj i u hu => by
 rw [← h j x hj i u hu]
 have := k.keep g _ hh (fun cs' t' f' e => by cases e; exact ht)
 simp [World.cell?, this, hh]
theorem makeQ (q : Nat) (hq : q ≤ 6400000) (W : World) : (Instr.makeSlice 25 (.int .i64 (q : Int)) (.int .i64 (q : Int))).run Tryz.prog W = .ok (.slice (some ⟨W.heap.size, 0, none⟩) q q) (W.alloc (.cells (bkC (List.replicate q 0)) 5)) := by
 obtain ⟨i0, hi, hz0, hz2, hz3⟩ := info_parts bIs.hE
 have hi2 : i0.size = 1 := hz2
 have hi3 : i0.bytes = 1 := hz3
 have h := run_makeSlice (P := Tryz.prog) W 25 5 i0 (.int .u8 0) Tryz.underlying25 hi hz0 .i64 .i64 (q : Int) (q : Int) (by omega) (Int.le_refl _) (by rw [hi2]; omega) (by rw [hi3]; omega) (by omega)
 rw [h, hi2, Int.toNat_natCast, Nat.mul_one, show (Value.int .u8 0).cells = #[.int .u8 0] from rfl, madeB]
end Go.Proofs.YtddckdhnolmjoaaGreat
