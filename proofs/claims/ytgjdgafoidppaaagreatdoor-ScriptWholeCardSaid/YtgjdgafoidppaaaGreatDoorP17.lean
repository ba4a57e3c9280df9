/- The reference's ActOf. Conditions: a text of at most 200000 bytes; the tables stand. -/
import Derived.Test.YtgjdgafoidppaaaGreatDoorP16
namespace Go.Proofs.YtgjdgafoidppaaaGreatDoor
open Go.RowKit
set_option linter.unusedVariables false
set_option linter.unusedSimpArgs false
set_option linter.unnecessarySimpa false
def acL : List ByteArray := [⟨#[97, 115, 107]⟩, ⟨#[99, 97, 114, 114, 121]⟩, ⟨#[116, 105, 99, 107]⟩, ⟨#[111, 102, 102]⟩, ⟨#[111, 110]⟩, ⟨#[102, 117, 115, 101]⟩, ⟨#[108, 101, 97, 100]⟩, ⟨#[100, 101, 103, 114, 97, 100, 101]⟩, ⟨#[103, 114, 111, 119]⟩, ⟨#[97, 108, 108]⟩]
theorem place_ac (b : Nat) (y : ByteArray) (w : World) (kk : Int) (hk : Lib.idxOfS acL y + 1 = kk) [hB : BlockAt w b (acL.map Value.string).toArray 9] :
  Calls Tryz.prog 57 #[.slice (some ⟨b, 0, none⟩) 10 10, .string y] w fun e w' => e = .returned (.int .i64 kk) ∧ w = w' := by
 subst hk
 refine place_any b 0 10 acL 10 rfl y w (by omega) (fun j z hj => ?_)
 rw [Nat.zero_add, block_cells]
 simp [hj]
theorem ac_kOf (x : ByteArray) : Lib.idxOfS acL x + 1 = max (Lib.idxOfS acWl x) 0 := by
 have e : Lib.idxOfS acWl x = if (⟨#[]⟩ : ByteArray) = x then 0 else Lib.idxFromS acL x 1 := rfl
 have h := idx_shift x acL 0
 have e2 : Lib.idxOfS acL x = Lib.idxFromS acL x 0 := rfl
 by_cases hx : (⟨#[]⟩ : ByteArray) = x
 ·subst hx
  decide
 ·rw [e, if_neg hx]
  rw [Nat.zero_add] at h
  omega
def nd9 (K : Int) (ws : List ByteArray) : Int := if K = 2 ∨ K = 10 then 0 else nD ws 1 1
def m9 (K : Int) (ws : List ByteArray) : Int := if K = 2 then nD ws 1 1000000 else 0
set_option maxRecDepth 100000 in
set_option maxHeartbeats 8000000 in
theorem ractOf_own (x : ByteArray) (hx : x.size ≤ 200000) (w : World) [hk : Tb w] : Calls Tryz.prog 20 #[.string x] w fun e w' => ∃ Ad qd Av qv, e = .returned (.tuple #[.agg (actB (actRes x) Ad qd Av qv), .bool (goodA x)]) ∧ (actRes x).o.d.length ≤ qd ∧ (∃ b, OwnR bv 5 b w' (.slice Ad (actRes x).o.d.length qd) (actRes x).o.d) ∧ (actRes x).pk.length ≤ qv ∧ (∃ b, OwnR (Value.int .i64) 3 b w' (.slice Av (actRes x).pk.length qv) (actRes x).pk) ∧ Gr w w' := by
 have few : (wordsB 32 x).length ≤ 1000000 := by have := wordsB_le 32 x; omega
 have hw : ∀ y ∈ wordsB 32 x, y.size ≤ 200000 := fun y hy => Nat.le_trans (wordsB_each 32 x y hy) hx
 have FEW := Lib.hid few; have HW := Lib.hid hw; clear few hw
 have HKL := Lib.hid (aKOf_le (hdW (wordsB 32 x)))
 have HWD := Lib.hid (fun (y : ByteArray) (hy : y.size ≤ 200000) V => (show Calls Tryz.prog 41 #[.string y, .int .u8 32] V (fun e w' => ∃ v, e = .returned v ∧ OwnS V.heap.size w' v (wordsB 32 y) ∧ Below V.heap.size V w') from words26_any y 32 (by omega) V))
 have HWC := Lib.hid (fun (y : ByteArray) (hy : y.size ≤ 200000) V => (show Calls Tryz.prog 41 #[.string y, .int .u8 44] V (fun e w' => ∃ v, e = .returned v ∧ OwnS V.heap.size w' v (wordsB 44 y) ∧ Below V.heap.size V w') from words26_any y 44 (by omega) V))
 go_enter Tryz.func20, Tryz.ntmps20
 go_wp2_with ((go_at_call 41; ((with_reducible refine (HWD.out x hx _).mono ?_))))
 rintro _ W1 ⟨w1, rfl, hown0, hbw0⟩
 generalize hws : wordsB 32 x = ws at *
 have HWS := Lib.hid hws; clear hws
 have hown : OwnS (w.heap.size + 1) W1 w1 ws := by simpa using hown0
 have hbw1 : Below (w.heap.size + 1) (w.alloc (.cells #[.int .i64 0, .int .i64 0, .int .i64 0, .int .i64 0, .int .u64 0, .int .u64 0, .int .i64 0, .int .i64 0, .int .i64 0, .slice none 0 0, .bool false, .slice none 0 0] 42)) W1 := by simpa using hbw0
 have hsz : w.heap.size + 1 ≤ W1.heap.size := by simpa using hbw0.size
 clear hown0 hbw0
 go_wp2_with (at_builtin; refine wp_append_strs rfl _ _ rfl (w.heap.size + 1) w1 ws ?hs1 ?own1 _ (List.replicate 6 (⟨#[]⟩ : ByteArray)) 6 rfl rfl ?hc1 (by have := FEW.out; simp; omega) ?hb1 ?_)
 case hs1 => rfl
 case own1 => exact hown.alloc_ _
 case hc1 =>
  intro j y hj
  match j, hj with
  | 0, hj => simp at hj; subst hj; simp [go_sem]
  | 1, hj => simp at hj; subst hj; simp [go_sem]
  | 2, hj => simp at hj; subst hj; simp [go_sem]
  | 3, hj => simp at hj; subst hj; simp [go_sem]
  | 4, hj => simp at hj; subst hj; simp [go_sem]
  | 5, hj => simp at hj; subst hj; simp [go_sem]
 case hb1 => simp; omega
 intro w2 W2 a2
 have hb2 : Below w.heap.size w W2 := Below.trans (below_alloc (Below.refl _ _) (.cells #[.int .i64 0, .int .i64 0, .int .i64 0, .int .i64 0, .int .u64 0, .int .u64 0, .int .i64 0, .int .i64 0, .int .i64 0, .slice none 0 0, .bool false, .slice none 0 0] 42)) (((hbw1.alloc hsz _).trans a2.below).mono (by omega))
 have bR0 : BlockAt W1 w.heap.size #[.int .i64 0, .int .i64 0, .int .i64 0, .int .i64 0, .int .u64 0, .int .u64 0, .int .i64 0, .int .i64 0, .int .i64 0, .slice none 0 0, .bool false, .slice none 0 0] 42 := ⟨(hbw1.block w.heap.size (by omega)).trans (inferInstance : BlockAt (w.alloc (.cells #[.int .i64 0, .int .i64 0, .int .i64 0, .int .i64 0, .int .u64 0, .int .u64 0, .int .i64 0, .int .i64 0, .int .i64 0, .slice none 0 0, .bool false, .slice none 0 0] 42)) w.heap.size _ _).eq⟩
 have bR2 : BlockAt W2 w.heap.size #[.int .i64 0, .int .i64 0, .int .i64 0, .int .i64 0, .int .u64 0, .int .u64 0, .int .i64 0, .int .i64 0, .int .i64 0, .slice none 0 0, .bool false, .slice none 0 0] 42 := a2.keep _ _ _ inferInstance (by decide)
 obtain ⟨VA, vc, rfl, hvc, hrow⟩ := a2.own.form
 have hlen6 : 6 ≤ (ws ++ List.replicate 6 (⟨#[]⟩ : ByteArray)).length := by simp
 have hne6 : (ws ++ List.replicate 6 (⟨#[]⟩ : ByteArray)) ≠ [] := fun h => by rw [h] at hlen6; simp at hlen6
 obtain ⟨b, o, rfl, hb, hxx⟩ := hrow.at_ hne6
 clear hxx
 have q0 : W2.cell? ⟨b, o, none⟩ = some (.string (hdW ws)) := row_cells hrow 0 _ (hd_at ws 6 0 (by omega))
 have q1 := row_cells hrow 1 _ (hd_at ws 6 1 (by omega))
 have q2 := row_cells hrow 2 _ (hd_at ws 6 2 (by omega))
 have q3 : W2.cell? ⟨b, o + 3, none⟩ = some (.string (hdW ((ws.drop 2).drop 1))) := by rw [List.drop_drop]; exact row_cells hrow 3 _ (hd_at ws 6 3 (by omega))
 have q4 : W2.cell? ⟨b, o + 4, none⟩ = some (.string (hdW ((ws.drop 2).drop 2))) := by rw [List.drop_drop]; exact row_cells hrow 4 _ (hd_at ws 6 4 (by omega))
 have q5 : W2.cell? ⟨b, o + 5, none⟩ = some (.string (hdW ((ws.drop 2).drop 3))) := by rw [List.drop_drop]; exact row_cells hrow 5 _ (hd_at ws 6 5 (by omega))
 have hbR : w.heap.size < W2.heap.size := bR2.lt
 have Q0 := Lib.hid q0; have Q1 := Lib.hid q1; have Q2 := Lib.hid q2; have Q3 := Lib.hid q3; have Q4 := Lib.hid q4; have Q5 := Lib.hid q5
 have HB2 := Lib.hid hb2; have BR2 := Lib.hid bR2
 haveI : Tb W2 := hk.keep hb2.size (fun j hj => hb2.block j (by have := hk.size; omega))
 have hd1 : (hdW (ws.drop 1)).size ≤ 200000 := hd_short HW.out 1
 have hd2 : (hdW (ws.drop 2)).size ≤ 200000 := hd_short HW.out 2
 have H11 := Lib.hid (fun W => (show Calls Tryz.prog 59 #[.string (hdW (ws.drop 1)), .int .i64 1] W (fun e w' => e = .returned (.int .i64 (nD ws 1 1)) ∧ Gr W w') from small26_any _ 1 (by omega) (by omega) W))
 have H1M := Lib.hid (fun W => (show Calls Tryz.prog 59 #[.string (hdW (ws.drop 1)), .int .i64 1000000] W (fun e w' => e = .returned (.int .i64 (nD ws 1 1000000)) ∧ Gr W w') from small26_any _ 1000000 (by omega) (by omega) W))
 have H2M := Lib.hid (fun W => (show Calls Tryz.prog 59 #[.string (hdW (ws.drop 2)), .int .i64 1000000] W (fun e w' => e = .returned (.int .i64 (nD ws 2 1000000)) ∧ Gr W w') from small26_any _ 1000000 (by omega) (by omega) W))
 obtain ⟨d1, e1⟩ : ∃ d, hdW (ws.drop 1) = d := ⟨_, rfl⟩
 obtain ⟨d2, e2⟩ : ∃ d, hdW (ws.drop 2) = d := ⟨_, rfl⟩
 obtain ⟨d3, e3⟩ : ∃ d, hdW ((ws.drop 2).drop 1) = d := ⟨_, rfl⟩
 obtain ⟨d4, e4⟩ : ∃ d, hdW ((ws.drop 2).drop 2) = d := ⟨_, rfl⟩
 obtain ⟨d5, e5⟩ : ∃ d, hdW ((ws.drop 2).drop 3) = d := ⟨_, rfl⟩
 rw [e1] at H11 H1M Q1
 rw [e2] at H2M Q2 hd2
 rw [e3] at Q3
 rw [e4] at Q4
 rw [e5] at Q5
 have HD2 := Lib.hid hd2
 have ED1 := Lib.hid e1; have ED2 := Lib.hid e2; have ED3 := Lib.hid e3; have ED4 := Lib.hid e4; have ED5 := Lib.hid e5
 clear e1 e2 e3 e4 e5
 have HTB := Lib.hid (fun W (h : Gr W2 W) => ((show Tb W2 from inferInstance).of_below (Below.mono h.below (by have := (show Tb W2 from inferInstance).size; omega)) : Tb W))
 clear a2 hown hbw1 hrow hne6 hb2 bR0 bR2 q0 q1 q2 q3 q4 q5 hlen6 hd1 hd2
 obtain ⟨n6, hn6⟩ : ∃ n, (ws ++ [(⟨#[]⟩ : ByteArray), ⟨#[]⟩, ⟨#[]⟩, ⟨#[]⟩, ⟨#[]⟩, ⟨#[]⟩]).length = n := ⟨_, rfl⟩
 rw [hn6]
 have hl6 : 6 ≤ n6 := by rw [← hn6]; simp
 have hl9 : n6 ≤ vc := by rw [← hn6]; simpa using hvc
 have hn9 : n6 ≤ 2000000 := by have := FEW.out; rw [← hn6]; simp; omega
 clear hn6 hvc
 have i0 : (0 : Int) < (n6 : Int) := by omega
 have i1 : (1 : Int) < (n6 : Int) := by omega
 have i2 : (2 : Int) < (n6 : Int) := by omega
 haveI : Old b W2 := ⟨hb⟩
 haveI : NeZero n6 := ⟨by omega⟩
 have q0 : W2.cell? ⟨b, o, none⟩ = some (.string (hdW ws)) := Q0.out
 obtain ⟨K0, hK0⟩ : ∃ k, Lib.idxOfS acL (hdW ws) + 1 = k := ⟨_, rfl⟩
 have HK0 := Lib.hid hK0; clear hK0
 go_upto_region 2 with fail
 go_cut [5] from 12 to 17 (fun u5 wx => ∃ X, u5 = .pointer (some ⟨X, 0, none⟩) ∧ W2.heap.size ≤ X ∧ BlockAt wx X #[.int .i64 K0, .int .i64 0, .int .i64 0, .int .i64 0, .int .u64 0, .int .u64 0, .int .i64 0, .int .i64 0, .int .i64 0, .slice none 0 0, .bool false, .slice none 0 0] 42 ∧ Gr W2 wx)
 case first =>
  go_region_with (first | (go_at_call 58; refine (acts_any _).mono ?_; rintro e w' ⟨rfl, rfl⟩) | (go_at_call 57; refine (@place_ac _ _ _ _ HK0.out (by first | exact inferInstanceAs (BlockAt (World.alloc _ _) _ _ _) | infer_instance)).mono ?_; rintro e w' ⟨rfl, rfl⟩))
  all_goals
   go_wp2_with fail
   go_meet
   case rel => exact ⟨_, rfl, by omega, inferInstance, gri⟩
 case rest =>
  obtain ⟨X, rfl, hX, bX, hg⟩ := hcut
  clear q0
  have q0 : wc.cell? ⟨b, o, none⟩ = some (.string (hdW ws)) := (hg.below.cell (p := ⟨b, o, none⟩) hb).trans Q0.out
  haveI : Old b wc := ⟨Nat.lt_of_lt_of_le hb hg.below.size⟩
  haveI : Old X wc := bX.old
  have hff : isForce (hdW ws) = ((hdW ws).toList == [102, 111, 114, 99, 101]) := by rw [isForce, Lib.toList_data]
  have hfk : aKOf (hdW ws) = if isForce (hdW ws) then 7 else K0 := by rw [aKOf, ← ac_kOf, HK0.out]
  have HFF := Lib.hid hff; have HFK := Lib.hid hfk; clear hff hfk
  have e1 : (b = X) = False := by simp; omega
  have e2 : (X = b) = False := by simp; omega
  have HXX := Lib.hid hX; clear hX
  go_upto_if 21 with fail
  go_cut [5] from 18 to 23 (fun u5 wx => u5 = .pointer (some ⟨X, 0, none⟩) ∧ BlockAt wx X #[.int .i64 (aKOf (hdW ws)), .int .i64 0, .int .i64 0, .int .i64 0, .int .u64 0, .int .u64 0, .int .i64 0, .int .i64 0, .int .i64 0, .slice none 0 0, .bool (isForce (hdW ws)), .slice none 0 0] 42 ∧ Gr W2 wx)
  case first =>
   have HG := Lib.hid hg; clear hg
   have x0 : wc.cell? ⟨X, 0, none⟩ = some (.int .i64 K0) := (@block_cells _ _ 0 _ _ bX).trans rfl
   have x10 : wc.cell? ⟨X, 10, none⟩ = some (.bool false) := (@block_cells _ _ 10 _ _ bX).trans rfl
   have u0 : wc.frozen? ⟨X, 0, none⟩ = false := @block_frozen _ _ 0 _ _ bX
   have u10 : wc.frozen? ⟨X, 10, none⟩ = false := @block_frozen _ _ 10 _ _ bX
   go_wp2
   ·rename_i hf
    have e1 : isForce (hdW ws) = true := by rw [HFF.out, hf]
    have e2 : aKOf (hdW ws) = 7 := by rw [HFK.out, if_pos e1]
    have E1 := Lib.hid e1; have E2 := Lib.hid e2; clear e1 e2
    go_meet
    case rel => exact ⟨rfl, by rw [E1.out, E2.out]; infer_instance, Gr.of (by (with_reducible repeat (first | exact HG.out.below | apply below_alloc | refine below_set_le ?_ (by have := HXX.out; omega) _ | apply Below.drew)))⟩
   ·rename_i hf
    have e1 : isForce (hdW ws) = false := by rw [HFF.out, hf]
    have e2 : aKOf (hdW ws) = K0 := by rw [HFK.out, if_neg (by rw [e1]; simp)]
    have E1 := Lib.hid e1; have E2 := Lib.hid e2; clear e1 e2
    go_meet
    case rel => exact ⟨rfl, by rw [E1.out, E2.out]; infer_instance, Gr.of (by (with_reducible repeat (first | exact HG.out.below | apply below_alloc | refine below_set_le ?_ (by have := HXX.out; omega) _ | apply Below.drew)))⟩
  case rest =>
   clear bX hg q0
   obtain ⟨rfl, bX, hg⟩ := hcut
   clear HFF HFK HK0
   have hKL := HKL.out
   generalize hKK : aKOf (hdW ws) = K at *
   generalize hFF : isForce (hdW ws) = F at *
   have HKK := Lib.hid hKK; have HF9 := Lib.hid hFF; have HKL := Lib.hid hKL; clear hKK hFF hKL
   have q1 : wc.cell? ⟨b, o + 1, none⟩ = some (.string d1) := (hg.below.cell (p := ⟨b, o + 1, none⟩) hb).trans Q1.out
   haveI : Old b wc := ⟨Nat.lt_of_lt_of_le hb hg.below.size⟩
   haveI : Old X wc := bX.old
   have HG := Lib.hid hg; clear hg
   have x0 : wc.cell? ⟨X, 0, none⟩ = some (.int .i64 K) := (@block_cells _ _ 0 _ _ bX).trans rfl
   have hk11 : K = 0 ∨ K = 1 ∨ K = 2 ∨ K = 3 ∨ K = 4 ∨ K = 5 ∨ K = 6 ∨ K = 7 ∨ K = 8 ∨ K = 9 ∨ K = 10 := by have := HKL.out; omega
   have HK11 := Lib.hid hk11; clear hk11
   go_upto_if 26 with fail
   go_cut [5] from 24 to 39 (fun u5 wx => u5 = .pointer (some ⟨X, 0, none⟩) ∧ BlockAt wx X #[.int .i64 K, .int .i64 (nd9 K ws), .int .i64 (m9 K ws), .int .i64 0, .int .u64 0, .int .u64 0, .int .i64 0, .int .i64 0, .int .i64 0, .slice none 0 0, .bool F, .slice none 0 0] 42 ∧ Gr W2 wx)
   case first =>
    have x1 : wc.cell? ⟨X, 1, none⟩ = some (.int .i64 0) := (@block_cells _ _ 1 _ _ bX).trans rfl
    have x2 : wc.cell? ⟨X, 2, none⟩ = some (.int .i64 0) := (@block_cells _ _ 2 _ _ bX).trans rfl
    have u1 : wc.frozen? ⟨X, 1, none⟩ = false := @block_frozen _ _ 1 _ _ bX
    have u2 : wc.frozen? ⟨X, 2, none⟩ = false := @block_frozen _ _ 2 _ _ bX
    rcases HK11.out with rfl | rfl | rfl | rfl | rfl | rfl | rfl | rfl | rfl | rfl | rfl
    ·go_wp2_with (((first | (go_at_call 59; with_reducible refine (H11.out _).mono ?_) | (go_at_call 59; with_reducible refine (H1M.out _).mono ?_) | (go_at_call 59; with_reducible refine (H2M.out _).mono ?_)); rintro _ _ ⟨rfl, g, rfl⟩))
     go_meet
     case rel => exact ⟨rfl, by show BlockAt _ X #[.int .i64 0, .int .i64 (nD ws 1 1), .int .i64 0, .int .i64 0, .int .u64 0, .int .u64 0, .int .i64 0, .int .i64 0, .int .i64 0, .slice none 0 0, .bool F, .slice none 0 0] _; infer_instance, Gr.of (by (with_reducible repeat (first | exact HG.out.below | apply below_alloc | refine below_set_le ?_ (by have := HXX.out; omega) _ | refine below_trans ?_ (grown_below _ _) | apply Below.drew)))⟩
    ·go_wp2_with (((first | (go_at_call 59; with_reducible refine (H11.out _).mono ?_) | (go_at_call 59; with_reducible refine (H1M.out _).mono ?_) | (go_at_call 59; with_reducible refine (H2M.out _).mono ?_)); rintro _ _ ⟨rfl, g, rfl⟩))
     go_meet
     case rel => exact ⟨rfl, by show BlockAt _ X #[.int .i64 1, .int .i64 (nD ws 1 1), .int .i64 0, .int .i64 0, .int .u64 0, .int .u64 0, .int .i64 0, .int .i64 0, .int .i64 0, .slice none 0 0, .bool F, .slice none 0 0] _; infer_instance, Gr.of (by (with_reducible repeat (first | exact HG.out.below | apply below_alloc | refine below_set_le ?_ (by have := HXX.out; omega) _ | refine below_trans ?_ (grown_below _ _) | apply Below.drew)))⟩
    ·go_wp2_with (((first | (go_at_call 59; with_reducible refine (H11.out _).mono ?_) | (go_at_call 59; with_reducible refine (H1M.out _).mono ?_) | (go_at_call 59; with_reducible refine (H2M.out _).mono ?_)); rintro _ _ ⟨rfl, g, rfl⟩))
     go_meet
     case rel => exact ⟨rfl, by show BlockAt _ X #[.int .i64 2, .int .i64 0, .int .i64 (nD ws 1 1000000), .int .i64 0, .int .u64 0, .int .u64 0, .int .i64 0, .int .i64 0, .int .i64 0, .slice none 0 0, .bool F, .slice none 0 0] _; infer_instance, Gr.of (by (with_reducible repeat (first | exact HG.out.below | apply below_alloc | refine below_set_le ?_ (by have := HXX.out; omega) _ | refine below_trans ?_ (grown_below _ _) | apply Below.drew)))⟩
    ·go_wp2_with (((first | (go_at_call 59; with_reducible refine (H11.out _).mono ?_) | (go_at_call 59; with_reducible refine (H1M.out _).mono ?_) | (go_at_call 59; with_reducible refine (H2M.out _).mono ?_)); rintro _ _ ⟨rfl, g, rfl⟩))
     go_meet
     case rel => exact ⟨rfl, by show BlockAt _ X #[.int .i64 3, .int .i64 (nD ws 1 1), .int .i64 0, .int .i64 0, .int .u64 0, .int .u64 0, .int .i64 0, .int .i64 0, .int .i64 0, .slice none 0 0, .bool F, .slice none 0 0] _; infer_instance, Gr.of (by (with_reducible repeat (first | exact HG.out.below | apply below_alloc | refine below_set_le ?_ (by have := HXX.out; omega) _ | refine below_trans ?_ (grown_below _ _) | apply Below.drew)))⟩
    ·go_wp2_with (((first | (go_at_call 59; with_reducible refine (H11.out _).mono ?_) | (go_at_call 59; with_reducible refine (H1M.out _).mono ?_) | (go_at_call 59; with_reducible refine (H2M.out _).mono ?_)); rintro _ _ ⟨rfl, g, rfl⟩))
     go_meet
     case rel => exact ⟨rfl, by show BlockAt _ X #[.int .i64 4, .int .i64 (nD ws 1 1), .int .i64 0, .int .i64 0, .int .u64 0, .int .u64 0, .int .i64 0, .int .i64 0, .int .i64 0, .slice none 0 0, .bool F, .slice none 0 0] _; infer_instance, Gr.of (by (with_reducible repeat (first | exact HG.out.below | apply below_alloc | refine below_set_le ?_ (by have := HXX.out; omega) _ | refine below_trans ?_ (grown_below _ _) | apply Below.drew)))⟩
    ·go_wp2_with (((first | (go_at_call 59; with_reducible refine (H11.out _).mono ?_) | (go_at_call 59; with_reducible refine (H1M.out _).mono ?_) | (go_at_call 59; with_reducible refine (H2M.out _).mono ?_)); rintro _ _ ⟨rfl, g, rfl⟩))
     go_meet
     case rel => exact ⟨rfl, by show BlockAt _ X #[.int .i64 5, .int .i64 (nD ws 1 1), .int .i64 0, .int .i64 0, .int .u64 0, .int .u64 0, .int .i64 0, .int .i64 0, .int .i64 0, .slice none 0 0, .bool F, .slice none 0 0] _; infer_instance, Gr.of (by (with_reducible repeat (first | exact HG.out.below | apply below_alloc | refine below_set_le ?_ (by have := HXX.out; omega) _ | refine below_trans ?_ (grown_below _ _) | apply Below.drew)))⟩
    ·go_wp2_with (((first | (go_at_call 59; with_reducible refine (H11.out _).mono ?_) | (go_at_call 59; with_reducible refine (H1M.out _).mono ?_) | (go_at_call 59; with_reducible refine (H2M.out _).mono ?_)); rintro _ _ ⟨rfl, g, rfl⟩))
     go_meet
     case rel => exact ⟨rfl, by show BlockAt _ X #[.int .i64 6, .int .i64 (nD ws 1 1), .int .i64 0, .int .i64 0, .int .u64 0, .int .u64 0, .int .i64 0, .int .i64 0, .int .i64 0, .slice none 0 0, .bool F, .slice none 0 0] _; infer_instance, Gr.of (by (with_reducible repeat (first | exact HG.out.below | apply below_alloc | refine below_set_le ?_ (by have := HXX.out; omega) _ | refine below_trans ?_ (grown_below _ _) | apply Below.drew)))⟩
    ·go_wp2_with (((first | (go_at_call 59; with_reducible refine (H11.out _).mono ?_) | (go_at_call 59; with_reducible refine (H1M.out _).mono ?_) | (go_at_call 59; with_reducible refine (H2M.out _).mono ?_)); rintro _ _ ⟨rfl, g, rfl⟩))
     go_meet
     case rel => exact ⟨rfl, by show BlockAt _ X #[.int .i64 7, .int .i64 (nD ws 1 1), .int .i64 0, .int .i64 0, .int .u64 0, .int .u64 0, .int .i64 0, .int .i64 0, .int .i64 0, .slice none 0 0, .bool F, .slice none 0 0] _; infer_instance, Gr.of (by (with_reducible repeat (first | exact HG.out.below | apply below_alloc | refine below_set_le ?_ (by have := HXX.out; omega) _ | refine below_trans ?_ (grown_below _ _) | apply Below.drew)))⟩
    ·go_wp2_with (((first | (go_at_call 59; with_reducible refine (H11.out _).mono ?_) | (go_at_call 59; with_reducible refine (H1M.out _).mono ?_) | (go_at_call 59; with_reducible refine (H2M.out _).mono ?_)); rintro _ _ ⟨rfl, g, rfl⟩))
     go_meet
     case rel => exact ⟨rfl, by show BlockAt _ X #[.int .i64 8, .int .i64 (nD ws 1 1), .int .i64 0, .int .i64 0, .int .u64 0, .int .u64 0, .int .i64 0, .int .i64 0, .int .i64 0, .slice none 0 0, .bool F, .slice none 0 0] _; infer_instance, Gr.of (by (with_reducible repeat (first | exact HG.out.below | apply below_alloc | refine below_set_le ?_ (by have := HXX.out; omega) _ | refine below_trans ?_ (grown_below _ _) | apply Below.drew)))⟩
    ·go_wp2_with (((first | (go_at_call 59; with_reducible refine (H11.out _).mono ?_) | (go_at_call 59; with_reducible refine (H1M.out _).mono ?_) | (go_at_call 59; with_reducible refine (H2M.out _).mono ?_)); rintro _ _ ⟨rfl, g, rfl⟩))
     go_meet
     case rel => exact ⟨rfl, by show BlockAt _ X #[.int .i64 9, .int .i64 (nD ws 1 1), .int .i64 0, .int .i64 0, .int .u64 0, .int .u64 0, .int .i64 0, .int .i64 0, .int .i64 0, .slice none 0 0, .bool F, .slice none 0 0] _; infer_instance, Gr.of (by (with_reducible repeat (first | exact HG.out.below | apply below_alloc | refine below_set_le ?_ (by have := HXX.out; omega) _ | refine below_trans ?_ (grown_below _ _) | apply Below.drew)))⟩
    ·go_wp2_with (((first | (go_at_call 59; with_reducible refine (H11.out _).mono ?_) | (go_at_call 59; with_reducible refine (H1M.out _).mono ?_) | (go_at_call 59; with_reducible refine (H2M.out _).mono ?_)); rintro _ _ ⟨rfl, g, rfl⟩))
     go_meet
     case rel => exact ⟨rfl, by show BlockAt _ X #[.int .i64 10, .int .i64 0, .int .i64 0, .int .i64 0, .int .u64 0, .int .u64 0, .int .i64 0, .int .i64 0, .int .i64 0, .slice none 0 0, .bool F, .slice none 0 0] _; infer_instance, Gr.of (by (with_reducible repeat (first | exact HG.out.below | apply below_alloc | refine below_set_le ?_ (by have := HXX.out; omega) _ | refine below_trans ?_ (grown_below _ _) | apply Below.drew)))⟩
   case rest =>
    clear bX q1 x0 HG
    obtain ⟨rfl, bX, hg⟩ := hcut
    have HG := Lib.hid hg; clear hg
    have x0 : wc.cell? ⟨X, 0, none⟩ = some (.int .i64 K) := (@block_cells _ _ 0 _ _ bX).trans rfl
    have q2 : wc.cell? ⟨b, o + 2, none⟩ = some (.string d2) := (HG.out.below.cell (p := ⟨b, o + 2, none⟩) hb).trans Q2.out
    haveI : Old b wc := ⟨Nat.lt_of_lt_of_le hb HG.out.below.size⟩
    haveI : Old X wc := bX.old
    haveI : Tb wc := HTB.out _ HG.out
    go_upto_block 0 with fail
    go_cut [5] from 6 to 84 (fun u5 wx => u5 = .pointer (some ⟨X, 0, none⟩) ∧ (∃ Ad qd Av qv b1 b2, BlockAt wx X (actB (racV K F ws) Ad qd Av qv) 42 ∧ (racV K F ws).o.d.length ≤ qd ∧ OwnR bv 5 b1 wx (.slice Ad (racV K F ws).o.d.length qd) (racV K F ws).o.d ∧ (racV K F ws).pk.length ≤ qv ∧ OwnR (Value.int .i64) 3 b2 wx (.slice Av (racV K F ws).pk.length qv) (racV K F ws).pk) ∧ Gr W2 wx)
    case first =>
     rcases HK11.out with rfl | rfl | rfl | rfl | rfl | rfl | rfl | rfl | rfl | rfl | rfl
     ·-- 0
      have bX : BlockAt wc X #[.int .i64 0, .int .i64 (nD ws 1 1), .int .i64 0, .int .i64 0, .int .u64 0, .int .u64 0, .int .i64 0, .int .i64 0, .int .i64 0, .slice none 0 0, .bool F, .slice none 0 0] 42 := bX
      go_wp2
      go_meet
      case rel => exact ⟨rfl, ⟨none, 0, none, 0, 0, 0, by show BlockAt _ X #[.int .i64 0, .int .i64 (nD ws 1 1), .int .i64 0, .int .i64 0, .int .u64 0, .int .u64 0, .int .i64 0, .int .i64 0, .int .i64 0, .slice none 0 0, .bool F, .slice none 0 0] _; infer_instance, Nat.le_refl _, OwnR.nil _ _, Nat.le_refl _, OwnR.nil _ _⟩, Gr.of (by (with_reducible repeat (first | exact HG.out.below | apply below_alloc | refine below_set_le ?_ (by have := HXX.out; omega) _ | refine below_trans ?_ (grown_below _ _) | apply Below.drew)))⟩
     ·-- 1
      have bX : BlockAt wc X #[.int .i64 1, .int .i64 (nD ws 1 1), .int .i64 0, .int .i64 0, .int .u64 0, .int .u64 0, .int .i64 0, .int .i64 0, .int .i64 0, .slice none 0 0, .bool F, .slice none 0 0] 42 := bX
      have bX : BlockAt wc X #[.int .i64 1, .int .i64 (nD ws 1 1), .int .i64 0, .int .i64 0, .int .u64 0, .int .u64 0, .int .i64 0, .int .i64 0, .int .i64 0, .slice none 0 0, .bool F, .slice none 0 0] 42 := bX
      have RD : Rd d3 d4 d5 (nD (ws.drop 2) 1 4294967295) (nD (ws.drop 2) 2 4294967295) (nD (ws.drop 2) 2 256) (nD (ws.drop 2) 2 1048576) (nD (ws.drop 2) 3 1024) (dataR d5) := by
       have hw2 : ∀ y ∈ ws.drop 2, y.size ≤ 200000 := fun y hy => HW.out y (List.mem_of_mem_drop hy)
       have s1 := hd_short hw2 1
       have s2 := hd_short hw2 2
       have s3 := hd_short hw2 3
       rw [← ED3.out, ← ED4.out, ← ED5.out]
       exact ⟨⟨fun W => number26_any _ 4294967295 (by omega) (by omega) W⟩, ⟨fun W => number26_any _ 4294967295 (by omega) (by omega) W⟩, ⟨fun W => small26_any _ 256 (by omega) (by omega) W⟩, ⟨fun W => small26_any _ 1048576 (by omega) (by omega) W⟩, ⟨fun W => small26_any _ 1024 (by omega) (by omega) W⟩, ⟨fun W => rdata26_any _ s3 W⟩⟩
      have q3 : wc.cell? ⟨b, o + 3, none⟩ = some (.string d3) := (HG.out.below.cell (p := ⟨b, o + 3, none⟩) hb).trans Q3.out
      have q4 : wc.cell? ⟨b, o + 4, none⟩ = some (.string d4) := (HG.out.below.cell (p := ⟨b, o + 4, none⟩) hb).trans Q4.out
      have q5 : wc.cell? ⟨b, o + 5, none⟩ = some (.string d5) := (HG.out.below.cell (p := ⟨b, o + 5, none⟩) hb).trans Q5.out
      obtain ⟨op, hop⟩ : ∃ op, rO (ws.drop 2) = op := ⟨_, rfl⟩
      obtain ⟨ok, ov, ot, os, oa, oc, od⟩ := op
      have hO : rV (kOf d2) (nD (ws.drop 2) 1 4294967295) (nD (ws.drop 2) 2 4294967295) (nD (ws.drop 2) 2 256) (nD (ws.drop 2) 2 1048576) (nD (ws.drop 2) 3 1024) (dataR d5) = ⟨ok, ov, ot, os, oa, oc, od⟩ := by rw [← ED2.out, ← ED5.out]; exact hop
      have HCO := Lib.hid (show Calls Tryz.prog 40 #[.slice (some ⟨b, o + 2, none⟩) (n6 - 2) (vc - 2)] wc (fun e w' => ∃ Ad cd, e = .returned (.agg #[.int .i64 ok, .int .u64 ov, .int .u64 ot, .int .i64 os, .int .i64 oa, .int .i64 oc, .slice Ad od.length cd]) ∧ od.length ≤ cd ∧ OwnR bv 5 wc.heap.size w' (.slice Ad od.length cd) od ∧ Gr wc w') from by
       refine (ropOf_any b (o + 2) (n6 - 2) (vc - 2) d2 d3 d4 d5 _ _ _ _ _ _ RD wc (by omega) (Nat.lt_of_lt_of_le hb HG.out.below.size) (kOf d2) (kd_kOf d2) (kOf_le d2).1 (kOf_le d2).2 q2 q3 q4 q5).mono ?_
       rw [hO]
       rintro e w' ⟨dv, rfl, ho, hb9⟩
       obtain ⟨Ad, cd, rfl, hcd, _⟩ := ho.form
       exact ⟨Ad, cd, rfl, hcd, ho, Gr.of hb9⟩)
      have HOP := Lib.hid hop; clear hop hO RD q3 q4 q5
      have hs2 : n6 - 2 ≤ vc - 2 := by omega
      go_wp2_with ((go_at_call 40; ((with_reducible refine HCO.out.mono ?_))))
      rintro _ W3 Ad cd rfl hcd hrd g3
      have bX : BlockAt W3 X #[.int .i64 1, .int .i64 (nD ws 1 1), .int .i64 0, .int .i64 0, .int .u64 0, .int .u64 0, .int .i64 0, .int .i64 0, .int .i64 0, .slice none 0 0, .bool F, .slice none 0 0] 42 := bX.gr g3
      have x3 : W3.cell? ⟨X, 3, none⟩ = some (.int .i64 0) := (@block_cells _ _ 3 _ _ bX).trans rfl
      have u3 : W3.frozen? ⟨X, 3, none⟩ = false := @block_frozen _ _ 3 _ _ bX
      have x4 : W3.cell? ⟨X, 4, none⟩ = some (.int .u64 0) := (@block_cells _ _ 4 _ _ bX).trans rfl
      have u4 : W3.frozen? ⟨X, 4, none⟩ = false := @block_frozen _ _ 4 _ _ bX
      have x5 : W3.cell? ⟨X, 5, none⟩ = some (.int .u64 0) := (@block_cells _ _ 5 _ _ bX).trans rfl
      have u5 : W3.frozen? ⟨X, 5, none⟩ = false := @block_frozen _ _ 5 _ _ bX
      have x6 : W3.cell? ⟨X, 6, none⟩ = some (.int .i64 0) := (@block_cells _ _ 6 _ _ bX).trans rfl
      have u6 : W3.frozen? ⟨X, 6, none⟩ = false := @block_frozen _ _ 6 _ _ bX
      have x7 : W3.cell? ⟨X, 7, none⟩ = some (.int .i64 0) := (@block_cells _ _ 7 _ _ bX).trans rfl
      have u7 : W3.frozen? ⟨X, 7, none⟩ = false := @block_frozen _ _ 7 _ _ bX
      have x8 : W3.cell? ⟨X, 8, none⟩ = some (.int .i64 0) := (@block_cells _ _ 8 _ _ bX).trans rfl
      have u8 : W3.frozen? ⟨X, 8, none⟩ = false := @block_frozen _ _ 8 _ _ bX
      have x9 : W3.cell? ⟨X, 9, none⟩ = some (.slice none 0 0) := (@block_cells _ _ 9 _ _ bX).trans rfl
      have u9 : W3.frozen? ⟨X, 9, none⟩ = false := @block_frozen _ _ 9 _ _ bX
      have HRD := Lib.hid hrd; have HCD := Lib.hid hcd; clear hrd hcd
      have hg3 : Gr W2 W3 := HG.out.trans g3
      have HG := Lib.hid hg3; clear hg3 g3 HCO
      haveI : Old X W3 := bX.old
      clear x0 q2
      go_wp2
      go_meet
      case rel => exact ⟨rfl, ⟨Ad, cd, none, 0, wc.heap.size, 0, by rw [(show racV 1 F ws = ⟨1, nD ws 1 1, 0, ⟨ok, ov, ot, os, oa, oc, od⟩, F, []⟩ from by rw [← HOP.out]; rfl)]; show BlockAt _ X #[.int .i64 1, .int .i64 (nD ws 1 1), .int .i64 0, .int .i64 ok, .int .u64 ov, .int .u64 ot, .int .i64 os, .int .i64 oa, .int .i64 oc, .slice Ad od.length cd, .bool F, .slice none 0 0] _; infer_instance, by rw [(show racV 1 F ws = ⟨1, nD ws 1 1, 0, ⟨ok, ov, ot, os, oa, oc, od⟩, F, []⟩ from by rw [← HOP.out]; rfl)]; exact HCD.out, by rw [(show racV 1 F ws = ⟨1, nD ws 1 1, 0, ⟨ok, ov, ot, os, oa, oc, od⟩, F, []⟩ from by rw [← HOP.out]; rfl)]; show OwnR bv 5 _ _ (.slice Ad od.length cd) od; (with_reducible repeat (first | exact HRD.out | refine OwnR.grown_ ?_ _ | refine OwnR.set_ ?_ _ _ _ (by decide))), by rw [(show racV 1 F ws = ⟨1, nD ws 1 1, 0, ⟨ok, ov, ot, os, oa, oc, od⟩, F, []⟩ from by rw [← HOP.out]; rfl)]; exact Nat.le_refl _, by rw [(show racV 1 F ws = ⟨1, nD ws 1 1, 0, ⟨ok, ov, ot, os, oa, oc, od⟩, F, []⟩ from by rw [← HOP.out]; rfl)]; exact OwnR.nil _ _⟩, Gr.of (by (with_reducible repeat (first | exact HG.out.below | apply below_alloc | refine below_set_le ?_ (by have := HXX.out; omega) _ | refine below_trans ?_ (grown_below _ _) | apply Below.drew)))⟩
     ·-- 2
      have bX : BlockAt wc X #[.int .i64 2, .int .i64 0, .int .i64 (nD ws 1 1000000), .int .i64 0, .int .u64 0, .int .u64 0, .int .i64 0, .int .i64 0, .int .i64 0, .slice none 0 0, .bool F, .slice none 0 0] 42 := bX
      go_wp2
      go_meet
      case rel => exact ⟨rfl, ⟨none, 0, none, 0, 0, 0, by show BlockAt _ X #[.int .i64 2, .int .i64 0, .int .i64 (nD ws 1 1000000), .int .i64 0, .int .u64 0, .int .u64 0, .int .i64 0, .int .i64 0, .int .i64 0, .slice none 0 0, .bool F, .slice none 0 0] _; infer_instance, Nat.le_refl _, OwnR.nil _ _, Nat.le_refl _, OwnR.nil _ _⟩, Gr.of (by (with_reducible repeat (first | exact HG.out.below | apply below_alloc | refine below_set_le ?_ (by have := HXX.out; omega) _ | refine below_trans ?_ (grown_below _ _) | apply Below.drew)))⟩
     ·-- 3
      have bX : BlockAt wc X #[.int .i64 3, .int .i64 (nD ws 1 1), .int .i64 0, .int .i64 0, .int .u64 0, .int .u64 0, .int .i64 0, .int .i64 0, .int .i64 0, .slice none 0 0, .bool F, .slice none 0 0] 42 := bX
      go_wp2
      go_meet
      case rel => exact ⟨rfl, ⟨none, 0, none, 0, 0, 0, by show BlockAt _ X #[.int .i64 3, .int .i64 (nD ws 1 1), .int .i64 0, .int .i64 0, .int .u64 0, .int .u64 0, .int .i64 0, .int .i64 0, .int .i64 0, .slice none 0 0, .bool F, .slice none 0 0] _; infer_instance, Nat.le_refl _, OwnR.nil _ _, Nat.le_refl _, OwnR.nil _ _⟩, Gr.of (by (with_reducible repeat (first | exact HG.out.below | apply below_alloc | refine below_set_le ?_ (by have := HXX.out; omega) _ | refine below_trans ?_ (grown_below _ _) | apply Below.drew)))⟩
     ·-- 4
      have bX : BlockAt wc X #[.int .i64 4, .int .i64 (nD ws 1 1), .int .i64 0, .int .i64 0, .int .u64 0, .int .u64 0, .int .i64 0, .int .i64 0, .int .i64 0, .slice none 0 0, .bool F, .slice none 0 0] 42 := bX
      have hps0 : wordsB 44 d2 ≠ [] := wordsB_ne 44 d2
      have hpsl := wordsB_le 44 d2
      have hpse := wordsB_each 44 d2
      have hdd : isDash d2 = (d2.toList == [45]) := by rw [isDash, Lib.toList_data]
      have hpk : pkOf d2 = if isDash d2 then [] else (wordsB 44 d2).map numN := rfl
      rw [hdd] at hpk
      go_wp2_with ((go_at_call 41; ((with_reducible refine (HWC.out d2 HD2.out _).mono ?_))))
      rintro _ W3 v3 rfl hown3 hbw3
      generalize wordsB 44 d2 = ps at *
      have hd2 := HD2.out
      obtain ⟨lb, lc, cur, rfl, hlb, hlh, hlc, hcu⟩ : ∃ (g cap : Nat) (cur : Array Value), v3 = .slice (some ⟨g, 0, none⟩) ps.length cap ∧ wc.heap.size ≤ g ∧ BlockAt W3 g cur 9 ∧ ps.length ≤ cap ∧ ∀ (j : Nat) (y : ByteArray), ps[j]? = some y → cur[j]? = some (Value.string y) := by
       have h0 := hown3
       rcases hown3.2 with ⟨_, hn⟩ | ⟨g, cap, cur, rfl, hb9, hh, hnc, _⟩
       ·exact absurd (List.eq_nil_of_length_eq_zero hn) hps0
       ·refine ⟨g, cap, cur, rfl, hb9, ⟨hh⟩, hnc, fun j y hj => ?_⟩
        have h1 := World.ownsRow.cells h0 (g := g) rfl j (Value.string y) (by rw [List.getElem?_map, hj]; rfl)
        rw [Go.WideShapes.add_plain] at h1
        have h2 : W3.cell? ⟨g, 0 + j, none⟩ = cur[0 + j]? := @block_cells W3 g (0 + j) cur 9 ⟨hh⟩
        rw [Nat.zero_add] at h2
        simp only [Nat.zero_add] at h1
        rw [h2] at h1
        exact h1
      have hg3 : Gr W2 W3 := HG.out.trans (Gr.of hbw3)
      have bX3 : BlockAt W3 X #[.int .i64 4, .int .i64 (nD ws 1 1), .int .i64 0, .int .i64 0, .int .u64 0, .int .u64 0, .int .i64 0, .int .i64 0, .int .i64 0, .slice none 0 0, .bool F, .slice none 0 0] 42 := bX.gr (Gr.of hbw3)
      have hXl : X < wc.heap.size := bX.lt
      have hs3 : wc.heap.size ≤ W3.heap.size := hbw3.size
      obtain ⟨N, hNd, hNn, hNp⟩ : ∃ N : Nat, ((d2.toList == [45]) = true → N = 0) ∧ ((d2.toList == [45]) = false → N = ps.length) ∧ pkOf d2 = (ps.map numN).take N := by
       cases hdd2 : (d2.toList == [45])
       ·exact ⟨ps.length, (fun h => by cases h), (fun _ => rfl), by rw [hpk, hdd2, List.take_of_length_le (by simp)]; rfl⟩
       ·exact ⟨0, (fun _ => rfl), (fun h => by cases h), by rw [hpk, hdd2]; rfl⟩
      have HN1 := Lib.hid hNd; have HN2 := Lib.hid hNn; have HN3 := Lib.hid hNp; have HCU := Lib.hid hcu; have HPE := Lib.hid hpse; have HPL := Lib.hid hpsl; have HG3 := Lib.hid hg3; have HLB := Lib.hid hlb; have HLH := Lib.hid hlh; have HX3 := Lib.hid bX3
      have HS3 := Lib.hid hs3
      have HXL := Lib.hid hXl; have HNE := Lib.hid hps0
      clear hNd hNn hNp hcu hpse hpsl hg3 hlb bX3 hdd hpk hown3 hbw3 hps0 hd2 hlh hs3 hXl x0 q2 bX
      go_wp2
      go_loopw [7] (fun iv wr => ∃ (j : Nat) (v : Value), iv = .int .i64 j ∧ j ≤ N ∧ BlockAt wr X #[.int .i64 4, .int .i64 (nD ws 1 1), .int .i64 0, .int .i64 0, .int .u64 0, .int .u64 0, .int .i64 0, .int .i64 0, .int .i64 0, .slice none 0 0, .bool F, v] 42 ∧ OwnR (Value.int .i64) 3 W3.heap.size wr v ((ps.map numN).take j) ∧ BlockAt wr lb cur 9 ∧ Gr W2 wr ∧ W3.heap.size ≤ wr.heap.size) (fun iv _ => N - (intOf iv).toNat)
      case atStart => exact ⟨0, .slice none 0 0, rfl, Nat.zero_le _, HX3.out, OwnR.nil _ _, HLH.out, HG3.out, Nat.le_refl _⟩
      case round =>
       obtain ⟨j, v, rfl, hj, bXr, hown, bLr, hgr, hsz⟩ := hrel
       have HGR := Lib.hid hgr; clear hgr
       have q2 : wr.cell? ⟨b, o + 2, none⟩ = some (.string d2) := (HGR.out.below.cell (p := ⟨b, o + 2, none⟩) hb).trans Q2.out
       haveI : Old b wr := ⟨Nat.lt_of_lt_of_le hb HGR.out.below.size⟩
       haveI : Old X wr := bXr.old
       haveI : Old lb wr := bLr.old
       haveI : BNe lb X := ⟨by have := HLB.out; have := HXL.out; omega⟩
       haveI : BNe X lb := ⟨by have := HLB.out; have := HXL.out; omega⟩
       have HOW := Lib.hid hown; have HSZ := Lib.hid hsz; clear hown hsz
       by_cases hlt : j < N
       ·have HLT := Lib.hid hlt
        have hnd : (d2.toList == [45]) = false := by
         cases hdd2 : (d2.toList == [45])
         ·rfl
         ·have := HN1.out hdd2; omega
        have hjl : j < ps.length := by have := HN2.out hnd; omega
        have hgj := List.getElem?_eq_getElem hjl
        have hye := HPE.out _ (List.getElem_mem hjl)
        have hy2 := HD2.out
        generalize ps[j] = y at *
        have ex : wr.cell? ⟨lb, j, none⟩ = some (.string y) := (@block_cells _ _ j _ _ bLr).trans (HCU.out j y hgj)
        have hsn : (ps.map numN).take (j + 1) = (ps.map numN).take j ++ [numN y] := by rw [List.take_add_one, List.getElem?_map, hgj]; rfl
        have hnn : numN y = ((decV y.data.toList 1000000 : Nat) : Int) := rfl
        have HSM := Lib.hid (fun W => (show Calls Tryz.prog 59 #[.string y, .int .i64 1000000] W (fun e w' => e = .returned (.int .i64 (decV y.data.toList 1000000 : Nat)) ∧ Gr W w') from small26_any _ 1000000 (by omega) (by omega) W))
        have hnb := decV_le y.data.toList 1000000
        generalize decV y.data.toList 1000000 = n at *
        rw [hnn] at hsn
        have HSN := Lib.hid hsn; clear hsn hgj hnn hye hy2
        have yx : wr.cell? ⟨X, 11, none⟩ = some v := (@block_cells _ _ 11 _ _ bXr).trans rfl
        have hji : (j : Int) < (ps.length : Int) := by omega
        have hj9 : j < 1000000 := by have := HPL.out; have := HD2.out; omega
        have hpl9 : ((ps.map numN).take j).length ≤ 1000000 := by have := HPL.out; have := HD2.out; simp; omega
        have HP9 := Lib.hid hpl9; clear hpl9
        generalize ps.length = pn at *
        go_wp2_with fail
        refine wp_region_mix [0, 1, 2, 3, 4, 5, 6] [7] 8 (by kernel_rfl) (by kernel_rfl) ?_
        simp only [pick, List.drop_succ_cons, List.drop_zero, List.take_succ_cons, List.take_zero, List.nil_append, List.cons_append]
        repeat (refine wpCalm_step (fun K hK => ?_); go_simp; first | (refine hK _ ?_; clear hK K) | (apply Exists.intro; refine ⟨fun _ => ?_, hK _ ?_⟩; ((go_at_call 59; exact HSM.out _)); clear hK K))
        refine wpCalm_nil ?_
        refine ⟨_, _, _, (show AllocOp _ _ _ (fun b => .slice (some ⟨b, 0, none⟩) 1 1) #[.int .i64 n] 3 _ from ⟨by rfl, fun w => by go_simp⟩), fun b9 hb9 nb9 => ?_⟩
        intro w4 hw4
        simp only [Act.put, List.setIfInBounds_toArray, List.set_cons_zero, List.set_cons_succ]
        have hw4g := hw4.1
        have b9h : BlockAt w4 b9 #[.int .i64 n] 3 := ⟨hw4.2 _ List.mem_cons_self⟩
        have HOW4 := Lib.hid (HOW.out.gr hw4g)
        have bX4 : BlockAt w4 X #[.int .i64 4, .int .i64 (nD ws 1 1), .int .i64 0, .int .i64 0, .int .u64 0, .int .u64 0, .int .i64 0, .int .i64 0, .int .i64 0, .slice none 0 0, .bool F, v] 42 := bXr.gr hw4g
        have bL4 : BlockAt w4 lb cur 9 := bLr.gr hw4g
        have HG4 := Lib.hid (HGR.out.trans hw4g)
        have hz4 : W3.heap.size ≤ w4.heap.size := Nat.le_trans HSZ.out hw4g.below.size
        have HZ4 := Lib.hid hz4
        clear hw4 hw4g bXr bLr HOW HGR q2 ex yx hz4 nb9
        go_wp2_with (at_builtin; refine wp_append_num rfl _ _ rfl W3.heap.size v ((ps.map numN).take j) ?hs9 HOW4.out _ 0 1 [(n : Int)] 1 rfl rfl ?hc9 (by have := HP9.out; simp at this ⊢; omega) HZ4.out ?_)
        case hs9 => rfl
        case hc9 =>
         intro i y9 hi
         match i, hi with
         | 0, hi =>
          simp at hi
          subst hi
          exact (@block_cells _ _ 0 _ _ b9h).trans rfl
        intro v5 w5 a5
        have bX5 : BlockAt w5 X #[.int .i64 4, .int .i64 (nD ws 1 1), .int .i64 0, .int .i64 0, .int .u64 0, .int .u64 0, .int .i64 0, .int .i64 0, .int .i64 0, .slice none 0 0, .bool F, v] 42 := a5.keep _ _ _ bX4 (by decide)
        have bL5 : BlockAt w5 lb cur 9 := a5.keep _ _ _ bL4 (by decide)
        have ho5 := a5.own
        rw [← HSN.out] at ho5
        obtain ⟨A5, c5, rfl, _, _⟩ := ho5.form
        obtain ⟨ln, hln⟩ : ∃ n, ((ps.map numN).take (j + 1)).length = n := ⟨_, rfl⟩
        rw [hln] at ho5 ⊢
        have hg5 : Below W2.heap.size W2 w5 := HG4.out.below.trans (a5.below.mono (Nat.le_trans HG.out.below.size HS3.out))
        have hz5 := Nat.le_trans HZ4.out a5.size
        have x11 : w5.cell? ⟨X, 11, none⟩ = some v := (@block_cells _ _ 11 _ _ bX5).trans rfl
        have u11 : w5.frozen? ⟨X, 11, none⟩ = false := @block_frozen _ _ 11 _ _ bX5
        haveI : Old X w5 := bX5.old
        have HO5 := Lib.hid ho5; have HG5 := Lib.hid hg5; have HZ5 := Lib.hid hz5
        clear ho5 hg5 hz5 a5 bX4 bL4 HOW4 HG4 HZ4 b9h hb9
        go_wp2
        go_roundw
        case rel =>
         have hlt := HLT.out
         refine ⟨j + 1, _, by go_num, by omega, (by show BlockAt _ X #[.int .i64 4, .int .i64 (nD ws 1 1), .int .i64 0, .int .i64 0, .int .u64 0, .int .u64 0, .int .i64 0, .int .i64 0, .int .i64 0, .slice none 0 0, .bool F, .slice A5 ln c5] _; infer_instance), ?_, inferInstance, Gr.of ?_, ?_⟩
         ·(with_reducible repeat (first | exact HO5.out | refine OwnR.set_ ?_ _ _ _ (by decide)))
         ·(with_reducible repeat (first | exact HG5.out | refine below_set_le ?_ (by have := HXX.out; omega) _))
         ·simpa using HZ5.out
        case measure => have hlt := HLT.out; simp [intOf]; omega
       ·obtain rfl : j = N := by omega
        have hrv : OwnR (Value.int .i64) 3 W3.heap.size wr v (pkOf d2) := by rw [HN3.out]; exact HOW.out
        have E : racV 4 F ws = ⟨4, nD ws 1 1, 0, zOp, F, pkOf d2⟩ := by rw [← ED2.out]; rfl
        have HE := Lib.hid E; clear E
        obtain ⟨Av, qv, rfl, hqv, _⟩ := hrv.form
        have HRV := Lib.hid hrv; have HQV := Lib.hid hqv; clear hrv hqv HOW
        have hdj : ((d2.toList == [45]) = true ∧ j = 0) ∨ ((d2.toList == [45]) = false ∧ j = ps.length) := by
         cases hdd2 : (d2.toList == [45])
         ·exact .inr ⟨rfl, HN2.out hdd2⟩
         ·exact .inl ⟨rfl, HN1.out hdd2⟩
        have hpp : 0 < ps.length := by cases ps with | nil => exact absurd rfl HNE.out | cons => simp
        have hpi : (0 : Int) < (ps.length : Int) := by omega
        rcases hdj with ⟨hdd2, rfl⟩ | ⟨hdd2, rfl⟩
        ·go_wp2
         go_meet
         case rel => exact ⟨rfl, ⟨none, 0, Av, qv, 0, W3.heap.size, by rw [HE.out]; show BlockAt _ X #[.int .i64 4, .int .i64 (nD ws 1 1), .int .i64 0, .int .i64 0, .int .u64 0, .int .u64 0, .int .i64 0, .int .i64 0, .int .i64 0, .slice none 0 0, .bool F, .slice Av (pkOf d2).length qv] _; infer_instance, by rw [HE.out]; exact Nat.le_refl _, by rw [HE.out]; exact OwnR.nil _ _, by rw [HE.out]; exact HQV.out, by rw [HE.out]; exact HRV.out⟩, HGR.out⟩
        ·clear hpi
         go_wp2
         go_meet
         case rel => exact ⟨rfl, ⟨none, 0, Av, qv, 0, W3.heap.size, by rw [HE.out]; show BlockAt _ X #[.int .i64 4, .int .i64 (nD ws 1 1), .int .i64 0, .int .i64 0, .int .u64 0, .int .u64 0, .int .i64 0, .int .i64 0, .int .i64 0, .slice none 0 0, .bool F, .slice Av (pkOf d2).length qv] _; infer_instance, by rw [HE.out]; exact Nat.le_refl _, by rw [HE.out]; exact OwnR.nil _ _, by rw [HE.out]; exact HQV.out, by rw [HE.out]; exact HRV.out⟩, HGR.out⟩
     ·-- 5
      have bX : BlockAt wc X #[.int .i64 5, .int .i64 (nD ws 1 1), .int .i64 0, .int .i64 0, .int .u64 0, .int .u64 0, .int .i64 0, .int .i64 0, .int .i64 0, .slice none 0 0, .bool F, .slice none 0 0] 42 := bX
      have hps0 : wordsB 44 d2 ≠ [] := wordsB_ne 44 d2
      have hpsl := wordsB_le 44 d2
      have hpse := wordsB_each 44 d2
      have hdd : isDash d2 = (d2.toList == [45]) := by rw [isDash, Lib.toList_data]
      have hpk : pkOf d2 = if isDash d2 then [] else (wordsB 44 d2).map numN := rfl
      rw [hdd] at hpk
      go_wp2_with ((go_at_call 41; ((with_reducible refine (HWC.out d2 HD2.out _).mono ?_))))
      rintro _ W3 v3 rfl hown3 hbw3
      generalize wordsB 44 d2 = ps at *
      have hd2 := HD2.out
      obtain ⟨lb, lc, cur, rfl, hlb, hlh, hlc, hcu⟩ : ∃ (g cap : Nat) (cur : Array Value), v3 = .slice (some ⟨g, 0, none⟩) ps.length cap ∧ wc.heap.size ≤ g ∧ BlockAt W3 g cur 9 ∧ ps.length ≤ cap ∧ ∀ (j : Nat) (y : ByteArray), ps[j]? = some y → cur[j]? = some (Value.string y) := by
       have h0 := hown3
       rcases hown3.2 with ⟨_, hn⟩ | ⟨g, cap, cur, rfl, hb9, hh, hnc, _⟩
       ·exact absurd (List.eq_nil_of_length_eq_zero hn) hps0
       ·refine ⟨g, cap, cur, rfl, hb9, ⟨hh⟩, hnc, fun j y hj => ?_⟩
        have h1 := World.ownsRow.cells h0 (g := g) rfl j (Value.string y) (by rw [List.getElem?_map, hj]; rfl)
        rw [Go.WideShapes.add_plain] at h1
        have h2 : W3.cell? ⟨g, 0 + j, none⟩ = cur[0 + j]? := @block_cells W3 g (0 + j) cur 9 ⟨hh⟩
        rw [Nat.zero_add] at h2
        simp only [Nat.zero_add] at h1
        rw [h2] at h1
        exact h1
      have hg3 : Gr W2 W3 := HG.out.trans (Gr.of hbw3)
      have bX3 : BlockAt W3 X #[.int .i64 5, .int .i64 (nD ws 1 1), .int .i64 0, .int .i64 0, .int .u64 0, .int .u64 0, .int .i64 0, .int .i64 0, .int .i64 0, .slice none 0 0, .bool F, .slice none 0 0] 42 := bX.gr (Gr.of hbw3)
      have hXl : X < wc.heap.size := bX.lt
      have hs3 : wc.heap.size ≤ W3.heap.size := hbw3.size
      obtain ⟨N, hNd, hNn, hNp⟩ : ∃ N : Nat, ((d2.toList == [45]) = true → N = 0) ∧ ((d2.toList == [45]) = false → N = ps.length) ∧ pkOf d2 = (ps.map numN).take N := by
       cases hdd2 : (d2.toList == [45])
       ·exact ⟨ps.length, (fun h => by cases h), (fun _ => rfl), by rw [hpk, hdd2, List.take_of_length_le (by simp)]; rfl⟩
       ·exact ⟨0, (fun _ => rfl), (fun h => by cases h), by rw [hpk, hdd2]; rfl⟩
      have HN1 := Lib.hid hNd; have HN2 := Lib.hid hNn; have HN3 := Lib.hid hNp; have HCU := Lib.hid hcu; have HPE := Lib.hid hpse; have HPL := Lib.hid hpsl; have HG3 := Lib.hid hg3; have HLB := Lib.hid hlb; have HLH := Lib.hid hlh; have HX3 := Lib.hid bX3
      have HS3 := Lib.hid hs3
      have HXL := Lib.hid hXl; have HNE := Lib.hid hps0
      clear hNd hNn hNp hcu hpse hpsl hg3 hlb bX3 hdd hpk hown3 hbw3 hps0 hd2 hlh hs3 hXl x0 q2 bX
      go_wp2
      go_loopw [7] (fun iv wr => ∃ (j : Nat) (v : Value), iv = .int .i64 j ∧ j ≤ N ∧ BlockAt wr X #[.int .i64 5, .int .i64 (nD ws 1 1), .int .i64 0, .int .i64 0, .int .u64 0, .int .u64 0, .int .i64 0, .int .i64 0, .int .i64 0, .slice none 0 0, .bool F, v] 42 ∧ OwnR (Value.int .i64) 3 W3.heap.size wr v ((ps.map numN).take j) ∧ BlockAt wr lb cur 9 ∧ Gr W2 wr ∧ W3.heap.size ≤ wr.heap.size) (fun iv _ => N - (intOf iv).toNat)
      case atStart => exact ⟨0, .slice none 0 0, rfl, Nat.zero_le _, HX3.out, OwnR.nil _ _, HLH.out, HG3.out, Nat.le_refl _⟩
      case round =>
       obtain ⟨j, v, rfl, hj, bXr, hown, bLr, hgr, hsz⟩ := hrel
       have HGR := Lib.hid hgr; clear hgr
       have q2 : wr.cell? ⟨b, o + 2, none⟩ = some (.string d2) := (HGR.out.below.cell (p := ⟨b, o + 2, none⟩) hb).trans Q2.out
       haveI : Old b wr := ⟨Nat.lt_of_lt_of_le hb HGR.out.below.size⟩
       haveI : Old X wr := bXr.old
       haveI : Old lb wr := bLr.old
       haveI : BNe lb X := ⟨by have := HLB.out; have := HXL.out; omega⟩
       haveI : BNe X lb := ⟨by have := HLB.out; have := HXL.out; omega⟩
       have HOW := Lib.hid hown; have HSZ := Lib.hid hsz; clear hown hsz
       by_cases hlt : j < N
       ·have HLT := Lib.hid hlt
        have hnd : (d2.toList == [45]) = false := by
         cases hdd2 : (d2.toList == [45])
         ·rfl
         ·have := HN1.out hdd2; omega
        have hjl : j < ps.length := by have := HN2.out hnd; omega
        have hgj := List.getElem?_eq_getElem hjl
        have hye := HPE.out _ (List.getElem_mem hjl)
        have hy2 := HD2.out
        generalize ps[j] = y at *
        have ex : wr.cell? ⟨lb, j, none⟩ = some (.string y) := (@block_cells _ _ j _ _ bLr).trans (HCU.out j y hgj)
        have hsn : (ps.map numN).take (j + 1) = (ps.map numN).take j ++ [numN y] := by rw [List.take_add_one, List.getElem?_map, hgj]; rfl
        have hnn : numN y = ((decV y.data.toList 1000000 : Nat) : Int) := rfl
        have HSM := Lib.hid (fun W => (show Calls Tryz.prog 59 #[.string y, .int .i64 1000000] W (fun e w' => e = .returned (.int .i64 (decV y.data.toList 1000000 : Nat)) ∧ Gr W w') from small26_any _ 1000000 (by omega) (by omega) W))
        have hnb := decV_le y.data.toList 1000000
        generalize decV y.data.toList 1000000 = n at *
        rw [hnn] at hsn
        have HSN := Lib.hid hsn; clear hsn hgj hnn hye hy2
        have yx : wr.cell? ⟨X, 11, none⟩ = some v := (@block_cells _ _ 11 _ _ bXr).trans rfl
        have hji : (j : Int) < (ps.length : Int) := by omega
        have hj9 : j < 1000000 := by have := HPL.out; have := HD2.out; omega
        have hpl9 : ((ps.map numN).take j).length ≤ 1000000 := by have := HPL.out; have := HD2.out; simp; omega
        have HP9 := Lib.hid hpl9; clear hpl9
        generalize ps.length = pn at *
        go_wp2_with fail
        refine wp_region_mix [0, 1, 2, 3, 4, 5, 6] [7] 8 (by kernel_rfl) (by kernel_rfl) ?_
        simp only [pick, List.drop_succ_cons, List.drop_zero, List.take_succ_cons, List.take_zero, List.nil_append, List.cons_append]
        repeat (refine wpCalm_step (fun K hK => ?_); go_simp; first | (refine hK _ ?_; clear hK K) | (apply Exists.intro; refine ⟨fun _ => ?_, hK _ ?_⟩; ((go_at_call 59; exact HSM.out _)); clear hK K))
        refine wpCalm_nil ?_
        refine ⟨_, _, _, (show AllocOp _ _ _ (fun b => .slice (some ⟨b, 0, none⟩) 1 1) #[.int .i64 n] 3 _ from ⟨by rfl, fun w => by go_simp⟩), fun b9 hb9 nb9 => ?_⟩
        intro w4 hw4
        simp only [Act.put, List.setIfInBounds_toArray, List.set_cons_zero, List.set_cons_succ]
        have hw4g := hw4.1
        have b9h : BlockAt w4 b9 #[.int .i64 n] 3 := ⟨hw4.2 _ List.mem_cons_self⟩
        have HOW4 := Lib.hid (HOW.out.gr hw4g)
        have bX4 : BlockAt w4 X #[.int .i64 5, .int .i64 (nD ws 1 1), .int .i64 0, .int .i64 0, .int .u64 0, .int .u64 0, .int .i64 0, .int .i64 0, .int .i64 0, .slice none 0 0, .bool F, v] 42 := bXr.gr hw4g
        have bL4 : BlockAt w4 lb cur 9 := bLr.gr hw4g
        have HG4 := Lib.hid (HGR.out.trans hw4g)
        have hz4 : W3.heap.size ≤ w4.heap.size := Nat.le_trans HSZ.out hw4g.below.size
        have HZ4 := Lib.hid hz4
        clear hw4 hw4g bXr bLr HOW HGR q2 ex yx hz4 nb9
        go_wp2_with (at_builtin; refine wp_append_num rfl _ _ rfl W3.heap.size v ((ps.map numN).take j) ?hs9 HOW4.out _ 0 1 [(n : Int)] 1 rfl rfl ?hc9 (by have := HP9.out; simp at this ⊢; omega) HZ4.out ?_)
        case hs9 => rfl
        case hc9 =>
         intro i y9 hi
         match i, hi with
         | 0, hi =>
          simp at hi
          subst hi
          exact (@block_cells _ _ 0 _ _ b9h).trans rfl
        intro v5 w5 a5
        have bX5 : BlockAt w5 X #[.int .i64 5, .int .i64 (nD ws 1 1), .int .i64 0, .int .i64 0, .int .u64 0, .int .u64 0, .int .i64 0, .int .i64 0, .int .i64 0, .slice none 0 0, .bool F, v] 42 := a5.keep _ _ _ bX4 (by decide)
        have bL5 : BlockAt w5 lb cur 9 := a5.keep _ _ _ bL4 (by decide)
        have ho5 := a5.own
        rw [← HSN.out] at ho5
        obtain ⟨A5, c5, rfl, _, _⟩ := ho5.form
        obtain ⟨ln, hln⟩ : ∃ n, ((ps.map numN).take (j + 1)).length = n := ⟨_, rfl⟩
        rw [hln] at ho5 ⊢
        have hg5 : Below W2.heap.size W2 w5 := HG4.out.below.trans (a5.below.mono (Nat.le_trans HG.out.below.size HS3.out))
        have hz5 := Nat.le_trans HZ4.out a5.size
        have x11 : w5.cell? ⟨X, 11, none⟩ = some v := (@block_cells _ _ 11 _ _ bX5).trans rfl
        have u11 : w5.frozen? ⟨X, 11, none⟩ = false := @block_frozen _ _ 11 _ _ bX5
        haveI : Old X w5 := bX5.old
        have HO5 := Lib.hid ho5; have HG5 := Lib.hid hg5; have HZ5 := Lib.hid hz5
        clear ho5 hg5 hz5 a5 bX4 bL4 HOW4 HG4 HZ4 b9h hb9
        go_wp2
        go_roundw
        case rel =>
         have hlt := HLT.out
         refine ⟨j + 1, _, by go_num, by omega, (by show BlockAt _ X #[.int .i64 5, .int .i64 (nD ws 1 1), .int .i64 0, .int .i64 0, .int .u64 0, .int .u64 0, .int .i64 0, .int .i64 0, .int .i64 0, .slice none 0 0, .bool F, .slice A5 ln c5] _; infer_instance), ?_, inferInstance, Gr.of ?_, ?_⟩
         ·(with_reducible repeat (first | exact HO5.out | refine OwnR.set_ ?_ _ _ _ (by decide)))
         ·(with_reducible repeat (first | exact HG5.out | refine below_set_le ?_ (by have := HXX.out; omega) _))
         ·simpa using HZ5.out
        case measure => have hlt := HLT.out; simp [intOf]; omega
       ·obtain rfl : j = N := by omega
        have hrv : OwnR (Value.int .i64) 3 W3.heap.size wr v (pkOf d2) := by rw [HN3.out]; exact HOW.out
        have E : racV 5 F ws = ⟨5, nD ws 1 1, 0, zOp, F, pkOf d2⟩ := by rw [← ED2.out]; rfl
        have HE := Lib.hid E; clear E
        obtain ⟨Av, qv, rfl, hqv, _⟩ := hrv.form
        have HRV := Lib.hid hrv; have HQV := Lib.hid hqv; clear hrv hqv HOW
        have hdj : ((d2.toList == [45]) = true ∧ j = 0) ∨ ((d2.toList == [45]) = false ∧ j = ps.length) := by
         cases hdd2 : (d2.toList == [45])
         ·exact .inr ⟨rfl, HN2.out hdd2⟩
         ·exact .inl ⟨rfl, HN1.out hdd2⟩
        have hpp : 0 < ps.length := by cases ps with | nil => exact absurd rfl HNE.out | cons => simp
        have hpi : (0 : Int) < (ps.length : Int) := by omega
        rcases hdj with ⟨hdd2, rfl⟩ | ⟨hdd2, rfl⟩
        ·go_wp2
         go_meet
         case rel => exact ⟨rfl, ⟨none, 0, Av, qv, 0, W3.heap.size, by rw [HE.out]; show BlockAt _ X #[.int .i64 5, .int .i64 (nD ws 1 1), .int .i64 0, .int .i64 0, .int .u64 0, .int .u64 0, .int .i64 0, .int .i64 0, .int .i64 0, .slice none 0 0, .bool F, .slice Av (pkOf d2).length qv] _; infer_instance, by rw [HE.out]; exact Nat.le_refl _, by rw [HE.out]; exact OwnR.nil _ _, by rw [HE.out]; exact HQV.out, by rw [HE.out]; exact HRV.out⟩, HGR.out⟩
        ·clear hpi
         go_wp2
         go_meet
         case rel => exact ⟨rfl, ⟨none, 0, Av, qv, 0, W3.heap.size, by rw [HE.out]; show BlockAt _ X #[.int .i64 5, .int .i64 (nD ws 1 1), .int .i64 0, .int .i64 0, .int .u64 0, .int .u64 0, .int .i64 0, .int .i64 0, .int .i64 0, .slice none 0 0, .bool F, .slice Av (pkOf d2).length qv] _; infer_instance, by rw [HE.out]; exact Nat.le_refl _, by rw [HE.out]; exact OwnR.nil _ _, by rw [HE.out]; exact HQV.out, by rw [HE.out]; exact HRV.out⟩, HGR.out⟩
     ·-- 6
      have bX : BlockAt wc X #[.int .i64 6, .int .i64 (nD ws 1 1), .int .i64 0, .int .i64 0, .int .u64 0, .int .u64 0, .int .i64 0, .int .i64 0, .int .i64 0, .slice none 0 0, .bool F, .slice none 0 0] 42 := bX
      have x2 : wc.cell? ⟨X, 2, none⟩ = some (.int .i64 0) := (@block_cells _ _ 2 _ _ bX).trans rfl
      have u2 : wc.frozen? ⟨X, 2, none⟩ = false := @block_frozen _ _ 2 _ _ bX
      go_wp2_with (((first | (go_at_call 59; with_reducible refine (H11.out _).mono ?_) | (go_at_call 59; with_reducible refine (H1M.out _).mono ?_) | (go_at_call 59; with_reducible refine (H2M.out _).mono ?_)); rintro _ _ ⟨rfl, g, rfl⟩))
      go_meet
      case rel => exact ⟨rfl, ⟨none, 0, none, 0, 0, 0, by show BlockAt _ X #[.int .i64 6, .int .i64 (nD ws 1 1), .int .i64 (nD ws 2 1000000), .int .i64 0, .int .u64 0, .int .u64 0, .int .i64 0, .int .i64 0, .int .i64 0, .slice none 0 0, .bool F, .slice none 0 0] _; infer_instance, Nat.le_refl _, OwnR.nil _ _, Nat.le_refl _, OwnR.nil _ _⟩, Gr.of (by (with_reducible repeat (first | exact HG.out.below | apply below_alloc | refine below_set_le ?_ (by have := HXX.out; omega) _ | refine below_trans ?_ (grown_below _ _) | apply Below.drew)))⟩
     ·-- 7
      have bX : BlockAt wc X #[.int .i64 7, .int .i64 (nD ws 1 1), .int .i64 0, .int .i64 0, .int .u64 0, .int .u64 0, .int .i64 0, .int .i64 0, .int .i64 0, .slice none 0 0, .bool F, .slice none 0 0] 42 := bX
      go_wp2
      go_meet
      case rel => exact ⟨rfl, ⟨none, 0, none, 0, 0, 0, by show BlockAt _ X #[.int .i64 7, .int .i64 (nD ws 1 1), .int .i64 0, .int .i64 0, .int .u64 0, .int .u64 0, .int .i64 0, .int .i64 0, .int .i64 0, .slice none 0 0, .bool F, .slice none 0 0] _; infer_instance, Nat.le_refl _, OwnR.nil _ _, Nat.le_refl _, OwnR.nil _ _⟩, Gr.of (by (with_reducible repeat (first | exact HG.out.below | apply below_alloc | refine below_set_le ?_ (by have := HXX.out; omega) _ | refine below_trans ?_ (grown_below _ _) | apply Below.drew)))⟩
     ·-- 8
      have bX : BlockAt wc X #[.int .i64 8, .int .i64 (nD ws 1 1), .int .i64 0, .int .i64 0, .int .u64 0, .int .u64 0, .int .i64 0, .int .i64 0, .int .i64 0, .slice none 0 0, .bool F, .slice none 0 0] 42 := bX
      go_wp2
      go_meet
      case rel => exact ⟨rfl, ⟨none, 0, none, 0, 0, 0, by show BlockAt _ X #[.int .i64 8, .int .i64 (nD ws 1 1), .int .i64 0, .int .i64 0, .int .u64 0, .int .u64 0, .int .i64 0, .int .i64 0, .int .i64 0, .slice none 0 0, .bool F, .slice none 0 0] _; infer_instance, Nat.le_refl _, OwnR.nil _ _, Nat.le_refl _, OwnR.nil _ _⟩, Gr.of (by (with_reducible repeat (first | exact HG.out.below | apply below_alloc | refine below_set_le ?_ (by have := HXX.out; omega) _ | refine below_trans ?_ (grown_below _ _) | apply Below.drew)))⟩
     ·-- 9
      have bX : BlockAt wc X #[.int .i64 9, .int .i64 (nD ws 1 1), .int .i64 0, .int .i64 0, .int .u64 0, .int .u64 0, .int .i64 0, .int .i64 0, .int .i64 0, .slice none 0 0, .bool F, .slice none 0 0] 42 := bX
      have x2 : wc.cell? ⟨X, 2, none⟩ = some (.int .i64 0) := (@block_cells _ _ 2 _ _ bX).trans rfl
      have u2 : wc.frozen? ⟨X, 2, none⟩ = false := @block_frozen _ _ 2 _ _ bX
      go_wp2_with (((first | (go_at_call 59; with_reducible refine (H11.out _).mono ?_) | (go_at_call 59; with_reducible refine (H1M.out _).mono ?_) | (go_at_call 59; with_reducible refine (H2M.out _).mono ?_)); rintro _ _ ⟨rfl, g, rfl⟩))
      go_meet
      case rel => exact ⟨rfl, ⟨none, 0, none, 0, 0, 0, by show BlockAt _ X #[.int .i64 9, .int .i64 (nD ws 1 1), .int .i64 (nD ws 2 1000000), .int .i64 0, .int .u64 0, .int .u64 0, .int .i64 0, .int .i64 0, .int .i64 0, .slice none 0 0, .bool F, .slice none 0 0] _; infer_instance, Nat.le_refl _, OwnR.nil _ _, Nat.le_refl _, OwnR.nil _ _⟩, Gr.of (by (with_reducible repeat (first | exact HG.out.below | apply below_alloc | refine below_set_le ?_ (by have := HXX.out; omega) _ | refine below_trans ?_ (grown_below _ _) | apply Below.drew)))⟩
     ·-- 10
      have bX : BlockAt wc X #[.int .i64 10, .int .i64 0, .int .i64 0, .int .i64 0, .int .u64 0, .int .u64 0, .int .i64 0, .int .i64 0, .int .i64 0, .slice none 0 0, .bool F, .slice none 0 0] 42 := bX
      go_wp2
      go_meet
      case rel => exact ⟨rfl, ⟨none, 0, none, 0, 0, 0, by show BlockAt _ X #[.int .i64 10, .int .i64 0, .int .i64 0, .int .i64 0, .int .u64 0, .int .u64 0, .int .i64 0, .int .i64 0, .int .i64 0, .slice none 0 0, .bool F, .slice none 0 0] _; infer_instance, Nat.le_refl _, OwnR.nil _ _, Nat.le_refl _, OwnR.nil _ _⟩, Gr.of (by (with_reducible repeat (first | exact HG.out.below | apply below_alloc | refine below_set_le ?_ (by have := HXX.out; omega) _ | refine below_trans ?_ (grown_below _ _) | apply Below.drew)))⟩
    case rest =>
     clear bX q2 x0 HG
     obtain ⟨rfl, ⟨Ad, qd, Av, qv, b1, b2, bX, hqd, hrd, hqv, hrv⟩, hg⟩ := hcut
     have hbd := racV_bd K HKL.out F ws HW.out
     have hgood : goodA x = ((racV K F ws).may && ((racV K F ws).text == x.data.toList)) := by rw [goodA_rac, racX, HWS.out, HKK.out, HF9.out]
     have hres : racX x = racV K F ws := by rw [racX, HWS.out, HKK.out, HF9.out]
     obtain ⟨a9, hA⟩ : ∃ a, racV K F ws = a := ⟨_, rfl⟩
     rw [hA] at hbd hgood hres bX hqd hrd hqv hrv
     obtain ⟨k, nd, m, ⟨ok, ov, ot, os, oa, oc, od⟩, f, pk⟩ := a9
     simp only at hbd hqd hrd hqv hrv
     obtain ⟨hB, ⟨nd0, nd1⟩, ⟨m0, m1⟩, hdl, hpl, hpk⟩ := hbd
     have hno : goodA x = false → actRes x = zA ∧ goodA x = false := fun h => by simp [actRes, h]
     have hyes : goodA x = true → actRes x = ⟨k, nd, m, ⟨ok, ov, ot, os, oa, oc, od⟩, f, pk⟩ ∧ goodA x = true := fun h => ⟨by rw [actRes, if_pos h, ← racX_good x h, hres], h⟩
     have bR : BlockAt wc w.heap.size #[.int .i64 0, .int .i64 0, .int .i64 0, .int .i64 0, .int .u64 0, .int .u64 0, .int .i64 0, .int .i64 0, .int .i64 0, .slice none 0 0, .bool false, .slice none 0 0] 42 := BR2.out.gr hg
     have hbw : Below w.heap.size w wc := HB2.out.trans (hg.below.mono HB2.out.size)
     have HNO := Lib.hid hno; have HYES := Lib.hid hyes; have HGD := Lib.hid hgood; have HBB := Lib.hid hbw; have HRD := Lib.hid hrd; have HRV := Lib.hid hrv
     have HQD := Lib.hid hqd; have HQV := Lib.hid hqv
     clear hno hyes hgood hbw hrd hrv hA hres hpk hqd hqv
     haveI : Tb wc := HTB.out _ hg
     clear hg
     haveI : Old X wc := bX.old
     haveI : Old w.heap.size wc := bR.old
     haveI : GrC w wc := ⟨HBB.out⟩
     have hX9 := HXX.out
     have e1 : (w.heap.size = X) = False := by simp; omega
     have e2 : (X = w.heap.size) = False := by simp; omega
     have x0 : wc.cell? ⟨X, 0, none⟩ = some (.int .i64 k) := (@block_cells _ _ 0 _ _ bX).trans rfl
     have x1 : wc.cell? ⟨X, 1, none⟩ = some (.int .i64 nd) := (@block_cells _ _ 1 _ _ bX).trans rfl
     have x2 : wc.cell? ⟨X, 2, none⟩ = some (.int .i64 m) := (@block_cells _ _ 2 _ _ bX).trans rfl
     have x3 : wc.cell? ⟨X, 3, none⟩ = some (.int .i64 ok) := (@block_cells _ _ 3 _ _ bX).trans rfl
     have x4 : wc.cell? ⟨X, 4, none⟩ = some (.int .u64 ov) := (@block_cells _ _ 4 _ _ bX).trans rfl
     have x5 : wc.cell? ⟨X, 5, none⟩ = some (.int .u64 ot) := (@block_cells _ _ 5 _ _ bX).trans rfl
     have x6 : wc.cell? ⟨X, 6, none⟩ = some (.int .i64 os) := (@block_cells _ _ 6 _ _ bX).trans rfl
     have x7 : wc.cell? ⟨X, 7, none⟩ = some (.int .i64 oa) := (@block_cells _ _ 7 _ _ bX).trans rfl
     have x8 : wc.cell? ⟨X, 8, none⟩ = some (.int .i64 oc) := (@block_cells _ _ 8 _ _ bX).trans rfl
     have x9 : wc.cell? ⟨X, 9, none⟩ = some (.slice Ad od.length qd) := (@block_cells _ _ 9 _ _ bX).trans rfl
     have x10 : wc.cell? ⟨X, 10, none⟩ = some (.bool f) := (@block_cells _ _ 10 _ _ bX).trans rfl
     have x11 : wc.cell? ⟨X, 11, none⟩ = some (.slice Av pk.length qv) := (@block_cells _ _ 11 _ _ bX).trans rfl
     have y0 : wc.cell? ⟨w.heap.size, 0, none⟩ = some (.int .i64 0) := (@block_cells _ _ 0 _ _ bR).trans rfl
     have y1 : wc.cell? ⟨w.heap.size, 1, none⟩ = some (.int .i64 0) := (@block_cells _ _ 1 _ _ bR).trans rfl
     have y2 : wc.cell? ⟨w.heap.size, 2, none⟩ = some (.int .i64 0) := (@block_cells _ _ 2 _ _ bR).trans rfl
     have y3 : wc.cell? ⟨w.heap.size, 3, none⟩ = some (.int .i64 0) := (@block_cells _ _ 3 _ _ bR).trans rfl
     have y4 : wc.cell? ⟨w.heap.size, 4, none⟩ = some (.int .u64 0) := (@block_cells _ _ 4 _ _ bR).trans rfl
     have y5 : wc.cell? ⟨w.heap.size, 5, none⟩ = some (.int .u64 0) := (@block_cells _ _ 5 _ _ bR).trans rfl
     have y6 : wc.cell? ⟨w.heap.size, 6, none⟩ = some (.int .i64 0) := (@block_cells _ _ 6 _ _ bR).trans rfl
     have y7 : wc.cell? ⟨w.heap.size, 7, none⟩ = some (.int .i64 0) := (@block_cells _ _ 7 _ _ bR).trans rfl
     have y8 : wc.cell? ⟨w.heap.size, 8, none⟩ = some (.int .i64 0) := (@block_cells _ _ 8 _ _ bR).trans rfl
     have y9 : wc.cell? ⟨w.heap.size, 9, none⟩ = some (.slice none 0 0) := (@block_cells _ _ 9 _ _ bR).trans rfl
     have y10 : wc.cell? ⟨w.heap.size, 10, none⟩ = some (.bool false) := (@block_cells _ _ 10 _ _ bR).trans rfl
     have y11 : wc.cell? ⟨w.heap.size, 11, none⟩ = some (.slice none 0 0) := (@block_cells _ _ 11 _ _ bR).trans rfl
     have z0 : wc.frozen? ⟨w.heap.size, 0, none⟩ = false := @block_frozen _ _ 0 _ _ bR
     have z1 : wc.frozen? ⟨w.heap.size, 1, none⟩ = false := @block_frozen _ _ 1 _ _ bR
     have z2 : wc.frozen? ⟨w.heap.size, 2, none⟩ = false := @block_frozen _ _ 2 _ _ bR
     have z3 : wc.frozen? ⟨w.heap.size, 3, none⟩ = false := @block_frozen _ _ 3 _ _ bR
     have z4 : wc.frozen? ⟨w.heap.size, 4, none⟩ = false := @block_frozen _ _ 4 _ _ bR
     have z5 : wc.frozen? ⟨w.heap.size, 5, none⟩ = false := @block_frozen _ _ 5 _ _ bR
     have z6 : wc.frozen? ⟨w.heap.size, 6, none⟩ = false := @block_frozen _ _ 6 _ _ bR
     have z7 : wc.frozen? ⟨w.heap.size, 7, none⟩ = false := @block_frozen _ _ 7 _ _ bR
     have z8 : wc.frozen? ⟨w.heap.size, 8, none⟩ = false := @block_frozen _ _ 8 _ _ bR
     have z9 : wc.frozen? ⟨w.heap.size, 9, none⟩ = false := @block_frozen _ _ 9 _ _ bR
     have z10 : wc.frozen? ⟨w.heap.size, 10, none⟩ = false := @block_frozen _ _ 10 _ _ bR
     have z11 : wc.frozen? ⟨w.heap.size, 11, none⟩ = false := @block_frozen _ _ 11 _ _ bR
     have HMM := Lib.hid (fun W (hW : GrC wc W) => mayAct26_any k nd m ok ov ot os oa oc Ad Av od.length qd pk.length qv f od pk W rfl (by omega) (HRD.out.row.gr (Gr.of hW.b)) rfl (HRV.out.row.gr (Gr.of hW.b)) hB.v0 hB.t0)
     rcases Bool.eq_false_or_eq_true (mayActB k nd m ok ov ot os oa oc f od.length pk.length od pk) with hM | hM
     ·have HTT := Lib.hid (fun W (_ : Tb W) (hW : GrC wc W) => ractText_any k nd m ok ov ot os oa oc f Ad Av od.length qd pk.length qv od pk W hM hB rfl HQD.out (HRD.out.row.gr (Gr.of hW.b)) rfl (HRV.out.row.gr (Gr.of hW.b)))
      rw [hM] at HMM
      have hM2 : (⟨k, nd, m, ⟨ok, ov, ot, os, oa, oc, od⟩, f, pk⟩ : ActV).may = true := hM
      rcases Bool.eq_false_or_eq_true (actTextL k nd m ok ov ot os oa oc f od pk == x.data.toList) with hS | hS
      ·have hS2 : ((⟨k, nd, m, ⟨ok, ov, ot, os, oa, oc, od⟩, f, pk⟩ : ActV).text == x.data.toList) = true := hS
       have hg : goodA x = true := by rw [HGD.out, hM2, hS2]; rfl
       have HG := Lib.hid (HYES.out hg); clear hg
       have hne : (actTextL k nd m ok ov ot os oa oc f od pk == x.toList) = true := by rw [Lib.toList_data]; exact hS
       clear hS hM hM2 hS2
       go_wp2_with (first | (go_at_call 23; ((with_reducible refine (HMM.out _ inferInstance).mono ?_); rintro _ _ ⟨rfl, g1, rfl⟩)) | (go_at_call 24; ((with_reducible refine (HTT.out _ inferInstance inferInstance).mono ?_); rintro _ _ ⟨rfl, g2, rfl⟩)))
       exact bodyPost_ret (v := .tuple #[.agg #[.int .i64 k, .int .i64 nd, .int .i64 m, .int .i64 ok, .int .u64 ov, .int .u64 ot, .int .i64 os, .int .i64 oa, .int .i64 oc, .slice Ad od.length qd, .bool f, .slice Av pk.length qv], .bool true]) (by simp [results, Tryz.results20, go_sem, e1, e2, x0, x1, x2, x3, x4, x5, x6, x7, x8, x9, x10, x11, y0, y1, y2, y3, y4, y5, y6, y7, y8, y9, y10, y11, z0, z1, z2, z3, z4, z5, z6, z7, z8, z9, z10, z11]) rfl ⟨Ad, qd, Av, qv, by rw [HG.out.1, HG.out.2]; rfl, by rw [HG.out.1]; exact HQD.out, by rw [HG.out.1]; refine ⟨b1, ?_⟩; show OwnR bv 5 b1 _ (.slice Ad od.length qd) od; (with_reducible repeat (first | exact HRD.out | refine OwnR.grown_ ?_ _ | refine OwnR.set_ ?_ _ _ _ (by decide))), by rw [HG.out.1]; exact HQV.out, by rw [HG.out.1]; refine ⟨b2, ?_⟩; show OwnR (Value.int .i64) 3 b2 _ (.slice Av pk.length qv) pk; (with_reducible repeat (first | exact HRV.out | refine OwnR.grown_ ?_ _ | refine OwnR.set_ ?_ _ _ _ (by decide))), Gr.of (by (with_reducible repeat (first | exact HBB.out | apply below_alloc | refine below_set_le ?_ (by omega) _ | refine below_trans ?_ (grown_below _ _))))⟩
      ·have hS2 : ((⟨k, nd, m, ⟨ok, ov, ot, os, oa, oc, od⟩, f, pk⟩ : ActV).text == x.data.toList) = false := hS
       have hg : goodA x = false := by rw [HGD.out, hM2, hS2]; rfl
       have HG := Lib.hid (HNO.out hg); clear hg
       have hne : (actTextL k nd m ok ov ot os oa oc f od pk == x.toList) = false := by rw [Lib.toList_data]; exact hS
       clear hS hM hM2 hS2
       go_wp2_with (first | (go_at_call 23; ((with_reducible refine (HMM.out _ inferInstance).mono ?_); rintro _ _ ⟨rfl, g1, rfl⟩)) | (go_at_call 24; ((with_reducible refine (HTT.out _ inferInstance inferInstance).mono ?_); rintro _ _ ⟨rfl, g2, rfl⟩)))
       exact bodyPost_ret (v := .tuple #[.agg #[.int .i64 0, .int .i64 0, .int .i64 0, .int .i64 0, .int .u64 0, .int .u64 0, .int .i64 0, .int .i64 0, .int .i64 0, .slice none 0 0, .bool false, .slice none 0 0], .bool false]) (by simp [results, Tryz.results20, go_sem, e1, e2, x0, x1, x2, x3, x4, x5, x6, x7, x8, x9, x10, x11, y0, y1, y2, y3, y4, y5, y6, y7, y8, y9, y10, y11, z0, z1, z2, z3, z4, z5, z6, z7, z8, z9, z10, z11]) rfl ⟨none, 0, none, 0, by rw [HG.out.1, HG.out.2]; rfl, by rw [HG.out.1]; exact Nat.le_refl _, by rw [HG.out.1]; exact ⟨0, OwnR.nil _ _⟩, by rw [HG.out.1]; exact Nat.le_refl _, by rw [HG.out.1]; exact ⟨0, OwnR.nil _ _⟩, Gr.of (by (with_reducible repeat (first | exact HBB.out | apply below_alloc | refine below_set_le ?_ (by omega) _ | refine below_trans ?_ (grown_below _ _))))⟩
     ·rw [hM] at HMM
      have hM2 : (⟨k, nd, m, ⟨ok, ov, ot, os, oa, oc, od⟩, f, pk⟩ : ActV).may = false := hM
      have hg : goodA x = false := by rw [HGD.out, hM2]; rfl
      have HG := Lib.hid (HNO.out hg); clear hg hM hM2
      go_wp2_with ((go_at_call 23; ((with_reducible refine (HMM.out _ inferInstance).mono ?_); rintro _ _ ⟨rfl, g1, rfl⟩)))
      exact bodyPost_ret (v := .tuple #[.agg #[.int .i64 0, .int .i64 0, .int .i64 0, .int .i64 0, .int .u64 0, .int .u64 0, .int .i64 0, .int .i64 0, .int .i64 0, .slice none 0 0, .bool false, .slice none 0 0], .bool false]) (by simp [results, Tryz.results20, go_sem, e1, e2, x0, x1, x2, x3, x4, x5, x6, x7, x8, x9, x10, x11, y0, y1, y2, y3, y4, y5, y6, y7, y8, y9, y10, y11, z0, z1, z2, z3, z4, z5, z6, z7, z8, z9, z10, z11]) rfl ⟨none, 0, none, 0, by rw [HG.out.1, HG.out.2]; rfl, by rw [HG.out.1]; exact Nat.le_refl _, by rw [HG.out.1]; exact ⟨0, OwnR.nil _ _⟩, by rw [HG.out.1]; exact Nat.le_refl _, by rw [HG.out.1]; exact ⟨0, OwnR.nil _ _⟩, Gr.of (by (with_reducible repeat (first | exact HBB.out | apply below_alloc | refine below_set_le ?_ (by omega) _ | refine below_trans ?_ (grown_below _ _))))⟩
end Go.Proofs.YtgjdgafoidppaaaGreatDoor
