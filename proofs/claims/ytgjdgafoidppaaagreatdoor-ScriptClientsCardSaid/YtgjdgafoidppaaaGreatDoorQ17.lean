/- The reference's opOf. Conditions: the words, four at least, stand in memory; words of at most 200000 bytes. The reference of layer 13: Names, has, in, May, Same, Much. Conditions: what is read stands in memory. -/
import Derived.Test.YtgjdgafoidppaaaGreatDoorQ15
import Derived.Test.YtgjdgafoidppaaaGreatDoorQ16
namespace Go.Proofs.YtgjdgafoidppaaaGreatDoor
open Go.RowKit
set_option linter.unusedVariables false
set_option linter.unusedSimpArgs false
set_option linter.unnecessarySimpa false
def kdL : List ByteArray := [⟨#[99, 114, 101, 97, 116, 101]⟩, ⟨#[100, 101, 108, 101, 116, 101]⟩, ⟨#[114, 101, 115, 105, 122, 101]⟩, ⟨#[115, 110, 97, 112]⟩, ⟨#[119, 114, 105, 116, 101]⟩, ⟨#[122, 101, 114, 111]⟩, ⟨#[100, 105, 115, 99, 97, 114, 100]⟩, ⟨#[102, 108, 117, 115, 104]⟩, ⟨#[114, 101, 97, 100]⟩]
/-- The words' place in a world in which their block stands. -/
theorem place_kd (b : Nat) (y : ByteArray) (w : World) (kk : Int) (hk : Lib.idxOfS kdL y + 1 = kk) [hB : BlockAt w b (kdL.map Value.string).toArray 9] :
    Calls Tryz.prog 57 #[.slice (some ⟨b, 0, none⟩) 9 9, .string y] w fun e w' => e = .returned (.int .i64 kk) ∧ w = w' := by
  subst hk
  refine place_any b 0 9 kdL 9 rfl y w (by omega) (fun j z hj => ?_)
  rw [Nat.zero_add, block_cells]
  simp [hj]
theorem st_i64 {w : World} {X o : Nat} {u : Value} {z : Int} (hc : w.cell? ⟨X, o, none⟩ = some u) (hf : w.frozen? ⟨X, o, none⟩ = false) : (storeVar 3 ⟨X, o, none⟩ (.int .i64 z)).run Tryz.prog w = .ok () (w.setCell ⟨X, o, none⟩ (.int .i64 z)) := by
  go_simp
theorem st_sl {w : World} {X o : Nat} {u : Value} {A : Option Addr} {n q : Nat} (hc : w.cell? ⟨X, o, none⟩ = some u) (hf : w.frozen? ⟨X, o, none⟩ = false) : (storeVar 24 ⟨X, o, none⟩ (.slice A n q)).run Tryz.prog w = .ok () (w.setCell ⟨X, o, none⟩ (.slice A n q)) := by
  go_simp
/-- What is read of a word. -/
structure NumOf (d : ByteArray) (most : Int) (v : Nat) : Prop where
  c : ∀ W, Calls Tryz.prog 90 #[.string d, .int .u64 most] W fun e w' => e = .returned (.int .u64 v) ∧ Gr W w'
structure SmallOf (d : ByteArray) (most : Int) (v : Nat) : Prop where
  c : ∀ W, Calls Tryz.prog 59 #[.string d, .int .i64 most] W fun e w' => e = .returned (.int .i64 v) ∧ Gr W w'
structure DataOf (d : ByteArray) (l : List UInt8) : Prop where
  c : ∀ W, Calls Tryz.prog 91 #[.string d] W fun e W' => ∃ v, e = .returned v ∧ OwnR bv 5 W.heap.size W' v l ∧ Below W.heap.size W W'
structure Rd (d1 d2 d3 : ByteArray) (v1 v2 s2 a2 c3 : Nat) (l3 : List UInt8) : Prop where
  n1 : NumOf d1 4294967295 v1
  n2 : NumOf d2 4294967295 v2
  z2 : SmallOf d2 256 s2
  a2 : SmallOf d2 1048576 a2
  c3 : SmallOf d3 1024 c3
  l3 : DataOf d3 l3
def rV (k : Int) (v1 v2 s2 a2 c3 : Nat) (l3 : List UInt8) : OpV := if k = 1 then ⟨1, v1, 0, s2, 0, 0, []⟩ else if k = 2 then ⟨2, v1, 0, 0, 0, 0, []⟩ else if k = 3 then ⟨3, v1, 0, s2, 0, 0, []⟩ else if k = 4 then ⟨4, v1, v2, 0, 0, 0, []⟩ else if k = 5 then ⟨5, v1, 0, 0, a2, 0, l3⟩ else if k = 6 then ⟨6, v1, 0, 0, a2, c3, []⟩ else if k = 7 then ⟨7, v1, 0, 0, a2, c3, []⟩ else if k = 8 then ⟨8, 0, 0, 0, 0, 0, []⟩ else if k = 9 then ⟨9, v1, 0, 0, a2, c3, []⟩ else ⟨0, v1, 0, 0, 0, 0, []⟩
set_option maxRecDepth 100000 in
set_option maxHeartbeats 8000000 in
theorem ropOf_any (b o n c : Nat) (d0 d1 d2 d3 : ByteArray) (v1 v2 s2 a2 c3 : Nat) (l3 : List UInt8) (H : Rd d1 d2 d3 v1 v2 s2 a2 c3 l3) (w : World) [hk : Tb w] (h4 : 4 ≤ n) (hb : b < w.heap.size) (kk : Int) (hkk : Lib.idxOfS kdL d0 + 1 = kk) (k0 : 0 ≤ kk) (k9 : kk ≤ 9)
    (hc0 : w.cell? ⟨b, o, none⟩ = some (.string d0)) (hc1 : w.cell? ⟨b, o + 1, none⟩ = some (.string d1)) (hc2 : w.cell? ⟨b, o + 2, none⟩ = some (.string d2)) (hc3 : w.cell? ⟨b, o + 3, none⟩ = some (.string d3)) :
    Calls Tryz.prog 40 #[.slice (some ⟨b, o, none⟩) n c] w fun e w' => ∃ dv, e = .returned ((rV kk v1 v2 s2 a2 c3 l3).agg dv) ∧ OwnR bv 5 w.heap.size w' dv (rV kk v1 v2 s2 a2 c3 l3).d ∧ Below w.heap.size w w' := by
  have HKK := Lib.hid hkk; clear hkk
  have HH := Lib.hid H; clear H
  haveI : Old b w := ⟨hb⟩
  have i0 : (0 : Int) < (n : Int) := by omega
  have i1 : (1 : Int) < (n : Int) := by omega
  have i2 : (2 : Int) < (n : Int) := by omega
  have i3 : (3 : Int) < (n : Int) := by omega
  go_enter Tryz.func40, Tryz.ntmps40
  go_upto_region 1 with fail
  go_cut [3] (fun u wx => ∃ g, u = .pointer (some ⟨g, 0, none⟩) ∧ w.heap.size < g ∧ BlockAt wx g #[.int .i64 kk, .int .u64 0, .int .u64 0, .int .i64 0, .int .i64 0, .int .i64 0, .slice none 0 0] 26 ∧ BlockAt wx w.heap.size #[.int .i64 0, .int .u64 0, .int .u64 0, .int .i64 0, .int .i64 0, .int .i64 0, .slice none 0 0] 26 ∧ Below w.heap.size w wx)
  case first =>
    haveI : NeZero n := ⟨by omega⟩
    go_region_with (first | (go_at_call 45; refine (kinds_any _).mono ?_; rintro e w' ⟨rfl, rfl⟩) | (go_at_call 57; refine (@place_kd _ _ _ _ HKK.out (by first | exact inferInstanceAs (BlockAt (World.alloc _ _) _ _ _) | infer_instance)).mono ?_; rintro e w' ⟨rfl, rfl⟩))
    all_goals
      go_wp2_with fail
      go_meet
      case rel => exact ⟨_, rfl, by omega, inferInstance, inferInstance, by repeat (first | with_reducible exact Below.refl _ _ | with_reducible apply below_alloc | with_reducible refine below_set_le ?_ (by simp) _ | with_reducible apply Below.drew)⟩
  case rest =>
    obtain ⟨X, rfl, hX, bX, bR, hbw⟩ := hcut
    have hHR : w.heap.size < wc.heap.size := bR.lt
    haveI : BNe w.heap.size X := ⟨by omega⟩
    haveI : BNe X w.heap.size := ⟨by omega⟩
    haveI : Old X wc := bX.old
    haveI : Old w.heap.size wc := bR.old
    haveI : Old b wc := ⟨by omega⟩
    have e1 : (w.heap.size = X) = False := by simp; omega
    have e2 : (X = w.heap.size) = False := by simp; omega
    have e3 : (b = X) = False := by simp; omega
    have e4 : (X = b) = False := by simp; omega
    have e5 : (b = w.heap.size) = False := by simp; omega
    have e6 : (w.heap.size = b) = False := by simp; omega
    have y1 : wc.cell? ⟨b, o + 1, none⟩ = some (.string d1) := (hbw.cell (p := ⟨b, o + 1, none⟩) hb).trans hc1
    have y2 : wc.cell? ⟨b, o + 2, none⟩ = some (.string d2) := (hbw.cell (p := ⟨b, o + 2, none⟩) hb).trans hc2
    have y3 : wc.cell? ⟨b, o + 3, none⟩ = some (.string d3) := (hbw.cell (p := ⟨b, o + 3, none⟩) hb).trans hc3
    have x0 : wc.cell? ⟨X, 0, none⟩ = some (.int .i64 kk) := (block_cells _ _ _ _ _).trans rfl
    have x1 : wc.cell? ⟨X, 1, none⟩ = some (.int .u64 0) := (block_cells _ _ _ _ _).trans rfl
    have x2 : wc.cell? ⟨X, 2, none⟩ = some (.int .u64 0) := (block_cells _ _ _ _ _).trans rfl
    have x3 : wc.cell? ⟨X, 3, none⟩ = some (.int .i64 0) := (block_cells _ _ _ _ _).trans rfl
    have x4 : wc.cell? ⟨X, 4, none⟩ = some (.int .i64 0) := (block_cells _ _ _ _ _).trans rfl
    have x5 : wc.cell? ⟨X, 5, none⟩ = some (.int .i64 0) := (block_cells _ _ _ _ _).trans rfl
    have x6 : wc.cell? ⟨X, 6, none⟩ = some (.slice none 0 0) := (block_cells _ _ _ _ _).trans rfl
    have u1 : wc.frozen? ⟨X, 1, none⟩ = false := block_frozen _ _ _ _ _
    have u2 : wc.frozen? ⟨X, 2, none⟩ = false := block_frozen _ _ _ _ _
    have u3 : wc.frozen? ⟨X, 3, none⟩ = false := block_frozen _ _ _ _ _
    have r0 : wc.cell? ⟨w.heap.size, 0, none⟩ = some (.int .i64 0) := (block_cells _ _ _ _ _).trans rfl
    have r1 : wc.cell? ⟨w.heap.size, 1, none⟩ = some (.int .u64 0) := (block_cells _ _ _ _ _).trans rfl
    have r2 : wc.cell? ⟨w.heap.size, 2, none⟩ = some (.int .u64 0) := (block_cells _ _ _ _ _).trans rfl
    have r3 : wc.cell? ⟨w.heap.size, 3, none⟩ = some (.int .i64 0) := (block_cells _ _ _ _ _).trans rfl
    have r4 : wc.cell? ⟨w.heap.size, 4, none⟩ = some (.int .i64 0) := (block_cells _ _ _ _ _).trans rfl
    have r5 : wc.cell? ⟨w.heap.size, 5, none⟩ = some (.int .i64 0) := (block_cells _ _ _ _ _).trans rfl
    have r6 : wc.cell? ⟨w.heap.size, 6, none⟩ = some (.slice none 0 0) := (block_cells _ _ _ _ _).trans rfl
    have z0 : wc.frozen? ⟨w.heap.size, 0, none⟩ = false := block_frozen _ _ _ _ _
    have z1 : wc.frozen? ⟨w.heap.size, 1, none⟩ = false := block_frozen _ _ _ _ _
    have z2 : wc.frozen? ⟨w.heap.size, 2, none⟩ = false := block_frozen _ _ _ _ _
    have z3 : wc.frozen? ⟨w.heap.size, 3, none⟩ = false := block_frozen _ _ _ _ _
    have z4 : wc.frozen? ⟨w.heap.size, 4, none⟩ = false := block_frozen _ _ _ _ _
    have z5 : wc.frozen? ⟨w.heap.size, 5, none⟩ = false := block_frozen _ _ _ _ _
    have z6 : wc.frozen? ⟨w.heap.size, 6, none⟩ = false := block_frozen _ _ _ _ _
    have HBW := Lib.hid hbw; clear hbw
    have HX := Lib.hid hX; clear hX
    have hk3 : kk = 0 ∨ kk = 1 ∨ kk = 2 ∨ kk = 3 ∨ kk = 4 ∨ kk = 5 ∨ kk = 6 ∨ kk = 7 ∨ kk = 8 ∨ kk = 9 := by omega
    clear k0 k9
    rcases hk3 with rfl | rfl | rfl | rfl | rfl | rfl | rfl | rfl | rfl | rfl
    · -- 0
      go_wp2_with ((go_at_call 90; ((with_reducible refine (HH.out.n1.c _).mono ?_); rintro _ _ ⟨rfl, g, rfl⟩)))
      exact bodyPost_ret (v := .agg #[.int .i64 0, .int .u64 v1, .int .u64 0, .int .i64 0, .int .i64 0, .int .i64 0, .slice none 0 0]) (by simp [results, Tryz.results40, go_sem, e1, e2, e3, e4, e5, e6, x0, x1, x2, x3, x4, x5, x6, r0, r1, r2, r3, r4, r5, r6, z0, z1, z2, z3, z4, z5, z6]) rfl ⟨.slice none 0 0, rfl, OwnR.nil _ _, by repeat (first | with_reducible exact HBW.out | with_reducible refine below_set_le ?_ (by have := HX.out; omega) _ | with_reducible refine below_trans ?_ (grown_below _ _) | with_reducible apply Below.drew)⟩
    · -- 1
      go_wp2_with (first | (go_at_call 90; ((with_reducible refine (HH.out.n1.c _).mono ?_); rintro _ _ ⟨rfl, g, rfl⟩)) | (go_at_call 59; ((with_reducible refine (HH.out.z2.c _).mono ?_); rintro _ _ ⟨rfl, g, rfl⟩)))
      exact bodyPost_ret (v := .agg #[.int .i64 1, .int .u64 v1, .int .u64 0, .int .i64 s2, .int .i64 0, .int .i64 0, .slice none 0 0]) (by simp [results, Tryz.results40, go_sem, e1, e2, e3, e4, e5, e6, x0, x1, x2, x3, x4, x5, x6, r0, r1, r2, r3, r4, r5, r6, z0, z1, z2, z3, z4, z5, z6]) rfl ⟨.slice none 0 0, rfl, OwnR.nil _ _, by repeat (first | with_reducible exact HBW.out | with_reducible refine below_set_le ?_ (by have := HX.out; omega) _ | with_reducible refine below_trans ?_ (grown_below _ _) | with_reducible apply Below.drew)⟩
    · -- 2
      go_wp2_with ((go_at_call 90; ((with_reducible refine (HH.out.n1.c _).mono ?_); rintro _ _ ⟨rfl, g, rfl⟩)))
      exact bodyPost_ret (v := .agg #[.int .i64 2, .int .u64 v1, .int .u64 0, .int .i64 0, .int .i64 0, .int .i64 0, .slice none 0 0]) (by simp [results, Tryz.results40, go_sem, e1, e2, e3, e4, e5, e6, x0, x1, x2, x3, x4, x5, x6, r0, r1, r2, r3, r4, r5, r6, z0, z1, z2, z3, z4, z5, z6]) rfl ⟨.slice none 0 0, rfl, OwnR.nil _ _, by repeat (first | with_reducible exact HBW.out | with_reducible refine below_set_le ?_ (by have := HX.out; omega) _ | with_reducible refine below_trans ?_ (grown_below _ _) | with_reducible apply Below.drew)⟩
    · -- 3
      go_wp2_with (first | (go_at_call 90; ((with_reducible refine (HH.out.n1.c _).mono ?_); rintro _ _ ⟨rfl, g, rfl⟩)) | (go_at_call 59; ((with_reducible refine (HH.out.z2.c _).mono ?_); rintro _ _ ⟨rfl, g, rfl⟩)))
      exact bodyPost_ret (v := .agg #[.int .i64 3, .int .u64 v1, .int .u64 0, .int .i64 s2, .int .i64 0, .int .i64 0, .slice none 0 0]) (by simp [results, Tryz.results40, go_sem, e1, e2, e3, e4, e5, e6, x0, x1, x2, x3, x4, x5, x6, r0, r1, r2, r3, r4, r5, r6, z0, z1, z2, z3, z4, z5, z6]) rfl ⟨.slice none 0 0, rfl, OwnR.nil _ _, by repeat (first | with_reducible exact HBW.out | with_reducible refine below_set_le ?_ (by have := HX.out; omega) _ | with_reducible refine below_trans ?_ (grown_below _ _) | with_reducible apply Below.drew)⟩
    · -- 4
      go_wp2_with (first | (go_at_call 90; ((with_reducible refine (HH.out.n1.c _).mono ?_); rintro _ _ ⟨rfl, g, rfl⟩)) | (go_at_call 90; ((with_reducible refine (HH.out.n2.c _).mono ?_); rintro _ _ ⟨rfl, g, rfl⟩)))
      exact bodyPost_ret (v := .agg #[.int .i64 4, .int .u64 v1, .int .u64 v2, .int .i64 0, .int .i64 0, .int .i64 0, .slice none 0 0]) (by simp [results, Tryz.results40, go_sem, e1, e2, e3, e4, e5, e6, x0, x1, x2, x3, x4, x5, x6, r0, r1, r2, r3, r4, r5, r6, z0, z1, z2, z3, z4, z5, z6]) rfl ⟨.slice none 0 0, rfl, OwnR.nil _ _, by repeat (first | with_reducible exact HBW.out | with_reducible refine below_set_le ?_ (by have := HX.out; omega) _ | with_reducible refine below_trans ?_ (grown_below _ _) | with_reducible apply Below.drew)⟩
    · -- 5
      go_wp2_with ((go_at_call 90; ((with_reducible refine (HH.out.n1.c _).mono ?_); rintro _ _ ⟨rfl, g, rfl⟩)))
      refine wp_region_eff (W := w) (I := InBlk1 w X 26) (inBlk1_ghost _ _ _) ((Blk1.one w X 26 #[.int .i64 5, .int .u64 v1, .int .u64 0, .int .i64 0, .int .i64 0, .int .i64 0, .slice none 0 0]).other w.heap.size #[.int .i64 0, .int .u64 0, .int .u64 0, .int .i64 0, .int .i64 0, .int .i64 0, .slice none 0 0] 26 (by have := HX.out; omega)) ?hst [0, 1, 2, 3, 4, 5, 6, 8] [7, 9, 10, 11] (by kernel_rfl) (by kernel_rfl) ?_
      case hst => exact ⟨Gr.of (by repeat (first | with_reducible exact HBW.out | with_reducible refine below_set_le ?_ (by have := HX.out; omega) _ | with_reducible refine below_trans ?_ (grown_below _ _) | with_reducible apply Below.drew)), inferInstance, inferInstance, trivial⟩
      simp only [pick, List.drop_succ_cons, List.drop_zero, List.take_succ_cons, List.take_zero, List.nil_append, List.cons_append]
      repeat (refine wpCalm_step (fun K hK => ?_); go_simp; first | (refine hK _ ?_; clear hK K) | (apply Exists.intro; refine ⟨fun _ => ?_, hK _ ?_⟩; ((first | (go_at_call 59; exact HH.out.a2.c _) | (go_at_call 59; exact HH.out.c3.c _))); clear hK K))
      refine wpCalm_nil ?_
      refine wpEfs_call 91 #[.string d3] rfl (fun _ => by go_simp) (fun w5 hw5 => ?_)
      have HW5 := Lib.hid hw5; clear hw5
      refine (HH.out.l3.c w5).mono ?_
      rintro _ w6 ⟨dv, rfl, ho6, hb6⟩
      obtain ⟨dA, dq, rfl, hq, _⟩ := ho6.form
      refine ⟨_, rfl, Blk1.and ((Blk1.one w X 26 #[.int .i64 5, .int .u64 v1, .int .u64 0, .int .i64 0, .int .i64 0, .int .i64 0, .slice none 0 0]).other w.heap.size #[.int .i64 0, .int .u64 0, .int .u64 0, .int .i64 0, .int .i64 0, .int .i64 0, .slice none 0 0] 26 (by have := HX.out; omega)) (fun w7 => OwnR bv 5 w.heap.size w7 (.slice dA l3.length dq) l3) (fun _ _ h g => h.gr g) (fun w7 o7 v7 cs7 hb7 h => OwnR.set_ h X o7 v7 (by decide)), ?hin, ?_⟩
      case hin => exact ⟨HW5.out.1.trans (Gr.of hb6), HW5.out.2.1.gr (Gr.of hb6), ho6.more HW5.out.1.below.size, HW5.out.2.2.1.gr (Gr.of hb6), trivial⟩
      refine wpEfs_put 4 rfl rfl rfl (Nat.le_of_lt HX.out) (by simp [Blk1.and, Blk1.other, Blk1.one]) (fun _ hc hf => st_i64 hc hf) ?_
      refine wpEfs_calm (.pointer (some ⟨X, 6, none⟩)) rfl (fun g => by go_simp) ?_
      refine wpEfs_put 6 rfl rfl rfl (Nat.le_of_lt HX.out) (by simp [Blk1.put, Blk1.and, Blk1.other, Blk1.one]) (fun _ hc hf => st_sl hc hf) ?_
      refine wpEfs_nil ?_
      rintro w8 ⟨hg8, bX8, ho8, bR8, _⟩
      have HG8 := Lib.hid hg8; clear hg8
      haveI : Old X w8 := bX8.old
      haveI : Old w.heap.size w8 := bR8.old
      have xx0 : w8.cell? ⟨X, 0, none⟩ = some (.int .i64 5) := (@block_cells _ _ 0 _ _ bX8).trans rfl
      have xx1 : w8.cell? ⟨X, 1, none⟩ = some (.int .u64 v1) := (@block_cells _ _ 1 _ _ bX8).trans rfl
      have xx2 : w8.cell? ⟨X, 2, none⟩ = some (.int .u64 0) := (@block_cells _ _ 2 _ _ bX8).trans rfl
      have xx3 : w8.cell? ⟨X, 3, none⟩ = some (.int .i64 0) := (@block_cells _ _ 3 _ _ bX8).trans rfl
      have xx4 : w8.cell? ⟨X, 4, none⟩ = some (.int .i64 a2) := (@block_cells _ _ 4 _ _ bX8).trans rfl
      have xx5 : w8.cell? ⟨X, 5, none⟩ = some (.int .i64 0) := (@block_cells _ _ 5 _ _ bX8).trans rfl
      have xx6 : w8.cell? ⟨X, 6, none⟩ = some (.slice dA l3.length dq) := (@block_cells _ _ 6 _ _ bX8).trans rfl
      have rr0 : w8.cell? ⟨w.heap.size, 0, none⟩ = some (.int .i64 0) := (@block_cells _ _ 0 _ _ bR8).trans rfl
      have rr1 : w8.cell? ⟨w.heap.size, 1, none⟩ = some (.int .u64 0) := (@block_cells _ _ 1 _ _ bR8).trans rfl
      have rr2 : w8.cell? ⟨w.heap.size, 2, none⟩ = some (.int .u64 0) := (@block_cells _ _ 2 _ _ bR8).trans rfl
      have rr3 : w8.cell? ⟨w.heap.size, 3, none⟩ = some (.int .i64 0) := (@block_cells _ _ 3 _ _ bR8).trans rfl
      have rr4 : w8.cell? ⟨w.heap.size, 4, none⟩ = some (.int .i64 0) := (@block_cells _ _ 4 _ _ bR8).trans rfl
      have rr5 : w8.cell? ⟨w.heap.size, 5, none⟩ = some (.int .i64 0) := (@block_cells _ _ 5 _ _ bR8).trans rfl
      have rr6 : w8.cell? ⟨w.heap.size, 6, none⟩ = some (.slice none 0 0) := (@block_cells _ _ 6 _ _ bR8).trans rfl
      have zz0 : w8.frozen? ⟨w.heap.size, 0, none⟩ = false := @block_frozen _ _ 0 _ _ bR8
      have zz1 : w8.frozen? ⟨w.heap.size, 1, none⟩ = false := @block_frozen _ _ 1 _ _ bR8
      have zz2 : w8.frozen? ⟨w.heap.size, 2, none⟩ = false := @block_frozen _ _ 2 _ _ bR8
      have zz3 : w8.frozen? ⟨w.heap.size, 3, none⟩ = false := @block_frozen _ _ 3 _ _ bR8
      have zz4 : w8.frozen? ⟨w.heap.size, 4, none⟩ = false := @block_frozen _ _ 4 _ _ bR8
      have zz5 : w8.frozen? ⟨w.heap.size, 5, none⟩ = false := @block_frozen _ _ 5 _ _ bR8
      have zz6 : w8.frozen? ⟨w.heap.size, 6, none⟩ = false := @block_frozen _ _ 6 _ _ bR8
      go_wp2
      exact bodyPost_ret (v := .agg #[.int .i64 5, .int .u64 v1, .int .u64 0, .int .i64 0, .int .i64 a2, .int .i64 0, .slice dA l3.length dq]) (by simp [results, Tryz.results40, go_sem, e1, e2, xx0, xx1, xx2, xx3, xx4, xx5, xx6, rr0, rr1, rr2, rr3, rr4, rr5, rr6, zz0, zz1, zz2, zz3, zz4, zz5, zz6]) rfl ⟨.slice dA l3.length dq, rfl, (by show OwnR bv 5 w.heap.size _ _ l3; repeat (first | with_reducible exact ho8 | with_reducible refine OwnR.set_ ?_ _ _ _ (by decide))), by repeat (first | with_reducible exact HG8.out.below | with_reducible refine below_set_le ?_ (by omega) _)⟩
    · -- 6
      go_wp2_with ((go_at_call 90; ((with_reducible refine (HH.out.n1.c _).mono ?_); rintro _ _ ⟨rfl, g, rfl⟩)))
      refine wp_region_eff (W := w) (I := InBlk1 w X 26) (inBlk1_ghost _ _ _) ((Blk1.one w X 26 #[.int .i64 6, .int .u64 v1, .int .u64 0, .int .i64 0, .int .i64 0, .int .i64 0, .slice none 0 0]).other w.heap.size #[.int .i64 0, .int .u64 0, .int .u64 0, .int .i64 0, .int .i64 0, .int .i64 0, .slice none 0 0] 26 (by have := HX.out; omega)) ?hst [0, 1, 2, 3, 4, 5, 6, 7, 8] [9, 10, 11] (by kernel_rfl) (by kernel_rfl) ?_
      case hst => exact ⟨Gr.of (by repeat (first | with_reducible exact HBW.out | with_reducible refine below_set_le ?_ (by have := HX.out; omega) _ | with_reducible refine below_trans ?_ (grown_below _ _) | with_reducible apply Below.drew)), inferInstance, inferInstance, trivial⟩
      simp only [pick, List.drop_succ_cons, List.drop_zero, List.take_succ_cons, List.take_zero, List.nil_append, List.cons_append]
      repeat (refine wpCalm_step (fun K hK => ?_); go_simp; first | (refine hK _ ?_; clear hK K) | (apply Exists.intro; refine ⟨fun _ => ?_, hK _ ?_⟩; ((first | (go_at_call 59; exact HH.out.a2.c _) | (go_at_call 59; exact HH.out.c3.c _))); clear hK K))
      refine wpCalm_nil ?_
      refine wpEfs_put 4 rfl rfl rfl (Nat.le_of_lt HX.out) (by simp [Blk1.other, Blk1.one]) (fun _ hc hf => st_i64 hc hf) ?_
      refine wpEfs_calm (.pointer (some ⟨X, 5, none⟩)) rfl (fun g => by go_simp) ?_
      refine wpEfs_put 5 rfl rfl rfl (Nat.le_of_lt HX.out) (by simp [Blk1.put, Blk1.other, Blk1.one]) (fun _ hc hf => st_i64 hc hf) ?_
      refine wpEfs_nil ?_
      rintro w8 ⟨hg8, bX8, bR8, _⟩
      have HG8 := Lib.hid hg8; clear hg8
      haveI : Old X w8 := bX8.old
      haveI : Old w.heap.size w8 := bR8.old
      have xx0 : w8.cell? ⟨X, 0, none⟩ = some (.int .i64 6) := (@block_cells _ _ 0 _ _ bX8).trans rfl
      have xx1 : w8.cell? ⟨X, 1, none⟩ = some (.int .u64 v1) := (@block_cells _ _ 1 _ _ bX8).trans rfl
      have xx2 : w8.cell? ⟨X, 2, none⟩ = some (.int .u64 0) := (@block_cells _ _ 2 _ _ bX8).trans rfl
      have xx3 : w8.cell? ⟨X, 3, none⟩ = some (.int .i64 0) := (@block_cells _ _ 3 _ _ bX8).trans rfl
      have xx4 : w8.cell? ⟨X, 4, none⟩ = some (.int .i64 a2) := (@block_cells _ _ 4 _ _ bX8).trans rfl
      have xx5 : w8.cell? ⟨X, 5, none⟩ = some (.int .i64 c3) := (@block_cells _ _ 5 _ _ bX8).trans rfl
      have xx6 : w8.cell? ⟨X, 6, none⟩ = some (.slice none 0 0) := (@block_cells _ _ 6 _ _ bX8).trans rfl
      have rr0 : w8.cell? ⟨w.heap.size, 0, none⟩ = some (.int .i64 0) := (@block_cells _ _ 0 _ _ bR8).trans rfl
      have rr1 : w8.cell? ⟨w.heap.size, 1, none⟩ = some (.int .u64 0) := (@block_cells _ _ 1 _ _ bR8).trans rfl
      have rr2 : w8.cell? ⟨w.heap.size, 2, none⟩ = some (.int .u64 0) := (@block_cells _ _ 2 _ _ bR8).trans rfl
      have rr3 : w8.cell? ⟨w.heap.size, 3, none⟩ = some (.int .i64 0) := (@block_cells _ _ 3 _ _ bR8).trans rfl
      have rr4 : w8.cell? ⟨w.heap.size, 4, none⟩ = some (.int .i64 0) := (@block_cells _ _ 4 _ _ bR8).trans rfl
      have rr5 : w8.cell? ⟨w.heap.size, 5, none⟩ = some (.int .i64 0) := (@block_cells _ _ 5 _ _ bR8).trans rfl
      have rr6 : w8.cell? ⟨w.heap.size, 6, none⟩ = some (.slice none 0 0) := (@block_cells _ _ 6 _ _ bR8).trans rfl
      have zz0 : w8.frozen? ⟨w.heap.size, 0, none⟩ = false := @block_frozen _ _ 0 _ _ bR8
      have zz1 : w8.frozen? ⟨w.heap.size, 1, none⟩ = false := @block_frozen _ _ 1 _ _ bR8
      have zz2 : w8.frozen? ⟨w.heap.size, 2, none⟩ = false := @block_frozen _ _ 2 _ _ bR8
      have zz3 : w8.frozen? ⟨w.heap.size, 3, none⟩ = false := @block_frozen _ _ 3 _ _ bR8
      have zz4 : w8.frozen? ⟨w.heap.size, 4, none⟩ = false := @block_frozen _ _ 4 _ _ bR8
      have zz5 : w8.frozen? ⟨w.heap.size, 5, none⟩ = false := @block_frozen _ _ 5 _ _ bR8
      have zz6 : w8.frozen? ⟨w.heap.size, 6, none⟩ = false := @block_frozen _ _ 6 _ _ bR8
      go_wp2
      exact bodyPost_ret (v := .agg #[.int .i64 6, .int .u64 v1, .int .u64 0, .int .i64 0, .int .i64 a2, .int .i64 c3, .slice none 0 0]) (by simp [results, Tryz.results40, go_sem, e1, e2, xx0, xx1, xx2, xx3, xx4, xx5, xx6, rr0, rr1, rr2, rr3, rr4, rr5, rr6, zz0, zz1, zz2, zz3, zz4, zz5, zz6]) rfl ⟨.slice none 0 0, rfl, OwnR.nil _ _, by repeat (first | with_reducible exact HG8.out.below | with_reducible refine below_set_le ?_ (by omega) _)⟩
    · -- 7
      go_wp2_with ((go_at_call 90; ((with_reducible refine (HH.out.n1.c _).mono ?_); rintro _ _ ⟨rfl, g, rfl⟩)))
      refine wp_region_eff (W := w) (I := InBlk1 w X 26) (inBlk1_ghost _ _ _) ((Blk1.one w X 26 #[.int .i64 7, .int .u64 v1, .int .u64 0, .int .i64 0, .int .i64 0, .int .i64 0, .slice none 0 0]).other w.heap.size #[.int .i64 0, .int .u64 0, .int .u64 0, .int .i64 0, .int .i64 0, .int .i64 0, .slice none 0 0] 26 (by have := HX.out; omega)) ?hst [0, 1, 2, 3, 4, 5, 6, 7, 8] [9, 10, 11] (by kernel_rfl) (by kernel_rfl) ?_
      case hst => exact ⟨Gr.of (by repeat (first | with_reducible exact HBW.out | with_reducible refine below_set_le ?_ (by have := HX.out; omega) _ | with_reducible refine below_trans ?_ (grown_below _ _) | with_reducible apply Below.drew)), inferInstance, inferInstance, trivial⟩
      simp only [pick, List.drop_succ_cons, List.drop_zero, List.take_succ_cons, List.take_zero, List.nil_append, List.cons_append]
      repeat (refine wpCalm_step (fun K hK => ?_); go_simp; first | (refine hK _ ?_; clear hK K) | (apply Exists.intro; refine ⟨fun _ => ?_, hK _ ?_⟩; ((first | (go_at_call 59; exact HH.out.a2.c _) | (go_at_call 59; exact HH.out.c3.c _))); clear hK K))
      refine wpCalm_nil ?_
      refine wpEfs_put 4 rfl rfl rfl (Nat.le_of_lt HX.out) (by simp [Blk1.other, Blk1.one]) (fun _ hc hf => st_i64 hc hf) ?_
      refine wpEfs_calm (.pointer (some ⟨X, 5, none⟩)) rfl (fun g => by go_simp) ?_
      refine wpEfs_put 5 rfl rfl rfl (Nat.le_of_lt HX.out) (by simp [Blk1.put, Blk1.other, Blk1.one]) (fun _ hc hf => st_i64 hc hf) ?_
      refine wpEfs_nil ?_
      rintro w8 ⟨hg8, bX8, bR8, _⟩
      have HG8 := Lib.hid hg8; clear hg8
      haveI : Old X w8 := bX8.old
      haveI : Old w.heap.size w8 := bR8.old
      have xx0 : w8.cell? ⟨X, 0, none⟩ = some (.int .i64 7) := (@block_cells _ _ 0 _ _ bX8).trans rfl
      have xx1 : w8.cell? ⟨X, 1, none⟩ = some (.int .u64 v1) := (@block_cells _ _ 1 _ _ bX8).trans rfl
      have xx2 : w8.cell? ⟨X, 2, none⟩ = some (.int .u64 0) := (@block_cells _ _ 2 _ _ bX8).trans rfl
      have xx3 : w8.cell? ⟨X, 3, none⟩ = some (.int .i64 0) := (@block_cells _ _ 3 _ _ bX8).trans rfl
      have xx4 : w8.cell? ⟨X, 4, none⟩ = some (.int .i64 a2) := (@block_cells _ _ 4 _ _ bX8).trans rfl
      have xx5 : w8.cell? ⟨X, 5, none⟩ = some (.int .i64 c3) := (@block_cells _ _ 5 _ _ bX8).trans rfl
      have xx6 : w8.cell? ⟨X, 6, none⟩ = some (.slice none 0 0) := (@block_cells _ _ 6 _ _ bX8).trans rfl
      have rr0 : w8.cell? ⟨w.heap.size, 0, none⟩ = some (.int .i64 0) := (@block_cells _ _ 0 _ _ bR8).trans rfl
      have rr1 : w8.cell? ⟨w.heap.size, 1, none⟩ = some (.int .u64 0) := (@block_cells _ _ 1 _ _ bR8).trans rfl
      have rr2 : w8.cell? ⟨w.heap.size, 2, none⟩ = some (.int .u64 0) := (@block_cells _ _ 2 _ _ bR8).trans rfl
      have rr3 : w8.cell? ⟨w.heap.size, 3, none⟩ = some (.int .i64 0) := (@block_cells _ _ 3 _ _ bR8).trans rfl
      have rr4 : w8.cell? ⟨w.heap.size, 4, none⟩ = some (.int .i64 0) := (@block_cells _ _ 4 _ _ bR8).trans rfl
      have rr5 : w8.cell? ⟨w.heap.size, 5, none⟩ = some (.int .i64 0) := (@block_cells _ _ 5 _ _ bR8).trans rfl
      have rr6 : w8.cell? ⟨w.heap.size, 6, none⟩ = some (.slice none 0 0) := (@block_cells _ _ 6 _ _ bR8).trans rfl
      have zz0 : w8.frozen? ⟨w.heap.size, 0, none⟩ = false := @block_frozen _ _ 0 _ _ bR8
      have zz1 : w8.frozen? ⟨w.heap.size, 1, none⟩ = false := @block_frozen _ _ 1 _ _ bR8
      have zz2 : w8.frozen? ⟨w.heap.size, 2, none⟩ = false := @block_frozen _ _ 2 _ _ bR8
      have zz3 : w8.frozen? ⟨w.heap.size, 3, none⟩ = false := @block_frozen _ _ 3 _ _ bR8
      have zz4 : w8.frozen? ⟨w.heap.size, 4, none⟩ = false := @block_frozen _ _ 4 _ _ bR8
      have zz5 : w8.frozen? ⟨w.heap.size, 5, none⟩ = false := @block_frozen _ _ 5 _ _ bR8
      have zz6 : w8.frozen? ⟨w.heap.size, 6, none⟩ = false := @block_frozen _ _ 6 _ _ bR8
      go_wp2
      exact bodyPost_ret (v := .agg #[.int .i64 7, .int .u64 v1, .int .u64 0, .int .i64 0, .int .i64 a2, .int .i64 c3, .slice none 0 0]) (by simp [results, Tryz.results40, go_sem, e1, e2, xx0, xx1, xx2, xx3, xx4, xx5, xx6, rr0, rr1, rr2, rr3, rr4, rr5, rr6, zz0, zz1, zz2, zz3, zz4, zz5, zz6]) rfl ⟨.slice none 0 0, rfl, OwnR.nil _ _, by repeat (first | with_reducible exact HG8.out.below | with_reducible refine below_set_le ?_ (by omega) _)⟩
    · -- 8
      go_wp2
      exact bodyPost_ret (v := .agg #[.int .i64 8, .int .u64 0, .int .u64 0, .int .i64 0, .int .i64 0, .int .i64 0, .slice none 0 0]) (by simp [results, Tryz.results40, go_sem, e1, e2, e3, e4, e5, e6, x0, x1, x2, x3, x4, x5, x6, r0, r1, r2, r3, r4, r5, r6, z0, z1, z2, z3, z4, z5, z6]) rfl ⟨.slice none 0 0, rfl, OwnR.nil _ _, by repeat (first | with_reducible exact HBW.out | with_reducible refine below_set_le ?_ (by have := HX.out; omega) _ | with_reducible refine below_trans ?_ (grown_below _ _) | with_reducible apply Below.drew)⟩
    · -- 9
      go_wp2_with ((go_at_call 90; ((with_reducible refine (HH.out.n1.c _).mono ?_); rintro _ _ ⟨rfl, g, rfl⟩)))
      refine wp_region_eff (W := w) (I := InBlk1 w X 26) (inBlk1_ghost _ _ _) ((Blk1.one w X 26 #[.int .i64 9, .int .u64 v1, .int .u64 0, .int .i64 0, .int .i64 0, .int .i64 0, .slice none 0 0]).other w.heap.size #[.int .i64 0, .int .u64 0, .int .u64 0, .int .i64 0, .int .i64 0, .int .i64 0, .slice none 0 0] 26 (by have := HX.out; omega)) ?hst [0, 1, 2, 3, 4, 5, 6, 7, 8] [9, 10, 11] (by kernel_rfl) (by kernel_rfl) ?_
      case hst => exact ⟨Gr.of (by repeat (first | with_reducible exact HBW.out | with_reducible refine below_set_le ?_ (by have := HX.out; omega) _ | with_reducible refine below_trans ?_ (grown_below _ _) | with_reducible apply Below.drew)), inferInstance, inferInstance, trivial⟩
      simp only [pick, List.drop_succ_cons, List.drop_zero, List.take_succ_cons, List.take_zero, List.nil_append, List.cons_append]
      repeat (refine wpCalm_step (fun K hK => ?_); go_simp; first | (refine hK _ ?_; clear hK K) | (apply Exists.intro; refine ⟨fun _ => ?_, hK _ ?_⟩; ((first | (go_at_call 59; exact HH.out.a2.c _) | (go_at_call 59; exact HH.out.c3.c _))); clear hK K))
      refine wpCalm_nil ?_
      refine wpEfs_put 4 rfl rfl rfl (Nat.le_of_lt HX.out) (by simp [Blk1.other, Blk1.one]) (fun _ hc hf => st_i64 hc hf) ?_
      refine wpEfs_calm (.pointer (some ⟨X, 5, none⟩)) rfl (fun g => by go_simp) ?_
      refine wpEfs_put 5 rfl rfl rfl (Nat.le_of_lt HX.out) (by simp [Blk1.put, Blk1.other, Blk1.one]) (fun _ hc hf => st_i64 hc hf) ?_
      refine wpEfs_nil ?_
      rintro w8 ⟨hg8, bX8, bR8, _⟩
      have HG8 := Lib.hid hg8; clear hg8
      haveI : Old X w8 := bX8.old
      haveI : Old w.heap.size w8 := bR8.old
      have xx0 : w8.cell? ⟨X, 0, none⟩ = some (.int .i64 9) := (@block_cells _ _ 0 _ _ bX8).trans rfl
      have xx1 : w8.cell? ⟨X, 1, none⟩ = some (.int .u64 v1) := (@block_cells _ _ 1 _ _ bX8).trans rfl
      have xx2 : w8.cell? ⟨X, 2, none⟩ = some (.int .u64 0) := (@block_cells _ _ 2 _ _ bX8).trans rfl
      have xx3 : w8.cell? ⟨X, 3, none⟩ = some (.int .i64 0) := (@block_cells _ _ 3 _ _ bX8).trans rfl
      have xx4 : w8.cell? ⟨X, 4, none⟩ = some (.int .i64 a2) := (@block_cells _ _ 4 _ _ bX8).trans rfl
      have xx5 : w8.cell? ⟨X, 5, none⟩ = some (.int .i64 c3) := (@block_cells _ _ 5 _ _ bX8).trans rfl
      have xx6 : w8.cell? ⟨X, 6, none⟩ = some (.slice none 0 0) := (@block_cells _ _ 6 _ _ bX8).trans rfl
      have rr0 : w8.cell? ⟨w.heap.size, 0, none⟩ = some (.int .i64 0) := (@block_cells _ _ 0 _ _ bR8).trans rfl
      have rr1 : w8.cell? ⟨w.heap.size, 1, none⟩ = some (.int .u64 0) := (@block_cells _ _ 1 _ _ bR8).trans rfl
      have rr2 : w8.cell? ⟨w.heap.size, 2, none⟩ = some (.int .u64 0) := (@block_cells _ _ 2 _ _ bR8).trans rfl
      have rr3 : w8.cell? ⟨w.heap.size, 3, none⟩ = some (.int .i64 0) := (@block_cells _ _ 3 _ _ bR8).trans rfl
      have rr4 : w8.cell? ⟨w.heap.size, 4, none⟩ = some (.int .i64 0) := (@block_cells _ _ 4 _ _ bR8).trans rfl
      have rr5 : w8.cell? ⟨w.heap.size, 5, none⟩ = some (.int .i64 0) := (@block_cells _ _ 5 _ _ bR8).trans rfl
      have rr6 : w8.cell? ⟨w.heap.size, 6, none⟩ = some (.slice none 0 0) := (@block_cells _ _ 6 _ _ bR8).trans rfl
      have zz0 : w8.frozen? ⟨w.heap.size, 0, none⟩ = false := @block_frozen _ _ 0 _ _ bR8
      have zz1 : w8.frozen? ⟨w.heap.size, 1, none⟩ = false := @block_frozen _ _ 1 _ _ bR8
      have zz2 : w8.frozen? ⟨w.heap.size, 2, none⟩ = false := @block_frozen _ _ 2 _ _ bR8
      have zz3 : w8.frozen? ⟨w.heap.size, 3, none⟩ = false := @block_frozen _ _ 3 _ _ bR8
      have zz4 : w8.frozen? ⟨w.heap.size, 4, none⟩ = false := @block_frozen _ _ 4 _ _ bR8
      have zz5 : w8.frozen? ⟨w.heap.size, 5, none⟩ = false := @block_frozen _ _ 5 _ _ bR8
      have zz6 : w8.frozen? ⟨w.heap.size, 6, none⟩ = false := @block_frozen _ _ 6 _ _ bR8
      go_wp2
      exact bodyPost_ret (v := .agg #[.int .i64 9, .int .u64 v1, .int .u64 0, .int .i64 0, .int .i64 a2, .int .i64 c3, .slice none 0 0]) (by simp [results, Tryz.results40, go_sem, e1, e2, xx0, xx1, xx2, xx3, xx4, xx5, xx6, rr0, rr1, rr2, rr3, rr4, rr5, rr6, zz0, zz1, zz2, zz3, zz4, zz5, zz6]) rfl ⟨.slice none 0 0, rfl, OwnR.nil _ _, by repeat (first | with_reducible exact HG8.out.below | with_reducible refine below_set_le ?_ (by omega) _)⟩
end Go.Proofs.YtgjdgafoidppaaaGreatDoor
namespace Go.Proofs.YtgjdgafoidppaaaGreatDoor
open Go.RowKit
set_option linter.unusedVariables false
set_option linter.unusedSimpArgs false
set_option linter.unnecessarySimpa false
theorem names13_any (k : Int) (w : World) : Calls Tryz.prog 93 #[.int .i64 k] w fun e w' => e = .returned (.string (namesB k)) ∧ Gr w w' := by
  by_cases h1 : k < 1 ∨ 9 < k
  · have e0 := namesB_off k (by omega)
    have n1 : (k == 1) = false := by simp; omega
    have n2 : (k == 2) = false := by simp; omega
    have n3 : (k == 3) = false := by simp; omega
    have n4 : (k == 4) = false := by simp; omega
    have n5 : (k == 5) = false := by simp; omega
    have n6 : (k == 6) = false := by simp; omega
    have n7 : (k == 7) = false := by simp; omega
    have n9 : (k == 9) = false := by simp; omega
    have e := Lib.hid e0; clear e0 h1
    go_enter Tryz.func93, Tryz.ntmps93
    go_wp2
    go_ret
    exact ⟨by rw [e.out]; rfl, gri⟩
  have h3 : k = 1 ∨ k = 2 ∨ k = 3 ∨ k = 4 ∨ k = 5 ∨ k = 6 ∨ k = 7 ∨ k = 8 ∨ k = 9 := by omega
  clear h1
  rcases h3 with rfl | rfl | rfl | rfl | rfl | rfl | rfl | rfl | rfl
  all_goals
    go_enter Tryz.func93, Tryz.ntmps93
    go_wp2
    go_ret
    exact ⟨rfl, gri⟩
def hasB (k : Int) (c : UInt8) : Bool := (namesB k).data.toList.contains c
theorem any_take_no (l : List UInt8) (c : UInt8) (k : Nat) (hk : k = l.length) (h : ∀ j, j < k → l.getD j 0 ≠ c) : l.contains c = false := by
  subst hk
  rw [List.contains_eq_any_beq, List.any_eq_false]
  intro x hx
  obtain ⟨i, hi, rfl⟩ := List.mem_iff_getElem.1 hx
  have := h i hi
  rw [List.getD_eq_getElem?_getD, List.getElem?_eq_getElem hi] at this
  simpa using fun h => this h.symm
theorem namesB_len (k : Int) : (namesB k).size ≤ 3 := by
  unfold namesB
  repeat' split
  all_goals decide
set_option maxHeartbeats 2000000 in
theorem has13_any (k : Int) (c : UInt8) (w : World) : Calls Tryz.prog 44 #[.int .i64 k, .int .u8 c.toNat] w fun e w' => e = .returned (.bool (hasB k c)) ∧ Gr w w' := by
  have hlen := namesB_len k
  have HN := Lib.hid (fun W => names13_any k W)
  have hq : hasB k c = (namesB k).data.toList.contains c := rfl
  have HQ := Lib.hid hq; clear hq
  generalize namesB k = s at *
  have hL : s.data.toList.length = s.size := (Lib.size_eq s).symm
  have HL := Lib.hid hL; clear hL
  go_enter Tryz.func44, Tryz.ntmps44
  go_wp2_with ((go_at_call 93; ((with_reducible refine (HN.out _).mono ?_); rintro _ _ ⟨rfl, g, rfl⟩)))
  go_loopw [6] (fun i wr => ∃ j : Nat, i = .int .i64 j ∧ j ≤ s.size ∧ Hid (∀ i, i < j → s.data.toList.getD i 0 ≠ c) ∧ Gr w wr) (fun i _ => s.size - (intOf i).toNat)
  case atStart => exact ⟨0, rfl, Nat.zero_le _, Lib.hid (fun j hj => by omega), gri⟩
  case round =>
    obtain ⟨j, rfl, hj, hne, hg⟩ := hrel
    have HG := Lib.hid hg; clear hg
    by_cases hlt : j < s.size
    · have hx : s.data.toList.getD j 0 = s[j]'hlt := by
        rw [List.getD_eq_getElem?_getD, List.getElem?_eq_getElem (by have := HL.out; omega)]; rfl
      have HX := Lib.hid hx; clear hx
      by_cases hc : (s[j]'hlt).toNat = c.toNat
      · have h1 : (((s[j]'hlt).toNat : Int) == (c.toNat : Int)) = true := by simp [hc]
        have hcc : s.data.toList.contains c = true := by
          have e1 : s[j]'hlt = c := UInt8.toNat_inj.1 hc
          rw [List.contains_iff_mem, ← e1]
          exact List.getElem_mem (l := s.data.toList) (by have := HL.out; omega)
        have HC := Lib.hid hcc; clear hcc hc
        go_wp2
        go_ret
        exact ⟨ret_bool (by rw [HQ.out, HC.out]), HG.out⟩
      · have h1 : (((s[j]'hlt).toNat : Int) == (c.toNat : Int)) = false := by simp; exact fun h => hc (by exact_mod_cast h)
        have hcc : s.data.toList.getD j 0 ≠ c := by rw [HX.out]; exact fun h => hc (by rw [h])
        have HC := Lib.hid hcc; clear hcc hc
        go_wp2
        go_roundw
        case rel => exact ⟨j + 1, by go_num, by omega, Lib.hid (fun i hi => by
          rcases Nat.lt_or_ge i j with h | h
          · exact hne.out i h
          · obtain rfl : i = j := by omega
            exact HC.out), HG.out⟩
        case measure => simp [intOf]; omega
    · obtain rfl : j = s.size := by omega
      have hcc : s.data.toList.contains c = false := any_take_no _ _ _ HL.out.symm hne.out
      have HC := Lib.hid hcc; clear hcc
      go_wp2
      go_ret
      exact ⟨ret_bool (by rw [HQ.out, HC.out]), HG.out⟩
def inB (named : Bool) (least n most : Int) : Bool := if named then decide (least ≤ n) && decide (n ≤ most) else n == 0
theorem in13_any (named : Bool) (least n most : Int) (w : World) : Calls Tryz.prog 43 #[.bool named, .int .i64 least, .int .i64 n, .int .i64 most] w fun e w' => e = .returned (.bool (inB named least n most)) ∧ Gr w w' := by
  cases named
  · go_enter Tryz.func43, Tryz.ntmps43
    go_wp2
    go_ret
    exact ⟨ret_bool (by simp [inB]), gri⟩
  · rcases Bool.eq_false_or_eq_true (decide (least ≤ n)) with h | h
    · go_enter Tryz.func43, Tryz.ntmps43
      go_wp2
      go_ret
      exact ⟨ret_bool (by simp [inB, h]), gri⟩
    · go_enter Tryz.func43, Tryz.ntmps43
      go_wp2
      go_ret
      exact ⟨ret_bool (by simp [inB, h]), gri⟩
theorem much13_any (xk xv xt xs xa xc : Int) (xD : Option Addr) (xn xq : Nat) (w : World) : Calls Tryz.prog 8 #[(Value.agg #[.int .i64 xk, .int .u64 xv, .int .u64 xt, .int .i64 xs, .int .i64 xa, .int .i64 xc, .slice xD xn xq])] w fun e w' => e = .returned (.bool (decide (9000 < xn))) ∧ Gr w w' := by
  go_enter Tryz.func8, Tryz.ntmps8
  go_wp2
  go_ret
  exact ⟨ret_bool (by first | rfl | (rw [Bool.eq_iff_iff]; simp; omega)), gri⟩
-- MAY
theorem has13_v (k : Int) (w : World) : Calls Tryz.prog 44 #[.int .i64 k, .int .u8 118] w fun e w' => e = .returned (.bool (hasB k 118)) ∧ Gr w w' := has13_any k 118 w
theorem has13_t (k : Int) (w : World) : Calls Tryz.prog 44 #[.int .i64 k, .int .u8 116] w fun e w' => e = .returned (.bool (hasB k 116)) ∧ Gr w w' := has13_any k 116 w
theorem has13_s (k : Int) (w : World) : Calls Tryz.prog 44 #[.int .i64 k, .int .u8 115] w fun e w' => e = .returned (.bool (hasB k 115)) ∧ Gr w w' := has13_any k 115 w
theorem has13_a (k : Int) (w : World) : Calls Tryz.prog 44 #[.int .i64 k, .int .u8 97] w fun e w' => e = .returned (.bool (hasB k 97)) ∧ Gr w w' := has13_any k 97 w
theorem has13_c (k : Int) (w : World) : Calls Tryz.prog 44 #[.int .i64 k, .int .u8 99] w fun e w' => e = .returned (.bool (hasB k 99)) ∧ Gr w w' := has13_any k 99 w
theorem has13_d (k : Int) (w : World) : Calls Tryz.prog 44 #[.int .i64 k, .int .u8 100] w fun e w' => e = .returned (.bool (hasB k 100)) ∧ Gr w w' := has13_any k 100 w
structure HasC (k : Int) (c : Int) (p : Bool) : Prop where
  c : ∀ W, Calls Tryz.prog 44 #[.int .i64 k, .int .u8 c] W fun e w' => e = .returned (.bool p) ∧ Gr W w'
structure InC (p : Bool) (least n most : Int) (b : Bool) : Prop where
  c : ∀ W, Calls Tryz.prog 43 #[.bool p, .int .i64 least, .int .i64 n, .int .i64 most] W fun e w' => e = .returned (.bool b) ∧ Gr W w'
set_option maxRecDepth 100000 in
set_option maxHeartbeats 4000000 in
theorem may13_early (k v t s a c : Int) (D : Option Addr) (n q : Nat) (w : World) (h : k < 1 ∨ 9 < k ∨ 4294967295 < v ∨ 4294967295 < t) : Calls Tryz.prog 16 #[(Value.agg #[.int .i64 k, .int .u64 v, .int .u64 t, .int .i64 s, .int .i64 a, .int .i64 c, .slice D n q])] w fun e w' => e = .returned (.bool false) ∧ Gr w w' := by
  by_cases h1 : k < 1
  · go_enter Tryz.func16, Tryz.ntmps16
    go_wp2
    go_ret
    exact ⟨rfl, gri⟩
  have b1 : decide (k < 1) = false := by simpa using h1
  by_cases h2 : 9 < k
  · clear h1
    go_enter Tryz.func16, Tryz.ntmps16
    go_wp2
    go_ret
    exact ⟨rfl, gri⟩
  have b2 : decide (9 < k) = false := by simpa using h2
  by_cases h3 : 4294967295 < v
  · clear h1 h2
    go_enter Tryz.func16, Tryz.ntmps16
    go_wp2
    go_ret
    exact ⟨rfl, gri⟩
  have b3 : decide (4294967295 < v) = false := by simpa using h3
  have h4 : 4294967295 < t := by omega
  clear h h1 h2 h3
  go_enter Tryz.func16, Tryz.ntmps16
  go_wp2
  go_ret
  exact ⟨rfl, gri⟩
set_option maxRecDepth 100000 in
set_option maxHeartbeats 8000000 in
theorem may13_core (k v t s a c : Int) (D : Option Addr) (n q : Nat) (w : World) (pv pt ps pa pc pd A1 A2 B1 B2 B3 C2 : Bool) (hv : HasC k 118 pv) (ht : HasC k 116 pt) (hs : HasC k 115 ps) (ha : HasC k 97 pa) (hc : HasC k 99 pc) (hd : HasC k 100 pd) (hA1 : InC pv 1 v 4294967295 A1) (hA2 : InC pt 1 t 4294967295 A2) (hB1 : InC ps 0 s 256 B1) (hB2 : InC pa 0 a 1048576 B2) (hB3 : InC pc 1 c 1024 B3) (hC2 : InC pd 1 ((n : Int) / 64) 32 C2) (k1 : 1 ≤ k) (k9 : k ≤ 9) (v0 : 0 ≤ v) (v1 : v ≤ 4294967295) (t0 : 0 ≤ t) (t1 : t ≤ 4294967295) (hn : n ≤ 9223372036854775807) : Calls Tryz.prog 16 #[(Value.agg #[.int .i64 k, .int .u64 v, .int .u64 t, .int .i64 s, .int .i64 a, .int .i64 c, .slice D n q])] w fun e w' => e = .returned (.bool (A1 && A2 && !(pt && t == v) && B1 && B2 && B3 && decide (n % 64 = 0) && C2)) ∧ Gr w w' := by
  have HV := Lib.hid hv; have HT := Lib.hid ht; have HS := Lib.hid hs; have HA := Lib.hid ha; have HC := Lib.hid hc; have HD := Lib.hid hd; clear hv ht hs ha hc hd
  have IA1 := Lib.hid hA1; have IA2 := Lib.hid hA2; have IB1 := Lib.hid hB1; have IB2 := Lib.hid hB2; have IB3 := Lib.hid hB3; have IC2 := Lib.hid hC2; clear hA1 hA2 hB1 hB2 hB3 hC2
  have c1 : decide (k < 1) = false := by simp; omega
  have c2 : decide (9 < k) = false := by simp; omega
  have c3 : decide (4294967295 < v) = false := by simp; omega
  have c4 : decide (4294967295 < t) = false := by simp; omega
  cases A1
  · -- A1 false
    go_enter Tryz.func16, Tryz.ntmps16
    go_wp2
    refine wp_region_grow (by kernel_rfl) (by kernel_rfl) ?_
    repeat (go_big_quiet_step ((first | (go_at_call 44; with_reducible exact grow_call (HV.out.c _)) | (go_at_call 44; with_reducible exact grow_call (HT.out.c _)) | (go_at_call 44; with_reducible exact grow_call (HS.out.c _)) | (go_at_call 44; with_reducible exact grow_call (HA.out.c _)) | (go_at_call 44; with_reducible exact grow_call (HC.out.c _)) | (go_at_call 44; with_reducible exact grow_call (HD.out.c _)) | (go_at_call 43; with_reducible exact grow_call (IA1.out.c _)) | (go_at_call 43; with_reducible exact grow_call (IA2.out.c _)) | (go_at_call 43; with_reducible exact grow_call (IB1.out.c _)) | (go_at_call 43; with_reducible exact grow_call (IB2.out.c _)) | (go_at_call 43; with_reducible exact grow_call (IB3.out.c _)) | (go_at_call 43; with_reducible exact grow_call (IC2.out.c _)))))
    refine wpQuiet_nil ?_
    intro g0
    go_wp2
    go_ret
    exact ⟨ret_bool (by simp []), gri⟩
  cases A2
  · -- A2 false
    go_enter Tryz.func16, Tryz.ntmps16
    go_wp2
    refine wp_region_grow (by kernel_rfl) (by kernel_rfl) ?_
    repeat (go_big_quiet_step ((first | (go_at_call 44; with_reducible exact grow_call (HV.out.c _)) | (go_at_call 44; with_reducible exact grow_call (HT.out.c _)) | (go_at_call 44; with_reducible exact grow_call (HS.out.c _)) | (go_at_call 44; with_reducible exact grow_call (HA.out.c _)) | (go_at_call 44; with_reducible exact grow_call (HC.out.c _)) | (go_at_call 44; with_reducible exact grow_call (HD.out.c _)) | (go_at_call 43; with_reducible exact grow_call (IA1.out.c _)) | (go_at_call 43; with_reducible exact grow_call (IA2.out.c _)) | (go_at_call 43; with_reducible exact grow_call (IB1.out.c _)) | (go_at_call 43; with_reducible exact grow_call (IB2.out.c _)) | (go_at_call 43; with_reducible exact grow_call (IB3.out.c _)) | (go_at_call 43; with_reducible exact grow_call (IC2.out.c _)))))
    refine wpQuiet_nil ?_
    intro g0
    go_wp2
    go_ret
    exact ⟨ret_bool (by simp []), gri⟩
  cases pt
  · -- pt false
    cases B1
    · -- B1 false
      go_enter Tryz.func16, Tryz.ntmps16
      go_wp2
      refine wp_region_grow (by kernel_rfl) (by kernel_rfl) ?_
      repeat (go_big_quiet_step ((first | (go_at_call 44; with_reducible exact grow_call (HV.out.c _)) | (go_at_call 44; with_reducible exact grow_call (HT.out.c _)) | (go_at_call 44; with_reducible exact grow_call (HS.out.c _)) | (go_at_call 44; with_reducible exact grow_call (HA.out.c _)) | (go_at_call 44; with_reducible exact grow_call (HC.out.c _)) | (go_at_call 44; with_reducible exact grow_call (HD.out.c _)) | (go_at_call 43; with_reducible exact grow_call (IA1.out.c _)) | (go_at_call 43; with_reducible exact grow_call (IA2.out.c _)) | (go_at_call 43; with_reducible exact grow_call (IB1.out.c _)) | (go_at_call 43; with_reducible exact grow_call (IB2.out.c _)) | (go_at_call 43; with_reducible exact grow_call (IB3.out.c _)) | (go_at_call 43; with_reducible exact grow_call (IC2.out.c _)))))
      refine wpQuiet_nil ?_
      intro g0
      go_wp2
      refine wp_region_grow (by kernel_rfl) (by kernel_rfl) ?_
      repeat (go_big_quiet_step ((first | (go_at_call 44; with_reducible exact grow_call (HV.out.c _)) | (go_at_call 44; with_reducible exact grow_call (HT.out.c _)) | (go_at_call 44; with_reducible exact grow_call (HS.out.c _)) | (go_at_call 44; with_reducible exact grow_call (HA.out.c _)) | (go_at_call 44; with_reducible exact grow_call (HC.out.c _)) | (go_at_call 44; with_reducible exact grow_call (HD.out.c _)) | (go_at_call 43; with_reducible exact grow_call (IA1.out.c _)) | (go_at_call 43; with_reducible exact grow_call (IA2.out.c _)) | (go_at_call 43; with_reducible exact grow_call (IB1.out.c _)) | (go_at_call 43; with_reducible exact grow_call (IB2.out.c _)) | (go_at_call 43; with_reducible exact grow_call (IB3.out.c _)) | (go_at_call 43; with_reducible exact grow_call (IC2.out.c _)))))
      refine wpQuiet_nil ?_
      intro g1
      go_wp2
      go_ret
      exact ⟨ret_bool (by simp []), gri⟩
    cases B2
    · -- B2 false
      go_enter Tryz.func16, Tryz.ntmps16
      go_wp2
      refine wp_region_grow (by kernel_rfl) (by kernel_rfl) ?_
      repeat (go_big_quiet_step ((first | (go_at_call 44; with_reducible exact grow_call (HV.out.c _)) | (go_at_call 44; with_reducible exact grow_call (HT.out.c _)) | (go_at_call 44; with_reducible exact grow_call (HS.out.c _)) | (go_at_call 44; with_reducible exact grow_call (HA.out.c _)) | (go_at_call 44; with_reducible exact grow_call (HC.out.c _)) | (go_at_call 44; with_reducible exact grow_call (HD.out.c _)) | (go_at_call 43; with_reducible exact grow_call (IA1.out.c _)) | (go_at_call 43; with_reducible exact grow_call (IA2.out.c _)) | (go_at_call 43; with_reducible exact grow_call (IB1.out.c _)) | (go_at_call 43; with_reducible exact grow_call (IB2.out.c _)) | (go_at_call 43; with_reducible exact grow_call (IB3.out.c _)) | (go_at_call 43; with_reducible exact grow_call (IC2.out.c _)))))
      refine wpQuiet_nil ?_
      intro g0
      go_wp2
      refine wp_region_grow (by kernel_rfl) (by kernel_rfl) ?_
      repeat (go_big_quiet_step ((first | (go_at_call 44; with_reducible exact grow_call (HV.out.c _)) | (go_at_call 44; with_reducible exact grow_call (HT.out.c _)) | (go_at_call 44; with_reducible exact grow_call (HS.out.c _)) | (go_at_call 44; with_reducible exact grow_call (HA.out.c _)) | (go_at_call 44; with_reducible exact grow_call (HC.out.c _)) | (go_at_call 44; with_reducible exact grow_call (HD.out.c _)) | (go_at_call 43; with_reducible exact grow_call (IA1.out.c _)) | (go_at_call 43; with_reducible exact grow_call (IA2.out.c _)) | (go_at_call 43; with_reducible exact grow_call (IB1.out.c _)) | (go_at_call 43; with_reducible exact grow_call (IB2.out.c _)) | (go_at_call 43; with_reducible exact grow_call (IB3.out.c _)) | (go_at_call 43; with_reducible exact grow_call (IC2.out.c _)))))
      refine wpQuiet_nil ?_
      intro g1
      go_wp2
      go_ret
      exact ⟨ret_bool (by simp []), gri⟩
    cases B3
    · -- B3 false
      go_enter Tryz.func16, Tryz.ntmps16
      go_wp2
      refine wp_region_grow (by kernel_rfl) (by kernel_rfl) ?_
      repeat (go_big_quiet_step ((first | (go_at_call 44; with_reducible exact grow_call (HV.out.c _)) | (go_at_call 44; with_reducible exact grow_call (HT.out.c _)) | (go_at_call 44; with_reducible exact grow_call (HS.out.c _)) | (go_at_call 44; with_reducible exact grow_call (HA.out.c _)) | (go_at_call 44; with_reducible exact grow_call (HC.out.c _)) | (go_at_call 44; with_reducible exact grow_call (HD.out.c _)) | (go_at_call 43; with_reducible exact grow_call (IA1.out.c _)) | (go_at_call 43; with_reducible exact grow_call (IA2.out.c _)) | (go_at_call 43; with_reducible exact grow_call (IB1.out.c _)) | (go_at_call 43; with_reducible exact grow_call (IB2.out.c _)) | (go_at_call 43; with_reducible exact grow_call (IB3.out.c _)) | (go_at_call 43; with_reducible exact grow_call (IC2.out.c _)))))
      refine wpQuiet_nil ?_
      intro g0
      go_wp2
      refine wp_region_grow (by kernel_rfl) (by kernel_rfl) ?_
      repeat (go_big_quiet_step ((first | (go_at_call 44; with_reducible exact grow_call (HV.out.c _)) | (go_at_call 44; with_reducible exact grow_call (HT.out.c _)) | (go_at_call 44; with_reducible exact grow_call (HS.out.c _)) | (go_at_call 44; with_reducible exact grow_call (HA.out.c _)) | (go_at_call 44; with_reducible exact grow_call (HC.out.c _)) | (go_at_call 44; with_reducible exact grow_call (HD.out.c _)) | (go_at_call 43; with_reducible exact grow_call (IA1.out.c _)) | (go_at_call 43; with_reducible exact grow_call (IA2.out.c _)) | (go_at_call 43; with_reducible exact grow_call (IB1.out.c _)) | (go_at_call 43; with_reducible exact grow_call (IB2.out.c _)) | (go_at_call 43; with_reducible exact grow_call (IB3.out.c _)) | (go_at_call 43; with_reducible exact grow_call (IC2.out.c _)))))
      refine wpQuiet_nil ?_
      intro g1
      go_wp2
      go_ret
      exact ⟨ret_bool (by simp []), gri⟩
    by_cases hm : n % 64 = 0
    · have d1 : ((n : Int).tmod 64 == 0) = true := by simp [Int.tmod_eq_emod_of_nonneg]; omega
      have d2 : ((n : Int) % 64 == 0) = true := by simp; omega
      go_enter Tryz.func16, Tryz.ntmps16
      go_wp2
      refine wp_region_grow (by kernel_rfl) (by kernel_rfl) ?_
      repeat (go_big_quiet_step ((first | (go_at_call 44; with_reducible exact grow_call (HV.out.c _)) | (go_at_call 44; with_reducible exact grow_call (HT.out.c _)) | (go_at_call 44; with_reducible exact grow_call (HS.out.c _)) | (go_at_call 44; with_reducible exact grow_call (HA.out.c _)) | (go_at_call 44; with_reducible exact grow_call (HC.out.c _)) | (go_at_call 44; with_reducible exact grow_call (HD.out.c _)) | (go_at_call 43; with_reducible exact grow_call (IA1.out.c _)) | (go_at_call 43; with_reducible exact grow_call (IA2.out.c _)) | (go_at_call 43; with_reducible exact grow_call (IB1.out.c _)) | (go_at_call 43; with_reducible exact grow_call (IB2.out.c _)) | (go_at_call 43; with_reducible exact grow_call (IB3.out.c _)) | (go_at_call 43; with_reducible exact grow_call (IC2.out.c _)))))
      refine wpQuiet_nil ?_
      intro g0
      go_wp2
      refine wp_region_grow (by kernel_rfl) (by kernel_rfl) ?_
      repeat (go_big_quiet_step ((first | (go_at_call 44; with_reducible exact grow_call (HV.out.c _)) | (go_at_call 44; with_reducible exact grow_call (HT.out.c _)) | (go_at_call 44; with_reducible exact grow_call (HS.out.c _)) | (go_at_call 44; with_reducible exact grow_call (HA.out.c _)) | (go_at_call 44; with_reducible exact grow_call (HC.out.c _)) | (go_at_call 44; with_reducible exact grow_call (HD.out.c _)) | (go_at_call 43; with_reducible exact grow_call (IA1.out.c _)) | (go_at_call 43; with_reducible exact grow_call (IA2.out.c _)) | (go_at_call 43; with_reducible exact grow_call (IB1.out.c _)) | (go_at_call 43; with_reducible exact grow_call (IB2.out.c _)) | (go_at_call 43; with_reducible exact grow_call (IB3.out.c _)) | (go_at_call 43; with_reducible exact grow_call (IC2.out.c _)))))
      refine wpQuiet_nil ?_
      intro g1
      go_wp2
      refine wp_region_grow (by kernel_rfl) (by kernel_rfl) ?_
      repeat (go_big_quiet_step ((first | (go_at_call 44; with_reducible exact grow_call (HV.out.c _)) | (go_at_call 44; with_reducible exact grow_call (HT.out.c _)) | (go_at_call 44; with_reducible exact grow_call (HS.out.c _)) | (go_at_call 44; with_reducible exact grow_call (HA.out.c _)) | (go_at_call 44; with_reducible exact grow_call (HC.out.c _)) | (go_at_call 44; with_reducible exact grow_call (HD.out.c _)) | (go_at_call 43; with_reducible exact grow_call (IA1.out.c _)) | (go_at_call 43; with_reducible exact grow_call (IA2.out.c _)) | (go_at_call 43; with_reducible exact grow_call (IB1.out.c _)) | (go_at_call 43; with_reducible exact grow_call (IB2.out.c _)) | (go_at_call 43; with_reducible exact grow_call (IB3.out.c _)) | (go_at_call 43; with_reducible exact grow_call (IC2.out.c _)))))
      refine wpQuiet_nil ?_
      intro g2
      go_wp2
      go_ret
      exact ⟨ret_bool (by simp [hm]), gri⟩
    · have d1 : ((n : Int).tmod 64 == 0) = false := by simp [Int.tmod_eq_emod_of_nonneg]; omega
      have d2 : ((n : Int) % 64 == 0) = false := by simp; omega
      go_enter Tryz.func16, Tryz.ntmps16
      go_wp2
      refine wp_region_grow (by kernel_rfl) (by kernel_rfl) ?_
      repeat (go_big_quiet_step ((first | (go_at_call 44; with_reducible exact grow_call (HV.out.c _)) | (go_at_call 44; with_reducible exact grow_call (HT.out.c _)) | (go_at_call 44; with_reducible exact grow_call (HS.out.c _)) | (go_at_call 44; with_reducible exact grow_call (HA.out.c _)) | (go_at_call 44; with_reducible exact grow_call (HC.out.c _)) | (go_at_call 44; with_reducible exact grow_call (HD.out.c _)) | (go_at_call 43; with_reducible exact grow_call (IA1.out.c _)) | (go_at_call 43; with_reducible exact grow_call (IA2.out.c _)) | (go_at_call 43; with_reducible exact grow_call (IB1.out.c _)) | (go_at_call 43; with_reducible exact grow_call (IB2.out.c _)) | (go_at_call 43; with_reducible exact grow_call (IB3.out.c _)) | (go_at_call 43; with_reducible exact grow_call (IC2.out.c _)))))
      refine wpQuiet_nil ?_
      intro g0
      go_wp2
      refine wp_region_grow (by kernel_rfl) (by kernel_rfl) ?_
      repeat (go_big_quiet_step ((first | (go_at_call 44; with_reducible exact grow_call (HV.out.c _)) | (go_at_call 44; with_reducible exact grow_call (HT.out.c _)) | (go_at_call 44; with_reducible exact grow_call (HS.out.c _)) | (go_at_call 44; with_reducible exact grow_call (HA.out.c _)) | (go_at_call 44; with_reducible exact grow_call (HC.out.c _)) | (go_at_call 44; with_reducible exact grow_call (HD.out.c _)) | (go_at_call 43; with_reducible exact grow_call (IA1.out.c _)) | (go_at_call 43; with_reducible exact grow_call (IA2.out.c _)) | (go_at_call 43; with_reducible exact grow_call (IB1.out.c _)) | (go_at_call 43; with_reducible exact grow_call (IB2.out.c _)) | (go_at_call 43; with_reducible exact grow_call (IB3.out.c _)) | (go_at_call 43; with_reducible exact grow_call (IC2.out.c _)))))
      refine wpQuiet_nil ?_
      intro g1
      go_wp2
      refine wp_region_grow (by kernel_rfl) (by kernel_rfl) ?_
      repeat (go_big_quiet_step ((first | (go_at_call 44; with_reducible exact grow_call (HV.out.c _)) | (go_at_call 44; with_reducible exact grow_call (HT.out.c _)) | (go_at_call 44; with_reducible exact grow_call (HS.out.c _)) | (go_at_call 44; with_reducible exact grow_call (HA.out.c _)) | (go_at_call 44; with_reducible exact grow_call (HC.out.c _)) | (go_at_call 44; with_reducible exact grow_call (HD.out.c _)) | (go_at_call 43; with_reducible exact grow_call (IA1.out.c _)) | (go_at_call 43; with_reducible exact grow_call (IA2.out.c _)) | (go_at_call 43; with_reducible exact grow_call (IB1.out.c _)) | (go_at_call 43; with_reducible exact grow_call (IB2.out.c _)) | (go_at_call 43; with_reducible exact grow_call (IB3.out.c _)) | (go_at_call 43; with_reducible exact grow_call (IC2.out.c _)))))
      refine wpQuiet_nil ?_
      intro g2
      go_wp2
      go_ret
      exact ⟨ret_bool (by simp [hm]), gri⟩
  rcases Bool.eq_false_or_eq_true (t == v) with ne | ne
  · -- t = v
    go_enter Tryz.func16, Tryz.ntmps16
    go_wp2
    refine wp_region_grow (by kernel_rfl) (by kernel_rfl) ?_
    repeat (go_big_quiet_step ((first | (go_at_call 44; with_reducible exact grow_call (HV.out.c _)) | (go_at_call 44; with_reducible exact grow_call (HT.out.c _)) | (go_at_call 44; with_reducible exact grow_call (HS.out.c _)) | (go_at_call 44; with_reducible exact grow_call (HA.out.c _)) | (go_at_call 44; with_reducible exact grow_call (HC.out.c _)) | (go_at_call 44; with_reducible exact grow_call (HD.out.c _)) | (go_at_call 43; with_reducible exact grow_call (IA1.out.c _)) | (go_at_call 43; with_reducible exact grow_call (IA2.out.c _)) | (go_at_call 43; with_reducible exact grow_call (IB1.out.c _)) | (go_at_call 43; with_reducible exact grow_call (IB2.out.c _)) | (go_at_call 43; with_reducible exact grow_call (IB3.out.c _)) | (go_at_call 43; with_reducible exact grow_call (IC2.out.c _)))))
    refine wpQuiet_nil ?_
    intro g0
    go_wp2
    go_ret
    exact ⟨ret_bool (by simp [ne]), gri⟩
  cases B1
  · -- B1 false
    go_enter Tryz.func16, Tryz.ntmps16
    go_wp2
    refine wp_region_grow (by kernel_rfl) (by kernel_rfl) ?_
    repeat (go_big_quiet_step ((first | (go_at_call 44; with_reducible exact grow_call (HV.out.c _)) | (go_at_call 44; with_reducible exact grow_call (HT.out.c _)) | (go_at_call 44; with_reducible exact grow_call (HS.out.c _)) | (go_at_call 44; with_reducible exact grow_call (HA.out.c _)) | (go_at_call 44; with_reducible exact grow_call (HC.out.c _)) | (go_at_call 44; with_reducible exact grow_call (HD.out.c _)) | (go_at_call 43; with_reducible exact grow_call (IA1.out.c _)) | (go_at_call 43; with_reducible exact grow_call (IA2.out.c _)) | (go_at_call 43; with_reducible exact grow_call (IB1.out.c _)) | (go_at_call 43; with_reducible exact grow_call (IB2.out.c _)) | (go_at_call 43; with_reducible exact grow_call (IB3.out.c _)) | (go_at_call 43; with_reducible exact grow_call (IC2.out.c _)))))
    refine wpQuiet_nil ?_
    intro g0
    go_wp2
    refine wp_region_grow (by kernel_rfl) (by kernel_rfl) ?_
    repeat (go_big_quiet_step ((first | (go_at_call 44; with_reducible exact grow_call (HV.out.c _)) | (go_at_call 44; with_reducible exact grow_call (HT.out.c _)) | (go_at_call 44; with_reducible exact grow_call (HS.out.c _)) | (go_at_call 44; with_reducible exact grow_call (HA.out.c _)) | (go_at_call 44; with_reducible exact grow_call (HC.out.c _)) | (go_at_call 44; with_reducible exact grow_call (HD.out.c _)) | (go_at_call 43; with_reducible exact grow_call (IA1.out.c _)) | (go_at_call 43; with_reducible exact grow_call (IA2.out.c _)) | (go_at_call 43; with_reducible exact grow_call (IB1.out.c _)) | (go_at_call 43; with_reducible exact grow_call (IB2.out.c _)) | (go_at_call 43; with_reducible exact grow_call (IB3.out.c _)) | (go_at_call 43; with_reducible exact grow_call (IC2.out.c _)))))
    refine wpQuiet_nil ?_
    intro g1
    go_wp2
    go_ret
    exact ⟨ret_bool (by simp []), gri⟩
  cases B2
  · -- B2 false
    go_enter Tryz.func16, Tryz.ntmps16
    go_wp2
    refine wp_region_grow (by kernel_rfl) (by kernel_rfl) ?_
    repeat (go_big_quiet_step ((first | (go_at_call 44; with_reducible exact grow_call (HV.out.c _)) | (go_at_call 44; with_reducible exact grow_call (HT.out.c _)) | (go_at_call 44; with_reducible exact grow_call (HS.out.c _)) | (go_at_call 44; with_reducible exact grow_call (HA.out.c _)) | (go_at_call 44; with_reducible exact grow_call (HC.out.c _)) | (go_at_call 44; with_reducible exact grow_call (HD.out.c _)) | (go_at_call 43; with_reducible exact grow_call (IA1.out.c _)) | (go_at_call 43; with_reducible exact grow_call (IA2.out.c _)) | (go_at_call 43; with_reducible exact grow_call (IB1.out.c _)) | (go_at_call 43; with_reducible exact grow_call (IB2.out.c _)) | (go_at_call 43; with_reducible exact grow_call (IB3.out.c _)) | (go_at_call 43; with_reducible exact grow_call (IC2.out.c _)))))
    refine wpQuiet_nil ?_
    intro g0
    go_wp2
    refine wp_region_grow (by kernel_rfl) (by kernel_rfl) ?_
    repeat (go_big_quiet_step ((first | (go_at_call 44; with_reducible exact grow_call (HV.out.c _)) | (go_at_call 44; with_reducible exact grow_call (HT.out.c _)) | (go_at_call 44; with_reducible exact grow_call (HS.out.c _)) | (go_at_call 44; with_reducible exact grow_call (HA.out.c _)) | (go_at_call 44; with_reducible exact grow_call (HC.out.c _)) | (go_at_call 44; with_reducible exact grow_call (HD.out.c _)) | (go_at_call 43; with_reducible exact grow_call (IA1.out.c _)) | (go_at_call 43; with_reducible exact grow_call (IA2.out.c _)) | (go_at_call 43; with_reducible exact grow_call (IB1.out.c _)) | (go_at_call 43; with_reducible exact grow_call (IB2.out.c _)) | (go_at_call 43; with_reducible exact grow_call (IB3.out.c _)) | (go_at_call 43; with_reducible exact grow_call (IC2.out.c _)))))
    refine wpQuiet_nil ?_
    intro g1
    go_wp2
    go_ret
    exact ⟨ret_bool (by simp []), gri⟩
  cases B3
  · -- B3 false
    go_enter Tryz.func16, Tryz.ntmps16
    go_wp2
    refine wp_region_grow (by kernel_rfl) (by kernel_rfl) ?_
    repeat (go_big_quiet_step ((first | (go_at_call 44; with_reducible exact grow_call (HV.out.c _)) | (go_at_call 44; with_reducible exact grow_call (HT.out.c _)) | (go_at_call 44; with_reducible exact grow_call (HS.out.c _)) | (go_at_call 44; with_reducible exact grow_call (HA.out.c _)) | (go_at_call 44; with_reducible exact grow_call (HC.out.c _)) | (go_at_call 44; with_reducible exact grow_call (HD.out.c _)) | (go_at_call 43; with_reducible exact grow_call (IA1.out.c _)) | (go_at_call 43; with_reducible exact grow_call (IA2.out.c _)) | (go_at_call 43; with_reducible exact grow_call (IB1.out.c _)) | (go_at_call 43; with_reducible exact grow_call (IB2.out.c _)) | (go_at_call 43; with_reducible exact grow_call (IB3.out.c _)) | (go_at_call 43; with_reducible exact grow_call (IC2.out.c _)))))
    refine wpQuiet_nil ?_
    intro g0
    go_wp2
    refine wp_region_grow (by kernel_rfl) (by kernel_rfl) ?_
    repeat (go_big_quiet_step ((first | (go_at_call 44; with_reducible exact grow_call (HV.out.c _)) | (go_at_call 44; with_reducible exact grow_call (HT.out.c _)) | (go_at_call 44; with_reducible exact grow_call (HS.out.c _)) | (go_at_call 44; with_reducible exact grow_call (HA.out.c _)) | (go_at_call 44; with_reducible exact grow_call (HC.out.c _)) | (go_at_call 44; with_reducible exact grow_call (HD.out.c _)) | (go_at_call 43; with_reducible exact grow_call (IA1.out.c _)) | (go_at_call 43; with_reducible exact grow_call (IA2.out.c _)) | (go_at_call 43; with_reducible exact grow_call (IB1.out.c _)) | (go_at_call 43; with_reducible exact grow_call (IB2.out.c _)) | (go_at_call 43; with_reducible exact grow_call (IB3.out.c _)) | (go_at_call 43; with_reducible exact grow_call (IC2.out.c _)))))
    refine wpQuiet_nil ?_
    intro g1
    go_wp2
    go_ret
    exact ⟨ret_bool (by simp []), gri⟩
  by_cases hm : n % 64 = 0
  · have d1 : ((n : Int).tmod 64 == 0) = true := by simp [Int.tmod_eq_emod_of_nonneg]; omega
    have d2 : ((n : Int) % 64 == 0) = true := by simp; omega
    go_enter Tryz.func16, Tryz.ntmps16
    go_wp2
    refine wp_region_grow (by kernel_rfl) (by kernel_rfl) ?_
    repeat (go_big_quiet_step ((first | (go_at_call 44; with_reducible exact grow_call (HV.out.c _)) | (go_at_call 44; with_reducible exact grow_call (HT.out.c _)) | (go_at_call 44; with_reducible exact grow_call (HS.out.c _)) | (go_at_call 44; with_reducible exact grow_call (HA.out.c _)) | (go_at_call 44; with_reducible exact grow_call (HC.out.c _)) | (go_at_call 44; with_reducible exact grow_call (HD.out.c _)) | (go_at_call 43; with_reducible exact grow_call (IA1.out.c _)) | (go_at_call 43; with_reducible exact grow_call (IA2.out.c _)) | (go_at_call 43; with_reducible exact grow_call (IB1.out.c _)) | (go_at_call 43; with_reducible exact grow_call (IB2.out.c _)) | (go_at_call 43; with_reducible exact grow_call (IB3.out.c _)) | (go_at_call 43; with_reducible exact grow_call (IC2.out.c _)))))
    refine wpQuiet_nil ?_
    intro g0
    go_wp2
    refine wp_region_grow (by kernel_rfl) (by kernel_rfl) ?_
    repeat (go_big_quiet_step ((first | (go_at_call 44; with_reducible exact grow_call (HV.out.c _)) | (go_at_call 44; with_reducible exact grow_call (HT.out.c _)) | (go_at_call 44; with_reducible exact grow_call (HS.out.c _)) | (go_at_call 44; with_reducible exact grow_call (HA.out.c _)) | (go_at_call 44; with_reducible exact grow_call (HC.out.c _)) | (go_at_call 44; with_reducible exact grow_call (HD.out.c _)) | (go_at_call 43; with_reducible exact grow_call (IA1.out.c _)) | (go_at_call 43; with_reducible exact grow_call (IA2.out.c _)) | (go_at_call 43; with_reducible exact grow_call (IB1.out.c _)) | (go_at_call 43; with_reducible exact grow_call (IB2.out.c _)) | (go_at_call 43; with_reducible exact grow_call (IB3.out.c _)) | (go_at_call 43; with_reducible exact grow_call (IC2.out.c _)))))
    refine wpQuiet_nil ?_
    intro g1
    go_wp2
    refine wp_region_grow (by kernel_rfl) (by kernel_rfl) ?_
    repeat (go_big_quiet_step ((first | (go_at_call 44; with_reducible exact grow_call (HV.out.c _)) | (go_at_call 44; with_reducible exact grow_call (HT.out.c _)) | (go_at_call 44; with_reducible exact grow_call (HS.out.c _)) | (go_at_call 44; with_reducible exact grow_call (HA.out.c _)) | (go_at_call 44; with_reducible exact grow_call (HC.out.c _)) | (go_at_call 44; with_reducible exact grow_call (HD.out.c _)) | (go_at_call 43; with_reducible exact grow_call (IA1.out.c _)) | (go_at_call 43; with_reducible exact grow_call (IA2.out.c _)) | (go_at_call 43; with_reducible exact grow_call (IB1.out.c _)) | (go_at_call 43; with_reducible exact grow_call (IB2.out.c _)) | (go_at_call 43; with_reducible exact grow_call (IB3.out.c _)) | (go_at_call 43; with_reducible exact grow_call (IC2.out.c _)))))
    refine wpQuiet_nil ?_
    intro g2
    go_wp2
    go_ret
    exact ⟨ret_bool (by simp [hm, ne]), gri⟩
  · have d1 : ((n : Int).tmod 64 == 0) = false := by simp [Int.tmod_eq_emod_of_nonneg]; omega
    have d2 : ((n : Int) % 64 == 0) = false := by simp; omega
    go_enter Tryz.func16, Tryz.ntmps16
    go_wp2
    refine wp_region_grow (by kernel_rfl) (by kernel_rfl) ?_
    repeat (go_big_quiet_step ((first | (go_at_call 44; with_reducible exact grow_call (HV.out.c _)) | (go_at_call 44; with_reducible exact grow_call (HT.out.c _)) | (go_at_call 44; with_reducible exact grow_call (HS.out.c _)) | (go_at_call 44; with_reducible exact grow_call (HA.out.c _)) | (go_at_call 44; with_reducible exact grow_call (HC.out.c _)) | (go_at_call 44; with_reducible exact grow_call (HD.out.c _)) | (go_at_call 43; with_reducible exact grow_call (IA1.out.c _)) | (go_at_call 43; with_reducible exact grow_call (IA2.out.c _)) | (go_at_call 43; with_reducible exact grow_call (IB1.out.c _)) | (go_at_call 43; with_reducible exact grow_call (IB2.out.c _)) | (go_at_call 43; with_reducible exact grow_call (IB3.out.c _)) | (go_at_call 43; with_reducible exact grow_call (IC2.out.c _)))))
    refine wpQuiet_nil ?_
    intro g0
    go_wp2
    refine wp_region_grow (by kernel_rfl) (by kernel_rfl) ?_
    repeat (go_big_quiet_step ((first | (go_at_call 44; with_reducible exact grow_call (HV.out.c _)) | (go_at_call 44; with_reducible exact grow_call (HT.out.c _)) | (go_at_call 44; with_reducible exact grow_call (HS.out.c _)) | (go_at_call 44; with_reducible exact grow_call (HA.out.c _)) | (go_at_call 44; with_reducible exact grow_call (HC.out.c _)) | (go_at_call 44; with_reducible exact grow_call (HD.out.c _)) | (go_at_call 43; with_reducible exact grow_call (IA1.out.c _)) | (go_at_call 43; with_reducible exact grow_call (IA2.out.c _)) | (go_at_call 43; with_reducible exact grow_call (IB1.out.c _)) | (go_at_call 43; with_reducible exact grow_call (IB2.out.c _)) | (go_at_call 43; with_reducible exact grow_call (IB3.out.c _)) | (go_at_call 43; with_reducible exact grow_call (IC2.out.c _)))))
    refine wpQuiet_nil ?_
    intro g1
    go_wp2
    refine wp_region_grow (by kernel_rfl) (by kernel_rfl) ?_
    repeat (go_big_quiet_step ((first | (go_at_call 44; with_reducible exact grow_call (HV.out.c _)) | (go_at_call 44; with_reducible exact grow_call (HT.out.c _)) | (go_at_call 44; with_reducible exact grow_call (HS.out.c _)) | (go_at_call 44; with_reducible exact grow_call (HA.out.c _)) | (go_at_call 44; with_reducible exact grow_call (HC.out.c _)) | (go_at_call 44; with_reducible exact grow_call (HD.out.c _)) | (go_at_call 43; with_reducible exact grow_call (IA1.out.c _)) | (go_at_call 43; with_reducible exact grow_call (IA2.out.c _)) | (go_at_call 43; with_reducible exact grow_call (IB1.out.c _)) | (go_at_call 43; with_reducible exact grow_call (IB2.out.c _)) | (go_at_call 43; with_reducible exact grow_call (IB3.out.c _)) | (go_at_call 43; with_reducible exact grow_call (IC2.out.c _)))))
    refine wpQuiet_nil ?_
    intro g2
    go_wp2
    go_ret
    exact ⟨ret_bool (by simp [hm]), gri⟩
theorem may13_any (k v t s a c : Int) (D : Option Addr) (n q : Nat) (l : List UInt8) (w : World) (hl : l.length = n) (hn : n ≤ 9223372036854775807) (v0 : 0 ≤ v) (t0 : 0 ≤ t) : Calls Tryz.prog 16 #[(Value.agg #[.int .i64 k, .int .u64 v, .int .u64 t, .int .i64 s, .int .i64 a, .int .i64 c, .slice D n q])] w fun e w' => e = .returned (.bool (mayOpB k v t s a c n l)) ∧ Gr w w' := by
  by_cases h : k < 1 ∨ 9 < k ∨ 4294967295 < v ∨ 4294967295 < t
  · have e : mayOpB k v t s a c n l = false := by
      cases hm : mayOpB k v t s a c n l with
      | false => rfl
      | true =>
        have h1 := mayOpB_kind hm hl
        have h2 : v ≤ 4294967295 ∧ t ≤ 4294967295 := by
          have hk3 : k = 1 ∨ k = 2 ∨ k = 3 ∨ k = 4 ∨ k = 5 ∨ k = 6 ∨ k = 7 ∨ k = 8 ∨ k = 9 := by omega
          rcases hk3 with rfl | rfl | rfl | rfl | rfl | rfl | rfl | rfl | rfl <;> simp [mayOpB, wVol, wTo] at hm <;> omega
        omega
    rw [e]
    exact may13_early k v t s a c D n q w h
  · have e : mayOpB k v t s a c n l = (inB (hasB k 118) 1 v 4294967295 && inB (hasB k 116) 1 t 4294967295 && !(hasB k 116 && t == v) && inB (hasB k 115) 0 s 256 && inB (hasB k 97) 0 a 1048576 && inB (hasB k 99) 1 c 1024 && decide (n % 64 = 0) && inB (hasB k 100) 1 ((n : Int) / 64) 32) := by
      have hle : (l == []) = decide (n = 0) := by cases l <;> simp_all <;> omega
      have hk3 : k = 1 ∨ k = 2 ∨ k = 3 ∨ k = 4 ∨ k = 5 ∨ k = 6 ∨ k = 7 ∨ k = 8 ∨ k = 9 := by omega
      rcases hk3 with rfl | rfl | rfl | rfl | rfl | rfl | rfl | rfl | rfl
      all_goals
        simp only [mayOpB, hle, wVol, wTo, wSize, wAt, wCount, wData, inB]
        simp only [show (hasB 1 118) = true from by decide, show (hasB 1 116) = false from by decide, show (hasB 1 115) = true from by decide, show (hasB 1 97) = false from by decide, show (hasB 1 99) = false from by decide, show (hasB 1 100) = false from by decide, show (hasB 2 118) = true from by decide, show (hasB 2 116) = false from by decide, show (hasB 2 115) = false from by decide, show (hasB 2 97) = false from by decide, show (hasB 2 99) = false from by decide, show (hasB 2 100) = false from by decide, show (hasB 3 118) = true from by decide, show (hasB 3 116) = false from by decide, show (hasB 3 115) = true from by decide, show (hasB 3 97) = false from by decide, show (hasB 3 99) = false from by decide, show (hasB 3 100) = false from by decide, show (hasB 4 118) = true from by decide, show (hasB 4 116) = true from by decide, show (hasB 4 115) = false from by decide, show (hasB 4 97) = false from by decide, show (hasB 4 99) = false from by decide, show (hasB 4 100) = false from by decide, show (hasB 5 118) = true from by decide, show (hasB 5 116) = false from by decide, show (hasB 5 115) = false from by decide, show (hasB 5 97) = true from by decide, show (hasB 5 99) = false from by decide, show (hasB 5 100) = true from by decide, show (hasB 6 118) = true from by decide, show (hasB 6 116) = false from by decide, show (hasB 6 115) = false from by decide, show (hasB 6 97) = true from by decide, show (hasB 6 99) = true from by decide, show (hasB 6 100) = false from by decide, show (hasB 7 118) = true from by decide, show (hasB 7 116) = false from by decide, show (hasB 7 115) = false from by decide, show (hasB 7 97) = true from by decide, show (hasB 7 99) = true from by decide, show (hasB 7 100) = false from by decide, show (hasB 8 118) = false from by decide, show (hasB 8 116) = false from by decide, show (hasB 8 115) = false from by decide, show (hasB 8 97) = false from by decide, show (hasB 8 99) = false from by decide, show (hasB 8 100) = false from by decide, show (hasB 9 118) = true from by decide, show (hasB 9 116) = false from by decide, show (hasB 9 115) = false from by decide, show (hasB 9 97) = true from by decide, show (hasB 9 99) = true from by decide, show (hasB 9 100) = false from by decide]
        rw [Bool.eq_iff_iff]
        simp
        omega
    rw [e]
    refine may13_core k v t s a c D n q w _ _ _ _ _ _ _ _ _ _ _ _ ⟨fun W => has13_v k W⟩ ⟨fun W => has13_t k W⟩ ⟨fun W => has13_s k W⟩ ⟨fun W => has13_a k W⟩ ⟨fun W => has13_c k W⟩ ⟨fun W => has13_d k W⟩ ⟨fun W => in13_any _ _ _ _ W⟩ ⟨fun W => in13_any _ _ _ _ W⟩ ⟨fun W => in13_any _ _ _ _ W⟩ ⟨fun W => in13_any _ _ _ _ W⟩ ⟨fun W => in13_any _ _ _ _ W⟩ ⟨fun W => in13_any _ _ _ _ W⟩ ?_ ?_ v0 ?_ t0 ?_ hn <;> omega
end Go.Proofs.YtgjdgafoidppaaaGreatDoor
