/- The reference's opOf. Conditions: the words, four at least, stand in memory; words of at most 200000 bytes. The reference's OpOf. Conditions: a text of at most 200000 bytes; the tables stand. The reference's ActText, of an act that may be told. Conditions: what is read stands in memory. -/
import Derived.Test.YtgjdgafoidppaaaGreatDoorQ13
import Derived.Test.YtgjdgafoidppaaaGreatDoorQ15
import Derived.Test.YtgjdgafoidppaaaGreatDoorQ14
import Derived.Test.YtgjdgafoidppaaaGreatDoorQ11
namespace Go.Proofs.YtgjdgafoidppaaaGreatDoor
open Go.RowKit
set_option linter.unusedVariables false
set_option linter.unusedSimpArgs false
set_option linter.unnecessarySimpa false
def kdL : List ByteArray := [⟨#[99, 114, 101, 97, 116, 101]⟩, ⟨#[100, 101, 108, 101, 116, 101]⟩, ⟨#[114, 101, 115, 105, 122, 101]⟩, ⟨#[115, 110, 97, 112]⟩, ⟨#[119, 114, 105, 116, 101]⟩, ⟨#[122, 101, 114, 111]⟩, ⟨#[100, 105, 115, 99, 97, 114, 100]⟩, ⟨#[102, 108, 117, 115, 104]⟩, ⟨#[114, 101, 97, 100]⟩]
/-- The words' place in a world in which their block stands. -/
theorem place_kd (b : Nat) (y : ByteArray) (w : World) (kk : Int) (hk : Lib.idxOfS kdL y + 1 = kk) [hB : BlockAt w b (kdL.map Value.string).toArray 9] :
    Calls Tryz.prog 57 #[.slice (some ⟨b, 0, none⟩) 9 9, .string y] w fun e w' => e = .returned (.int .i64 kk) ∧ w = w' := by
  subst hk
  refine place_any b 0 9 kdL 9 rfl y w (by omega) (fun j z hj => ?_)
  rw [Nat.zero_add, block_cells]
  simp [hj]
theorem st_i64 {w : World} {X o : Nat} {u : Value} {z : Int} (hc : w.cell? ⟨X, o, none⟩ = some u) (hf : w.frozen? ⟨X, o, none⟩ = false) : (storeVar 3 ⟨X, o, none⟩ (.int .i64 z)).run Tryz.prog w = .ok () (w.setCell ⟨X, o, none⟩ (.int .i64 z)) := by
  go_simp
theorem st_sl {w : World} {X o : Nat} {u : Value} {A : Option Addr} {n q : Nat} (hc : w.cell? ⟨X, o, none⟩ = some u) (hf : w.frozen? ⟨X, o, none⟩ = false) : (storeVar 24 ⟨X, o, none⟩ (.slice A n q)).run Tryz.prog w = .ok () (w.setCell ⟨X, o, none⟩ (.slice A n q)) := by
  go_simp
/-- What is read of a word. -/
structure NumOf (d : ByteArray) (most : Int) (v : Nat) : Prop where
  c : ∀ W, Calls Tryz.prog 90 #[.string d, .int .u64 most] W fun e w' => e = .returned (.int .u64 v) ∧ Gr W w'
structure SmallOf (d : ByteArray) (most : Int) (v : Nat) : Prop where
  c : ∀ W, Calls Tryz.prog 59 #[.string d, .int .i64 most] W fun e w' => e = .returned (.int .i64 v) ∧ Gr W w'
structure DataOf (d : ByteArray) (l : List UInt8) : Prop where
  c : ∀ W, Calls Tryz.prog 91 #[.string d] W fun e W' => ∃ v, e = .returned v ∧ OwnR bv 5 W.heap.size W' v l ∧ Below W.heap.size W W'
structure Rd (d1 d2 d3 : ByteArray) (v1 v2 s2 a2 c3 : Nat) (l3 : List UInt8) : Prop where
  n1 : NumOf d1 4294967295 v1
  n2 : NumOf d2 4294967295 v2
  z2 : SmallOf d2 256 s2
  a2 : SmallOf d2 1048576 a2
  c3 : SmallOf d3 1024 c3
  l3 : DataOf d3 l3
def rV (k : Int) (v1 v2 s2 a2 c3 : Nat) (l3 : List UInt8) : OpV := if k = 1 then ⟨1, v1, 0, s2, 0, 0, []⟩ else if k = 2 then ⟨2, v1, 0, 0, 0, 0, []⟩ else if k = 3 then ⟨3, v1, 0, s2, 0, 0, []⟩ else if k = 4 then ⟨4, v1, v2, 0, 0, 0, []⟩ else if k = 5 then ⟨5, v1, 0, 0, a2, 0, l3⟩ else if k = 6 then ⟨6, v1, 0, 0, a2, c3, []⟩ else if k = 7 then ⟨7, v1, 0, 0, a2, c3, []⟩ else if k = 8 then ⟨8, 0, 0, 0, 0, 0, []⟩ else if k = 9 then ⟨9, v1, 0, 0, a2, c3, []⟩ else ⟨0, v1, 0, 0, 0, 0, []⟩
set_option maxRecDepth 100000 in
set_option maxHeartbeats 8000000 in
theorem ropOf_any (b o n c : Nat) (d0 d1 d2 d3 : ByteArray) (v1 v2 s2 a2 c3 : Nat) (l3 : List UInt8) (H : Rd d1 d2 d3 v1 v2 s2 a2 c3 l3) (w : World) [hk : Tb w] (h4 : 4 ≤ n) (hb : b < w.heap.size) (kk : Int) (hkk : Lib.idxOfS kdL d0 + 1 = kk) (k0 : 0 ≤ kk) (k9 : kk ≤ 9)
    (hc0 : w.cell? ⟨b, o, none⟩ = some (.string d0)) (hc1 : w.cell? ⟨b, o + 1, none⟩ = some (.string d1)) (hc2 : w.cell? ⟨b, o + 2, none⟩ = some (.string d2)) (hc3 : w.cell? ⟨b, o + 3, none⟩ = some (.string d3)) :
    Calls Tryz.prog 40 #[.slice (some ⟨b, o, none⟩) n c] w fun e w' => ∃ dv, e = .returned ((rV kk v1 v2 s2 a2 c3 l3).agg dv) ∧ OwnR bv 5 w.heap.size w' dv (rV kk v1 v2 s2 a2 c3 l3).d ∧ Below w.heap.size w w' := by
  have HKK := Lib.hid hkk; clear hkk
  have HH := Lib.hid H; clear H
  haveI : Old b w := ⟨hb⟩
  have i0 : (0 : Int) < (n : Int) := by omega
  have i1 : (1 : Int) < (n : Int) := by omega
  have i2 : (2 : Int) < (n : Int) := by omega
  have i3 : (3 : Int) < (n : Int) := by omega
  go_enter Tryz.func40, Tryz.ntmps40
  go_upto_region 1 with fail
  go_cut [3] (fun u wx => ∃ g, u = .pointer (some ⟨g, 0, none⟩) ∧ w.heap.size < g ∧ BlockAt wx g #[.int .i64 kk, .int .u64 0, .int .u64 0, .int .i64 0, .int .i64 0, .int .i64 0, .slice none 0 0] 26 ∧ BlockAt wx w.heap.size #[.int .i64 0, .int .u64 0, .int .u64 0, .int .i64 0, .int .i64 0, .int .i64 0, .slice none 0 0] 26 ∧ Below w.heap.size w wx)
  case first =>
    haveI : NeZero n := ⟨by omega⟩
    go_region_with (first | (go_at_call 45; refine (kinds_any _).mono ?_; rintro e w' ⟨rfl, rfl⟩) | (go_at_call 57; refine (@place_kd _ _ _ _ HKK.out (by first | exact inferInstanceAs (BlockAt (World.alloc _ _) _ _ _) | infer_instance)).mono ?_; rintro e w' ⟨rfl, rfl⟩))
    all_goals
      go_wp2_with fail
      go_meet
      case rel => exact ⟨_, rfl, by omega, inferInstance, inferInstance, by repeat (first | with_reducible exact Below.refl _ _ | with_reducible apply below_alloc | with_reducible refine below_set_le ?_ (by simp) _ | with_reducible apply Below.drew)⟩
  case rest =>
    obtain ⟨X, rfl, hX, bX, bR, hbw⟩ := hcut
    have hHR : w.heap.size < wc.heap.size := bR.lt
    haveI : BNe w.heap.size X := ⟨by omega⟩
    haveI : BNe X w.heap.size := ⟨by omega⟩
    haveI : Old X wc := bX.old
    haveI : Old w.heap.size wc := bR.old
    haveI : Old b wc := ⟨by omega⟩
    have e1 : (w.heap.size = X) = False := by simp; omega
    have e2 : (X = w.heap.size) = False := by simp; omega
    have e3 : (b = X) = False := by simp; omega
    have e4 : (X = b) = False := by simp; omega
    have e5 : (b = w.heap.size) = False := by simp; omega
    have e6 : (w.heap.size = b) = False := by simp; omega
    have y1 : wc.cell? ⟨b, o + 1, none⟩ = some (.string d1) := (hbw.cell (p := ⟨b, o + 1, none⟩) hb).trans hc1
    have y2 : wc.cell? ⟨b, o + 2, none⟩ = some (.string d2) := (hbw.cell (p := ⟨b, o + 2, none⟩) hb).trans hc2
    have y3 : wc.cell? ⟨b, o + 3, none⟩ = some (.string d3) := (hbw.cell (p := ⟨b, o + 3, none⟩) hb).trans hc3
    have x0 : wc.cell? ⟨X, 0, none⟩ = some (.int .i64 kk) := (block_cells _ _ _ _ _).trans rfl
    have x1 : wc.cell? ⟨X, 1, none⟩ = some (.int .u64 0) := (block_cells _ _ _ _ _).trans rfl
    have x2 : wc.cell? ⟨X, 2, none⟩ = some (.int .u64 0) := (block_cells _ _ _ _ _).trans rfl
    have x3 : wc.cell? ⟨X, 3, none⟩ = some (.int .i64 0) := (block_cells _ _ _ _ _).trans rfl
    have x4 : wc.cell? ⟨X, 4, none⟩ = some (.int .i64 0) := (block_cells _ _ _ _ _).trans rfl
    have x5 : wc.cell? ⟨X, 5, none⟩ = some (.int .i64 0) := (block_cells _ _ _ _ _).trans rfl
    have x6 : wc.cell? ⟨X, 6, none⟩ = some (.slice none 0 0) := (block_cells _ _ _ _ _).trans rfl
    have u1 : wc.frozen? ⟨X, 1, none⟩ = false := block_frozen _ _ _ _ _
    have u2 : wc.frozen? ⟨X, 2, none⟩ = false := block_frozen _ _ _ _ _
    have u3 : wc.frozen? ⟨X, 3, none⟩ = false := block_frozen _ _ _ _ _
    have r0 : wc.cell? ⟨w.heap.size, 0, none⟩ = some (.int .i64 0) := (block_cells _ _ _ _ _).trans rfl
    have r1 : wc.cell? ⟨w.heap.size, 1, none⟩ = some (.int .u64 0) := (block_cells _ _ _ _ _).trans rfl
    have r2 : wc.cell? ⟨w.heap.size, 2, none⟩ = some (.int .u64 0) := (block_cells _ _ _ _ _).trans rfl
    have r3 : wc.cell? ⟨w.heap.size, 3, none⟩ = some (.int .i64 0) := (block_cells _ _ _ _ _).trans rfl
    have r4 : wc.cell? ⟨w.heap.size, 4, none⟩ = some (.int .i64 0) := (block_cells _ _ _ _ _).trans rfl
    have r5 : wc.cell? ⟨w.heap.size, 5, none⟩ = some (.int .i64 0) := (block_cells _ _ _ _ _).trans rfl
    have r6 : wc.cell? ⟨w.heap.size, 6, none⟩ = some (.slice none 0 0) := (block_cells _ _ _ _ _).trans rfl
    have z0 : wc.frozen? ⟨w.heap.size, 0, none⟩ = false := block_frozen _ _ _ _ _
    have z1 : wc.frozen? ⟨w.heap.size, 1, none⟩ = false := block_frozen _ _ _ _ _
    have z2 : wc.frozen? ⟨w.heap.size, 2, none⟩ = false := block_frozen _ _ _ _ _
    have z3 : wc.frozen? ⟨w.heap.size, 3, none⟩ = false := block_frozen _ _ _ _ _
    have z4 : wc.frozen? ⟨w.heap.size, 4, none⟩ = false := block_frozen _ _ _ _ _
    have z5 : wc.frozen? ⟨w.heap.size, 5, none⟩ = false := block_frozen _ _ _ _ _
    have z6 : wc.frozen? ⟨w.heap.size, 6, none⟩ = false := block_frozen _ _ _ _ _
    have HBW := Lib.hid hbw; clear hbw
    have HX := Lib.hid hX; clear hX
    have hk3 : kk = 0 ∨ kk = 1 ∨ kk = 2 ∨ kk = 3 ∨ kk = 4 ∨ kk = 5 ∨ kk = 6 ∨ kk = 7 ∨ kk = 8 ∨ kk = 9 := by omega
    clear k0 k9
    rcases hk3 with rfl | rfl | rfl | rfl | rfl | rfl | rfl | rfl | rfl | rfl
    · -- 0
      go_wp2_with ((go_at_call 90; ((with_reducible refine (HH.out.n1.c _).mono ?_); rintro _ _ ⟨rfl, g, rfl⟩)))
      exact bodyPost_ret (v := .agg #[.int .i64 0, .int .u64 v1, .int .u64 0, .int .i64 0, .int .i64 0, .int .i64 0, .slice none 0 0]) (by simp [results, Tryz.results40, go_sem, e1, e2, e3, e4, e5, e6, x0, x1, x2, x3, x4, x5, x6, r0, r1, r2, r3, r4, r5, r6, z0, z1, z2, z3, z4, z5, z6]) rfl ⟨.slice none 0 0, rfl, OwnR.nil _ _, by repeat (first | with_reducible exact HBW.out | with_reducible refine below_set_le ?_ (by have := HX.out; omega) _ | with_reducible refine below_trans ?_ (grown_below _ _) | with_reducible apply Below.drew)⟩
    · -- 1
      go_wp2_with (first | (go_at_call 90; ((with_reducible refine (HH.out.n1.c _).mono ?_); rintro _ _ ⟨rfl, g, rfl⟩)) | (go_at_call 59; ((with_reducible refine (HH.out.z2.c _).mono ?_); rintro _ _ ⟨rfl, g, rfl⟩)))
      exact bodyPost_ret (v := .agg #[.int .i64 1, .int .u64 v1, .int .u64 0, .int .i64 s2, .int .i64 0, .int .i64 0, .slice none 0 0]) (by simp [results, Tryz.results40, go_sem, e1, e2, e3, e4, e5, e6, x0, x1, x2, x3, x4, x5, x6, r0, r1, r2, r3, r4, r5, r6, z0, z1, z2, z3, z4, z5, z6]) rfl ⟨.slice none 0 0, rfl, OwnR.nil _ _, by repeat (first | with_reducible exact HBW.out | with_reducible refine below_set_le ?_ (by have := HX.out; omega) _ | with_reducible refine below_trans ?_ (grown_below _ _) | with_reducible apply Below.drew)⟩
    · -- 2
      go_wp2_with ((go_at_call 90; ((with_reducible refine (HH.out.n1.c _).mono ?_); rintro _ _ ⟨rfl, g, rfl⟩)))
      exact bodyPost_ret (v := .agg #[.int .i64 2, .int .u64 v1, .int .u64 0, .int .i64 0, .int .i64 0, .int .i64 0, .slice none 0 0]) (by simp [results, Tryz.results40, go_sem, e1, e2, e3, e4, e5, e6, x0, x1, x2, x3, x4, x5, x6, r0, r1, r2, r3, r4, r5, r6, z0, z1, z2, z3, z4, z5, z6]) rfl ⟨.slice none 0 0, rfl, OwnR.nil _ _, by repeat (first | with_reducible exact HBW.out | with_reducible refine below_set_le ?_ (by have := HX.out; omega) _ | with_reducible refine below_trans ?_ (grown_below _ _) | with_reducible apply Below.drew)⟩
    · -- 3
      go_wp2_with (first | (go_at_call 90; ((with_reducible refine (HH.out.n1.c _).mono ?_); rintro _ _ ⟨rfl, g, rfl⟩)) | (go_at_call 59; ((with_reducible refine (HH.out.z2.c _).mono ?_); rintro _ _ ⟨rfl, g, rfl⟩)))
      exact bodyPost_ret (v := .agg #[.int .i64 3, .int .u64 v1, .int .u64 0, .int .i64 s2, .int .i64 0, .int .i64 0, .slice none 0 0]) (by simp [results, Tryz.results40, go_sem, e1, e2, e3, e4, e5, e6, x0, x1, x2, x3, x4, x5, x6, r0, r1, r2, r3, r4, r5, r6, z0, z1, z2, z3, z4, z5, z6]) rfl ⟨.slice none 0 0, rfl, OwnR.nil _ _, by repeat (first | with_reducible exact HBW.out | with_reducible refine below_set_le ?_ (by have := HX.out; omega) _ | with_reducible refine below_trans ?_ (grown_below _ _) | with_reducible apply Below.drew)⟩
    · -- 4
      go_wp2_with (first | (go_at_call 90; ((with_reducible refine (HH.out.n1.c _).mono ?_); rintro _ _ ⟨rfl, g, rfl⟩)) | (go_at_call 90; ((with_reducible refine (HH.out.n2.c _).mono ?_); rintro _ _ ⟨rfl, g, rfl⟩)))
      exact bodyPost_ret (v := .agg #[.int .i64 4, .int .u64 v1, .int .u64 v2, .int .i64 0, .int .i64 0, .int .i64 0, .slice none 0 0]) (by simp [results, Tryz.results40, go_sem, e1, e2, e3, e4, e5, e6, x0, x1, x2, x3, x4, x5, x6, r0, r1, r2, r3, r4, r5, r6, z0, z1, z2, z3, z4, z5, z6]) rfl ⟨.slice none 0 0, rfl, OwnR.nil _ _, by repeat (first | with_reducible exact HBW.out | with_reducible refine below_set_le ?_ (by have := HX.out; omega) _ | with_reducible refine below_trans ?_ (grown_below _ _) | with_reducible apply Below.drew)⟩
    · -- 5
      go_wp2_with ((go_at_call 90; ((with_reducible refine (HH.out.n1.c _).mono ?_); rintro _ _ ⟨rfl, g, rfl⟩)))
      refine wp_region_eff (W := w) (I := InBlk1 w X 26) (inBlk1_ghost _ _ _) ((Blk1.one w X 26 #[.int .i64 5, .int .u64 v1, .int .u64 0, .int .i64 0, .int .i64 0, .int .i64 0, .slice none 0 0]).other w.heap.size #[.int .i64 0, .int .u64 0, .int .u64 0, .int .i64 0, .int .i64 0, .int .i64 0, .slice none 0 0] 26 (by have := HX.out; omega)) ?hst [0, 1, 2, 3, 4, 5, 6, 8] [7, 9, 10, 11] (by kernel_rfl) (by kernel_rfl) ?_
      case hst => exact ⟨Gr.of (by repeat (first | with_reducible exact HBW.out | with_reducible refine below_set_le ?_ (by have := HX.out; omega) _ | with_reducible refine below_trans ?_ (grown_below _ _) | with_reducible apply Below.drew)), inferInstance, inferInstance, trivial⟩
      simp only [pick, List.drop_succ_cons, List.drop_zero, List.take_succ_cons, List.take_zero, List.nil_append, List.cons_append]
      repeat (refine wpCalm_step (fun K hK => ?_); go_simp; first | (refine hK _ ?_; clear hK K) | (apply Exists.intro; refine ⟨fun _ => ?_, hK _ ?_⟩; ((first | (go_at_call 59; exact HH.out.a2.c _) | (go_at_call 59; exact HH.out.c3.c _))); clear hK K))
      refine wpCalm_nil ?_
      refine wpEfs_call 91 #[.string d3] rfl (fun _ => by go_simp) (fun w5 hw5 => ?_)
      have HW5 := Lib.hid hw5; clear hw5
      refine (HH.out.l3.c w5).mono ?_
      rintro _ w6 ⟨dv, rfl, ho6, hb6⟩
      obtain ⟨dA, dq, rfl, hq, _⟩ := ho6.form
      refine ⟨_, rfl, Blk1.and ((Blk1.one w X 26 #[.int .i64 5, .int .u64 v1, .int .u64 0, .int .i64 0, .int .i64 0, .int .i64 0, .slice none 0 0]).other w.heap.size #[.int .i64 0, .int .u64 0, .int .u64 0, .int .i64 0, .int .i64 0, .int .i64 0, .slice none 0 0] 26 (by have := HX.out; omega)) (fun w7 => OwnR bv 5 w.heap.size w7 (.slice dA l3.length dq) l3) (fun _ _ h g => h.gr g) (fun w7 o7 v7 cs7 hb7 h => OwnR.set_ h X o7 v7 (by decide)), ?hin, ?_⟩
      case hin => exact ⟨HW5.out.1.trans (Gr.of hb6), HW5.out.2.1.gr (Gr.of hb6), ho6.more HW5.out.1.below.size, HW5.out.2.2.1.gr (Gr.of hb6), trivial⟩
      refine wpEfs_put 4 rfl rfl rfl (Nat.le_of_lt HX.out) (by simp [Blk1.and, Blk1.other, Blk1.one]) (fun _ hc hf => st_i64 hc hf) ?_
      refine wpEfs_calm (.pointer (some ⟨X, 6, none⟩)) rfl (fun g => by go_simp) ?_
      refine wpEfs_put 6 rfl rfl rfl (Nat.le_of_lt HX.out) (by simp [Blk1.put, Blk1.and, Blk1.other, Blk1.one]) (fun _ hc hf => st_sl hc hf) ?_
      refine wpEfs_nil ?_
      rintro w8 ⟨hg8, bX8, ho8, bR8, _⟩
      have HG8 := Lib.hid hg8; clear hg8
      haveI : Old X w8 := bX8.old
      haveI : Old w.heap.size w8 := bR8.old
      have xx0 : w8.cell? ⟨X, 0, none⟩ = some (.int .i64 5) := (@block_cells _ _ 0 _ _ bX8).trans rfl
      have xx1 : w8.cell? ⟨X, 1, none⟩ = some (.int .u64 v1) := (@block_cells _ _ 1 _ _ bX8).trans rfl
      have xx2 : w8.cell? ⟨X, 2, none⟩ = some (.int .u64 0) := (@block_cells _ _ 2 _ _ bX8).trans rfl
      have xx3 : w8.cell? ⟨X, 3, none⟩ = some (.int .i64 0) := (@block_cells _ _ 3 _ _ bX8).trans rfl
      have xx4 : w8.cell? ⟨X, 4, none⟩ = some (.int .i64 a2) := (@block_cells _ _ 4 _ _ bX8).trans rfl
      have xx5 : w8.cell? ⟨X, 5, none⟩ = some (.int .i64 0) := (@block_cells _ _ 5 _ _ bX8).trans rfl
      have xx6 : w8.cell? ⟨X, 6, none⟩ = some (.slice dA l3.length dq) := (@block_cells _ _ 6 _ _ bX8).trans rfl
      have rr0 : w8.cell? ⟨w.heap.size, 0, none⟩ = some (.int .i64 0) := (@block_cells _ _ 0 _ _ bR8).trans rfl
      have rr1 : w8.cell? ⟨w.heap.size, 1, none⟩ = some (.int .u64 0) := (@block_cells _ _ 1 _ _ bR8).trans rfl
      have rr2 : w8.cell? ⟨w.heap.size, 2, none⟩ = some (.int .u64 0) := (@block_cells _ _ 2 _ _ bR8).trans rfl
      have rr3 : w8.cell? ⟨w.heap.size, 3, none⟩ = some (.int .i64 0) := (@block_cells _ _ 3 _ _ bR8).trans rfl
      have rr4 : w8.cell? ⟨w.heap.size, 4, none⟩ = some (.int .i64 0) := (@block_cells _ _ 4 _ _ bR8).trans rfl
      have rr5 : w8.cell? ⟨w.heap.size, 5, none⟩ = some (.int .i64 0) := (@block_cells _ _ 5 _ _ bR8).trans rfl
      have rr6 : w8.cell? ⟨w.heap.size, 6, none⟩ = some (.slice none 0 0) := (@block_cells _ _ 6 _ _ bR8).trans rfl
      have zz0 : w8.frozen? ⟨w.heap.size, 0, none⟩ = false := @block_frozen _ _ 0 _ _ bR8
      have zz1 : w8.frozen? ⟨w.heap.size, 1, none⟩ = false := @block_frozen _ _ 1 _ _ bR8
      have zz2 : w8.frozen? ⟨w.heap.size, 2, none⟩ = false := @block_frozen _ _ 2 _ _ bR8
      have zz3 : w8.frozen? ⟨w.heap.size, 3, none⟩ = false := @block_frozen _ _ 3 _ _ bR8
      have zz4 : w8.frozen? ⟨w.heap.size, 4, none⟩ = false := @block_frozen _ _ 4 _ _ bR8
      have zz5 : w8.frozen? ⟨w.heap.size, 5, none⟩ = false := @block_frozen _ _ 5 _ _ bR8
      have zz6 : w8.frozen? ⟨w.heap.size, 6, none⟩ = false := @block_frozen _ _ 6 _ _ bR8
      go_wp2
      exact bodyPost_ret (v := .agg #[.int .i64 5, .int .u64 v1, .int .u64 0, .int .i64 0, .int .i64 a2, .int .i64 0, .slice dA l3.length dq]) (by simp [results, Tryz.results40, go_sem, e1, e2, xx0, xx1, xx2, xx3, xx4, xx5, xx6, rr0, rr1, rr2, rr3, rr4, rr5, rr6, zz0, zz1, zz2, zz3, zz4, zz5, zz6]) rfl ⟨.slice dA l3.length dq, rfl, (by show OwnR bv 5 w.heap.size _ _ l3; repeat (first | with_reducible exact ho8 | with_reducible refine OwnR.set_ ?_ _ _ _ (by decide))), by repeat (first | with_reducible exact HG8.out.below | with_reducible refine below_set_le ?_ (by omega) _)⟩
    · -- 6
      go_wp2_with ((go_at_call 90; ((with_reducible refine (HH.out.n1.c _).mono ?_); rintro _ _ ⟨rfl, g, rfl⟩)))
      refine wp_region_eff (W := w) (I := InBlk1 w X 26) (inBlk1_ghost _ _ _) ((Blk1.one w X 26 #[.int .i64 6, .int .u64 v1, .int .u64 0, .int .i64 0, .int .i64 0, .int .i64 0, .slice none 0 0]).other w.heap.size #[.int .i64 0, .int .u64 0, .int .u64 0, .int .i64 0, .int .i64 0, .int .i64 0, .slice none 0 0] 26 (by have := HX.out; omega)) ?hst [0, 1, 2, 3, 4, 5, 6, 7, 8] [9, 10, 11] (by kernel_rfl) (by kernel_rfl) ?_
      case hst => exact ⟨Gr.of (by repeat (first | with_reducible exact HBW.out | with_reducible refine below_set_le ?_ (by have := HX.out; omega) _ | with_reducible refine below_trans ?_ (grown_below _ _) | with_reducible apply Below.drew)), inferInstance, inferInstance, trivial⟩
      simp only [pick, List.drop_succ_cons, List.drop_zero, List.take_succ_cons, List.take_zero, List.nil_append, List.cons_append]
      repeat (refine wpCalm_step (fun K hK => ?_); go_simp; first | (refine hK _ ?_; clear hK K) | (apply Exists.intro; refine ⟨fun _ => ?_, hK _ ?_⟩; ((first | (go_at_call 59; exact HH.out.a2.c _) | (go_at_call 59; exact HH.out.c3.c _))); clear hK K))
      refine wpCalm_nil ?_
      refine wpEfs_put 4 rfl rfl rfl (Nat.le_of_lt HX.out) (by simp [Blk1.other, Blk1.one]) (fun _ hc hf => st_i64 hc hf) ?_
      refine wpEfs_calm (.pointer (some ⟨X, 5, none⟩)) rfl (fun g => by go_simp) ?_
      refine wpEfs_put 5 rfl rfl rfl (Nat.le_of_lt HX.out) (by simp [Blk1.put, Blk1.other, Blk1.one]) (fun _ hc hf => st_i64 hc hf) ?_
      refine wpEfs_nil ?_
      rintro w8 ⟨hg8, bX8, bR8, _⟩
      have HG8 := Lib.hid hg8; clear hg8
      haveI : Old X w8 := bX8.old
      haveI : Old w.heap.size w8 := bR8.old
      have xx0 : w8.cell? ⟨X, 0, none⟩ = some (.int .i64 6) := (@block_cells _ _ 0 _ _ bX8).trans rfl
      have xx1 : w8.cell? ⟨X, 1, none⟩ = some (.int .u64 v1) := (@block_cells _ _ 1 _ _ bX8).trans rfl
      have xx2 : w8.cell? ⟨X, 2, none⟩ = some (.int .u64 0) := (@block_cells _ _ 2 _ _ bX8).trans rfl
      have xx3 : w8.cell? ⟨X, 3, none⟩ = some (.int .i64 0) := (@block_cells _ _ 3 _ _ bX8).trans rfl
      have xx4 : w8.cell? ⟨X, 4, none⟩ = some (.int .i64 a2) := (@block_cells _ _ 4 _ _ bX8).trans rfl
      have xx5 : w8.cell? ⟨X, 5, none⟩ = some (.int .i64 c3) := (@block_cells _ _ 5 _ _ bX8).trans rfl
      have xx6 : w8.cell? ⟨X, 6, none⟩ = some (.slice none 0 0) := (@block_cells _ _ 6 _ _ bX8).trans rfl
      have rr0 : w8.cell? ⟨w.heap.size, 0, none⟩ = some (.int .i64 0) := (@block_cells _ _ 0 _ _ bR8).trans rfl
      have rr1 : w8.cell? ⟨w.heap.size, 1, none⟩ = some (.int .u64 0) := (@block_cells _ _ 1 _ _ bR8).trans rfl
      have rr2 : w8.cell? ⟨w.heap.size, 2, none⟩ = some (.int .u64 0) := (@block_cells _ _ 2 _ _ bR8).trans rfl
      have rr3 : w8.cell? ⟨w.heap.size, 3, none⟩ = some (.int .i64 0) := (@block_cells _ _ 3 _ _ bR8).trans rfl
      have rr4 : w8.cell? ⟨w.heap.size, 4, none⟩ = some (.int .i64 0) := (@block_cells _ _ 4 _ _ bR8).trans rfl
      have rr5 : w8.cell? ⟨w.heap.size, 5, none⟩ = some (.int .i64 0) := (@block_cells _ _ 5 _ _ bR8).trans rfl
      have rr6 : w8.cell? ⟨w.heap.size, 6, none⟩ = some (.slice none 0 0) := (@block_cells _ _ 6 _ _ bR8).trans rfl
      have zz0 : w8.frozen? ⟨w.heap.size, 0, none⟩ = false := @block_frozen _ _ 0 _ _ bR8
      have zz1 : w8.frozen? ⟨w.heap.size, 1, none⟩ = false := @block_frozen _ _ 1 _ _ bR8
      have zz2 : w8.frozen? ⟨w.heap.size, 2, none⟩ = false := @block_frozen _ _ 2 _ _ bR8
      have zz3 : w8.frozen? ⟨w.heap.size, 3, none⟩ = false := @block_frozen _ _ 3 _ _ bR8
      have zz4 : w8.frozen? ⟨w.heap.size, 4, none⟩ = false := @block_frozen _ _ 4 _ _ bR8
      have zz5 : w8.frozen? ⟨w.heap.size, 5, none⟩ = false := @block_frozen _ _ 5 _ _ bR8
      have zz6 : w8.frozen? ⟨w.heap.size, 6, none⟩ = false := @block_frozen _ _ 6 _ _ bR8
      go_wp2
      exact bodyPost_ret (v := .agg #[.int .i64 6, .int .u64 v1, .int .u64 0, .int .i64 0, .int .i64 a2, .int .i64 c3, .slice none 0 0]) (by simp [results, Tryz.results40, go_sem, e1, e2, xx0, xx1, xx2, xx3, xx4, xx5, xx6, rr0, rr1, rr2, rr3, rr4, rr5, rr6, zz0, zz1, zz2, zz3, zz4, zz5, zz6]) rfl ⟨.slice none 0 0, rfl, OwnR.nil _ _, by repeat (first | with_reducible exact HG8.out.below | with_reducible refine below_set_le ?_ (by omega) _)⟩
    · -- 7
      go_wp2_with ((go_at_call 90; ((with_reducible refine (HH.out.n1.c _).mono ?_); rintro _ _ ⟨rfl, g, rfl⟩)))
      refine wp_region_eff (W := w) (I := InBlk1 w X 26) (inBlk1_ghost _ _ _) ((Blk1.one w X 26 #[.int .i64 7, .int .u64 v1, .int .u64 0, .int .i64 0, .int .i64 0, .int .i64 0, .slice none 0 0]).other w.heap.size #[.int .i64 0, .int .u64 0, .int .u64 0, .int .i64 0, .int .i64 0, .int .i64 0, .slice none 0 0] 26 (by have := HX.out; omega)) ?hst [0, 1, 2, 3, 4, 5, 6, 7, 8] [9, 10, 11] (by kernel_rfl) (by kernel_rfl) ?_
      case hst => exact ⟨Gr.of (by repeat (first | with_reducible exact HBW.out | with_reducible refine below_set_le ?_ (by have := HX.out; omega) _ | with_reducible refine below_trans ?_ (grown_below _ _) | with_reducible apply Below.drew)), inferInstance, inferInstance, trivial⟩
      simp only [pick, List.drop_succ_cons, List.drop_zero, List.take_succ_cons, List.take_zero, List.nil_append, List.cons_append]
      repeat (refine wpCalm_step (fun K hK => ?_); go_simp; first | (refine hK _ ?_; clear hK K) | (apply Exists.intro; refine ⟨fun _ => ?_, hK _ ?_⟩; ((first | (go_at_call 59; exact HH.out.a2.c _) | (go_at_call 59; exact HH.out.c3.c _))); clear hK K))
      refine wpCalm_nil ?_
      refine wpEfs_put 4 rfl rfl rfl (Nat.le_of_lt HX.out) (by simp [Blk1.other, Blk1.one]) (fun _ hc hf => st_i64 hc hf) ?_
      refine wpEfs_calm (.pointer (some ⟨X, 5, none⟩)) rfl (fun g => by go_simp) ?_
      refine wpEfs_put 5 rfl rfl rfl (Nat.le_of_lt HX.out) (by simp [Blk1.put, Blk1.other, Blk1.one]) (fun _ hc hf => st_i64 hc hf) ?_
      refine wpEfs_nil ?_
      rintro w8 ⟨hg8, bX8, bR8, _⟩
      have HG8 := Lib.hid hg8; clear hg8
      haveI : Old X w8 := bX8.old
      haveI : Old w.heap.size w8 := bR8.old
      have xx0 : w8.cell? ⟨X, 0, none⟩ = some (.int .i64 7) := (@block_cells _ _ 0 _ _ bX8).trans rfl
      have xx1 : w8.cell? ⟨X, 1, none⟩ = some (.int .u64 v1) := (@block_cells _ _ 1 _ _ bX8).trans rfl
      have xx2 : w8.cell? ⟨X, 2, none⟩ = some (.int .u64 0) := (@block_cells _ _ 2 _ _ bX8).trans rfl
      have xx3 : w8.cell? ⟨X, 3, none⟩ = some (.int .i64 0) := (@block_cells _ _ 3 _ _ bX8).trans rfl
      have xx4 : w8.cell? ⟨X, 4, none⟩ = some (.int .i64 a2) := (@block_cells _ _ 4 _ _ bX8).trans rfl
      have xx5 : w8.cell? ⟨X, 5, none⟩ = some (.int .i64 c3) := (@block_cells _ _ 5 _ _ bX8).trans rfl
      have xx6 : w8.cell? ⟨X, 6, none⟩ = some (.slice none 0 0) := (@block_cells _ _ 6 _ _ bX8).trans rfl
      have rr0 : w8.cell? ⟨w.heap.size, 0, none⟩ = some (.int .i64 0) := (@block_cells _ _ 0 _ _ bR8).trans rfl
      have rr1 : w8.cell? ⟨w.heap.size, 1, none⟩ = some (.int .u64 0) := (@block_cells _ _ 1 _ _ bR8).trans rfl
      have rr2 : w8.cell? ⟨w.heap.size, 2, none⟩ = some (.int .u64 0) := (@block_cells _ _ 2 _ _ bR8).trans rfl
      have rr3 : w8.cell? ⟨w.heap.size, 3, none⟩ = some (.int .i64 0) := (@block_cells _ _ 3 _ _ bR8).trans rfl
      have rr4 : w8.cell? ⟨w.heap.size, 4, none⟩ = some (.int .i64 0) := (@block_cells _ _ 4 _ _ bR8).trans rfl
      have rr5 : w8.cell? ⟨w.heap.size, 5, none⟩ = some (.int .i64 0) := (@block_cells _ _ 5 _ _ bR8).trans rfl
      have rr6 : w8.cell? ⟨w.heap.size, 6, none⟩ = some (.slice none 0 0) := (@block_cells _ _ 6 _ _ bR8).trans rfl
      have zz0 : w8.frozen? ⟨w.heap.size, 0, none⟩ = false := @block_frozen _ _ 0 _ _ bR8
      have zz1 : w8.frozen? ⟨w.heap.size, 1, none⟩ = false := @block_frozen _ _ 1 _ _ bR8
      have zz2 : w8.frozen? ⟨w.heap.size, 2, none⟩ = false := @block_frozen _ _ 2 _ _ bR8
      have zz3 : w8.frozen? ⟨w.heap.size, 3, none⟩ = false := @block_frozen _ _ 3 _ _ bR8
      have zz4 : w8.frozen? ⟨w.heap.size, 4, none⟩ = false := @block_frozen _ _ 4 _ _ bR8
      have zz5 : w8.frozen? ⟨w.heap.size, 5, none⟩ = false := @block_frozen _ _ 5 _ _ bR8
      have zz6 : w8.frozen? ⟨w.heap.size, 6, none⟩ = false := @block_frozen _ _ 6 _ _ bR8
      go_wp2
      exact bodyPost_ret (v := .agg #[.int .i64 7, .int .u64 v1, .int .u64 0, .int .i64 0, .int .i64 a2, .int .i64 c3, .slice none 0 0]) (by simp [results, Tryz.results40, go_sem, e1, e2, xx0, xx1, xx2, xx3, xx4, xx5, xx6, rr0, rr1, rr2, rr3, rr4, rr5, rr6, zz0, zz1, zz2, zz3, zz4, zz5, zz6]) rfl ⟨.slice none 0 0, rfl, OwnR.nil _ _, by repeat (first | with_reducible exact HG8.out.below | with_reducible refine below_set_le ?_ (by omega) _)⟩
    · -- 8
      go_wp2
      exact bodyPost_ret (v := .agg #[.int .i64 8, .int .u64 0, .int .u64 0, .int .i64 0, .int .i64 0, .int .i64 0, .slice none 0 0]) (by simp [results, Tryz.results40, go_sem, e1, e2, e3, e4, e5, e6, x0, x1, x2, x3, x4, x5, x6, r0, r1, r2, r3, r4, r5, r6, z0, z1, z2, z3, z4, z5, z6]) rfl ⟨.slice none 0 0, rfl, OwnR.nil _ _, by repeat (first | with_reducible exact HBW.out | with_reducible refine below_set_le ?_ (by have := HX.out; omega) _ | with_reducible refine below_trans ?_ (grown_below _ _) | with_reducible apply Below.drew)⟩
    · -- 9
      go_wp2_with ((go_at_call 90; ((with_reducible refine (HH.out.n1.c _).mono ?_); rintro _ _ ⟨rfl, g, rfl⟩)))
      refine wp_region_eff (W := w) (I := InBlk1 w X 26) (inBlk1_ghost _ _ _) ((Blk1.one w X 26 #[.int .i64 9, .int .u64 v1, .int .u64 0, .int .i64 0, .int .i64 0, .int .i64 0, .slice none 0 0]).other w.heap.size #[.int .i64 0, .int .u64 0, .int .u64 0, .int .i64 0, .int .i64 0, .int .i64 0, .slice none 0 0] 26 (by have := HX.out; omega)) ?hst [0, 1, 2, 3, 4, 5, 6, 7, 8] [9, 10, 11] (by kernel_rfl) (by kernel_rfl) ?_
      case hst => exact ⟨Gr.of (by repeat (first | with_reducible exact HBW.out | with_reducible refine below_set_le ?_ (by have := HX.out; omega) _ | with_reducible refine below_trans ?_ (grown_below _ _) | with_reducible apply Below.drew)), inferInstance, inferInstance, trivial⟩
      simp only [pick, List.drop_succ_cons, List.drop_zero, List.take_succ_cons, List.take_zero, List.nil_append, List.cons_append]
      repeat (refine wpCalm_step (fun K hK => ?_); go_simp; first | (refine hK _ ?_; clear hK K) | (apply Exists.intro; refine ⟨fun _ => ?_, hK _ ?_⟩; ((first | (go_at_call 59; exact HH.out.a2.c _) | (go_at_call 59; exact HH.out.c3.c _))); clear hK K))
      refine wpCalm_nil ?_
      refine wpEfs_put 4 rfl rfl rfl (Nat.le_of_lt HX.out) (by simp [Blk1.other, Blk1.one]) (fun _ hc hf => st_i64 hc hf) ?_
      refine wpEfs_calm (.pointer (some ⟨X, 5, none⟩)) rfl (fun g => by go_simp) ?_
      refine wpEfs_put 5 rfl rfl rfl (Nat.le_of_lt HX.out) (by simp [Blk1.put, Blk1.other, Blk1.one]) (fun _ hc hf => st_i64 hc hf) ?_
      refine wpEfs_nil ?_
      rintro w8 ⟨hg8, bX8, bR8, _⟩
      have HG8 := Lib.hid hg8; clear hg8
      haveI : Old X w8 := bX8.old
      haveI : Old w.heap.size w8 := bR8.old
      have xx0 : w8.cell? ⟨X, 0, none⟩ = some (.int .i64 9) := (@block_cells _ _ 0 _ _ bX8).trans rfl
      have xx1 : w8.cell? ⟨X, 1, none⟩ = some (.int .u64 v1) := (@block_cells _ _ 1 _ _ bX8).trans rfl
      have xx2 : w8.cell? ⟨X, 2, none⟩ = some (.int .u64 0) := (@block_cells _ _ 2 _ _ bX8).trans rfl
      have xx3 : w8.cell? ⟨X, 3, none⟩ = some (.int .i64 0) := (@block_cells _ _ 3 _ _ bX8).trans rfl
      have xx4 : w8.cell? ⟨X, 4, none⟩ = some (.int .i64 a2) := (@block_cells _ _ 4 _ _ bX8).trans rfl
      have xx5 : w8.cell? ⟨X, 5, none⟩ = some (.int .i64 c3) := (@block_cells _ _ 5 _ _ bX8).trans rfl
      have xx6 : w8.cell? ⟨X, 6, none⟩ = some (.slice none 0 0) := (@block_cells _ _ 6 _ _ bX8).trans rfl
      have rr0 : w8.cell? ⟨w.heap.size, 0, none⟩ = some (.int .i64 0) := (@block_cells _ _ 0 _ _ bR8).trans rfl
      have rr1 : w8.cell? ⟨w.heap.size, 1, none⟩ = some (.int .u64 0) := (@block_cells _ _ 1 _ _ bR8).trans rfl
      have rr2 : w8.cell? ⟨w.heap.size, 2, none⟩ = some (.int .u64 0) := (@block_cells _ _ 2 _ _ bR8).trans rfl
      have rr3 : w8.cell? ⟨w.heap.size, 3, none⟩ = some (.int .i64 0) := (@block_cells _ _ 3 _ _ bR8).trans rfl
      have rr4 : w8.cell? ⟨w.heap.size, 4, none⟩ = some (.int .i64 0) := (@block_cells _ _ 4 _ _ bR8).trans rfl
      have rr5 : w8.cell? ⟨w.heap.size, 5, none⟩ = some (.int .i64 0) := (@block_cells _ _ 5 _ _ bR8).trans rfl
      have rr6 : w8.cell? ⟨w.heap.size, 6, none⟩ = some (.slice none 0 0) := (@block_cells _ _ 6 _ _ bR8).trans rfl
      have zz0 : w8.frozen? ⟨w.heap.size, 0, none⟩ = false := @block_frozen _ _ 0 _ _ bR8
      have zz1 : w8.frozen? ⟨w.heap.size, 1, none⟩ = false := @block_frozen _ _ 1 _ _ bR8
      have zz2 : w8.frozen? ⟨w.heap.size, 2, none⟩ = false := @block_frozen _ _ 2 _ _ bR8
      have zz3 : w8.frozen? ⟨w.heap.size, 3, none⟩ = false := @block_frozen _ _ 3 _ _ bR8
      have zz4 : w8.frozen? ⟨w.heap.size, 4, none⟩ = false := @block_frozen _ _ 4 _ _ bR8
      have zz5 : w8.frozen? ⟨w.heap.size, 5, none⟩ = false := @block_frozen _ _ 5 _ _ bR8
      have zz6 : w8.frozen? ⟨w.heap.size, 6, none⟩ = false := @block_frozen _ _ 6 _ _ bR8
      go_wp2
      exact bodyPost_ret (v := .agg #[.int .i64 9, .int .u64 v1, .int .u64 0, .int .i64 0, .int .i64 a2, .int .i64 c3, .slice none 0 0]) (by simp [results, Tryz.results40, go_sem, e1, e2, xx0, xx1, xx2, xx3, xx4, xx5, xx6, rr0, rr1, rr2, rr3, rr4, rr5, rr6, zz0, zz1, zz2, zz3, zz4, zz5, zz6]) rfl ⟨.slice none 0 0, rfl, OwnR.nil _ _, by repeat (first | with_reducible exact HG8.out.below | with_reducible refine below_set_le ?_ (by omega) _)⟩
end Go.Proofs.YtgjdgafoidppaaaGreatDoor
namespace Go.Proofs.YtgjdgafoidppaaaGreatDoor
open Go.RowKit
set_option linter.unusedVariables false
set_option linter.unusedSimpArgs false
set_option linter.unnecessarySimpa false
theorem hd_at (ws : List ByteArray) (k j : Nat) (hj : j < ws.length + k) : (ws ++ List.replicate k (⟨#[]⟩ : ByteArray))[j]? = some (hdW (ws.drop j)) := by
  by_cases h : j < ws.length
  · rw [List.getElem?_append_left h, List.getElem?_eq_getElem h, List.drop_eq_getElem_cons h]; rfl
  · rw [List.getElem?_append_right (by omega), List.drop_eq_nil_of_le (by omega), List.getElem?_replicate, if_pos (by omega)]; rfl
theorem hd_short {ws : List ByteArray} {m : Nat} (h : ∀ x ∈ ws, x.size ≤ m) (j : Nat) : (hdW (ws.drop j)).size ≤ m := by
  cases hd : ws.drop j with
  | nil => exact Nat.zero_le _
  | cons y r => exact h y (List.mem_of_mem_drop (i := j) (by rw [hd]; simp))
theorem row_cells {W : World} {b o : Nat} {l : List ByteArray} (h : Row Value.string W (some ⟨b, o, none⟩) l) (j : Nat) (x : ByteArray) (hj : l[j]? = some x) : W.cell? ⟨b, o + j, none⟩ = some (.string x) := by
  have hne : l ≠ [] := by rintro rfl; simp at hj
  obtain ⟨b', o', he, _, hc⟩ := h.at_ hne
  cases he
  exact hc j x hj
theorem idx_shift (x : ByteArray) : ∀ (l : List ByteArray) (i : Nat), (Lib.idxFromS l x i = -1 ∧ Lib.idxFromS l x (i + 1) = -1) ∨ (0 ≤ Lib.idxFromS l x i ∧ Lib.idxFromS l x (i + 1) = Lib.idxFromS l x i + 1)
  | [], i => .inl ⟨rfl, rfl⟩
  | z :: l, i => by
    unfold Lib.idxFromS
    split
    · exact .inr ⟨by omega, by omega⟩
    · exact idx_shift x l (i + 1)
/-- The place of a word among the operations'. -/
theorem kd_kOf (x : ByteArray) : Lib.idxOfS kdL x + 1 = kOf x := by
  unfold kOf
  have e : Lib.idxOfS opWl x = if (⟨#[]⟩ : ByteArray) = x then 0 else Lib.idxFromS kdL x 1 := rfl
  have h := idx_shift x kdL 0
  have e2 : Lib.idxOfS kdL x = Lib.idxFromS kdL x 0 := rfl
  by_cases hx : (⟨#[]⟩ : ByteArray) = x
  · subst hx
    decide
  · rw [e, if_neg hx]
    rw [Nat.zero_add] at h
    omega
def rX (x : ByteArray) : OpV := rV (kOf (hdW (wordsB 32 x))) (nD (wordsB 32 x) 1 4294967295) (nD (wordsB 32 x) 2 4294967295) (nD (wordsB 32 x) 2 256) (nD (wordsB 32 x) 2 1048576) (nD (wordsB 32 x) 3 1024) (dataR (hdW ((wordsB 32 x).drop 3)))
theorem rV_opValK (k : Int) (ws : List ByteArray) (h : 1 ≤ k) (h5 : k ≠ 5) (h9 : k ≤ 9) : rV k (nD ws 1 4294967295) (nD ws 2 4294967295) (nD ws 2 256) (nD ws 2 1048576) (nD ws 3 1024) (dataR (hdW (ws.drop 3))) = opValK k ws := by
  have h3 : k = 1 ∨ k = 2 ∨ k = 3 ∨ k = 4 ∨ k = 6 ∨ k = 7 ∨ k = 8 ∨ k = 9 := by omega
  rcases h3 with rfl | rfl | rfl | rfl | rfl | rfl | rfl | rfl <;> rfl
/-- The words of a write's text. -/
theorem words_5 (v t s a c : Int) (d : List UInt8) (x : ByteArray) (h : mayOpB 5 v t s a c d.length d = true) (hx : opTextL 5 v t s a c d = x.data.toList) :
    hdW ((wordsB 32 x).drop 3) = ⟨(dataL d).toArray⟩ ∧ 64 ≤ d.length ∧ d.length % 64 = 0 := by
  have E0 : mayOpB 5 v t s a c d.length d = (wVol v && wAt a && wData d.length && (t == 0) && (s == 0) && (c == 0)) := rfl
  rw [E0] at h
  simp only [Bool.and_eq_true, beq_iff_eq, wVol, wTo, wSize, wAt, wCount, wData, decide_eq_true_eq, bne_iff_ne] at h
  have hp : opPieces 5 v t s a c d = [⟨#[119, 114, 105, 116, 101]⟩, ⟨(Lib.decDigits v.toNat).toArray⟩, ⟨(Lib.itoa a).toArray⟩, ⟨(dataL d).toArray⟩] := rfl
  have hw : wordsB 32 x = [⟨#[119, 114, 105, 116, 101]⟩, ⟨(Lib.decDigits v.toNat).toArray⟩, ⟨(Lib.itoa a).toArray⟩, ⟨(dataL d).toArray⟩] := by
    have h1 : cutL 32 x.data.toList = ([⟨#[119, 114, 105, 116, 101]⟩, ⟨(Lib.decDigits v.toNat).toArray⟩, ⟨(Lib.itoa a).toArray⟩, ⟨(dataL d).toArray⟩] : List ByteArray).map (·.data.toList) := by
      rw [← hx, opTextL, hp]
      refine cutL_join 32 _ (by simp) (fun y hy => ?_)
      simp only [List.map_cons, List.map_nil, List.mem_cons, List.mem_nil_iff, or_false] at hy
      rcases hy with rfl | rfl | rfl | rfl
      · decide
      · exact dec_no32 _
      · exact itoa_no32 _ (by omega)
      · exact dataL_no _
    rw [wordsB, h1, List.map_map]
    simp [Function.comp_def]
  rw [hw]
  exact ⟨rfl, by omega, by omega⟩
theorem rX_good (x : ByteArray) (h : goodOp x = true) : rX x = opV x := by
  have h0 := h
  simp only [goodOp, Bool.and_eq_true, beq_iff_eq] at h
  obtain ⟨h1, h2, _, _⟩ := opRound _ x h.1 h.2
  obtain ⟨o, hO⟩ : ∃ o, opV x = o := ⟨_, rfl⟩
  obtain ⟨k, v, t, s, a, c, d⟩ := o
  rw [hO] at h h1 h2
  simp only [OpV.may, OpV.text] at h
  have hk := mayOpB_kind h.1 rfl
  simp only at h1 h2
  unfold rX
  rw [h1]
  by_cases h5 : k = 5
  · subst h5
    obtain ⟨w3, hl, hm⟩ := words_5 v t s a c d x h.1 h.2
    have e5 : opValK 5 (wordsB 32 x) = ⟨5, nD (wordsB 32 x) 1 4294967295, 0, 0, nD (wordsB 32 x) 2 1048576, 0, dD (wordsB 32 x) 3⟩ := rfl
    have f5 : rV 5 (nD (wordsB 32 x) 1 4294967295) (nD (wordsB 32 x) 2 4294967295) (nD (wordsB 32 x) 2 256) (nD (wordsB 32 x) 2 1048576) (nD (wordsB 32 x) 3 1024) (dataR (hdW ((wordsB 32 x).drop 3))) = ⟨5, nD (wordsB 32 x) 1 4294967295, 0, 0, nD (wordsB 32 x) 2 1048576, 0, dataR (hdW ((wordsB 32 x).drop 3))⟩ := rfl
    have hdd : dataR (hdW ((wordsB 32 x).drop 3)) = d := by
      rw [w3, dataR_ok d hl, List.take_of_length_le (by omega)]
    rw [f5, hdd, hO]
    rw [e5] at h2
    cases h2
    rfl
  · rw [rV_opValK k _ hk.1 h5 hk.2.1, h2, hO]
set_option maxHeartbeats 2000000 in
/-- The reference's text of an operation that may be. -/
theorem ropText_any (k v t s a c : Int) (A : Option Addr) (n q : Nat) (d : List UInt8) (w : World) [hk : Tb w] (hm : mayOpB k v t s a c n d = true) (hd : d.length = n) (hq : n ≤ q) (hr : Row bv w A d) :
    Calls Tryz.prog 17 #[.agg #[.int .i64 k, .int .u64 v, .int .u64 t, .int .i64 s, .int .i64 a, .int .i64 c, .slice A n q]] w fun e w' => e = .returned (.string ⟨(opTextL k v t s a c d).toArray⟩) ∧ Gr w w' := by
  subst hd
  have hkk := mayOpB_kind hm rfl
  have h3 : k = 1 ∨ k = 2 ∨ k = 3 ∨ k = 4 ∨ k = 5 ∨ k = 6 ∨ k = 7 ∨ k = 8 ∨ k = 9 := by omega
  rcases h3 with rfl | rfl | rfl | rfl | rfl | rfl | rfl | rfl | rfl
  · simp [mayOpB, wVol, wTo, wSize, wAt, wCount, wData] at hm
    obtain ⟨v, rfl⟩ := Int.eq_ofNat_of_zero_le (show 0 ≤ v by omega)
    obtain rfl : t = 0 := by omega
    obtain ⟨s, rfl⟩ := Int.eq_ofNat_of_zero_le (show 0 ≤ s by omega)
    obtain rfl : a = 0 := by omega
    obtain rfl : c = 0 := by omega
    obtain rfl : d = [] := by simp_all
    exact ropText_1 v s A q w (by omega) (by omega)
  · simp [mayOpB, wVol, wTo, wSize, wAt, wCount, wData] at hm
    obtain ⟨v, rfl⟩ := Int.eq_ofNat_of_zero_le (show 0 ≤ v by omega)
    obtain rfl : t = 0 := by omega
    obtain rfl : s = 0 := by omega
    obtain rfl : a = 0 := by omega
    obtain rfl : c = 0 := by omega
    obtain rfl : d = [] := by simp_all
    exact ropText_2 v A q w (by omega)
  · simp [mayOpB, wVol, wTo, wSize, wAt, wCount, wData] at hm
    obtain ⟨v, rfl⟩ := Int.eq_ofNat_of_zero_le (show 0 ≤ v by omega)
    obtain rfl : t = 0 := by omega
    obtain ⟨s, rfl⟩ := Int.eq_ofNat_of_zero_le (show 0 ≤ s by omega)
    obtain rfl : a = 0 := by omega
    obtain rfl : c = 0 := by omega
    obtain rfl : d = [] := by simp_all
    exact ropText_3 v s A q w (by omega) (by omega)
  · simp [mayOpB, wVol, wTo, wSize, wAt, wCount, wData] at hm
    obtain ⟨v, rfl⟩ := Int.eq_ofNat_of_zero_le (show 0 ≤ v by omega)
    obtain ⟨t, rfl⟩ := Int.eq_ofNat_of_zero_le (show 0 ≤ t by omega)
    obtain rfl : s = 0 := by omega
    obtain rfl : a = 0 := by omega
    obtain rfl : c = 0 := by omega
    obtain rfl : d = [] := by simp_all
    exact ropText_4 v t A q w (by omega) (by omega)
  · simp [mayOpB, wVol, wTo, wSize, wAt, wCount, wData] at hm
    obtain ⟨v, rfl⟩ := Int.eq_ofNat_of_zero_le (show 0 ≤ v by omega)
    obtain rfl : t = 0 := by omega
    obtain rfl : s = 0 := by omega
    obtain ⟨a, rfl⟩ := Int.eq_ofNat_of_zero_le (show 0 ≤ a by omega)
    obtain rfl : c = 0 := by omega
    exact ropText_5 v a A q d w (by omega) (by omega) (by omega) hq hr
  · simp [mayOpB, wVol, wTo, wSize, wAt, wCount, wData] at hm
    obtain ⟨v, rfl⟩ := Int.eq_ofNat_of_zero_le (show 0 ≤ v by omega)
    obtain rfl : t = 0 := by omega
    obtain rfl : s = 0 := by omega
    obtain ⟨a, rfl⟩ := Int.eq_ofNat_of_zero_le (show 0 ≤ a by omega)
    obtain ⟨c, rfl⟩ := Int.eq_ofNat_of_zero_le (show 0 ≤ c by omega)
    obtain rfl : d = [] := by simp_all
    exact ropText_6 v a c A q w (by omega) (by omega) (by omega)
  · simp [mayOpB, wVol, wTo, wSize, wAt, wCount, wData] at hm
    obtain ⟨v, rfl⟩ := Int.eq_ofNat_of_zero_le (show 0 ≤ v by omega)
    obtain rfl : t = 0 := by omega
    obtain rfl : s = 0 := by omega
    obtain ⟨a, rfl⟩ := Int.eq_ofNat_of_zero_le (show 0 ≤ a by omega)
    obtain ⟨c, rfl⟩ := Int.eq_ofNat_of_zero_le (show 0 ≤ c by omega)
    obtain rfl : d = [] := by simp_all
    exact ropText_7 v a c A q w (by omega) (by omega) (by omega)
  · simp [mayOpB, wVol, wTo, wSize, wAt, wCount, wData] at hm
    obtain rfl : v = 0 := by omega
    obtain rfl : t = 0 := by omega
    obtain rfl : s = 0 := by omega
    obtain rfl : a = 0 := by omega
    obtain rfl : c = 0 := by omega
    obtain rfl : d = [] := by simp_all
    exact ropText_8  A q w 
  · simp [mayOpB, wVol, wTo, wSize, wAt, wCount, wData] at hm
    obtain ⟨v, rfl⟩ := Int.eq_ofNat_of_zero_le (show 0 ≤ v by omega)
    obtain rfl : t = 0 := by omega
    obtain rfl : s = 0 := by omega
    obtain ⟨a, rfl⟩ := Int.eq_ofNat_of_zero_le (show 0 ≤ a by omega)
    obtain ⟨c, rfl⟩ := Int.eq_ofNat_of_zero_le (show 0 ≤ c by omega)
    obtain rfl : d = [] := by simp_all
    exact ropText_9 v a c A q w (by omega) (by omega) (by omega)
end Go.Proofs.YtgjdgafoidppaaaGreatDoor
namespace Go.Proofs.YtgjdgafoidppaaaGreatDoor
open Go.RowKit
set_option linter.unusedVariables false
set_option linter.unusedSimpArgs false
set_option linter.unnecessarySimpa false
theorem acts_any (w : World) : Calls Tryz.prog 58 #[] w fun e w' => e = .returned (.slice (some ⟨w.heap.size, 0, none⟩) 10 10) ∧ w' = w.alloc (.cells #[.string ⟨#[97, 115, 107]⟩, .string ⟨#[99, 97, 114, 114, 121]⟩, .string ⟨#[116, 105, 99, 107]⟩, .string ⟨#[111, 102, 102]⟩, .string ⟨#[111, 110]⟩, .string ⟨#[102, 117, 115, 101]⟩, .string ⟨#[108, 101, 97, 100]⟩, .string ⟨#[100, 101, 103, 114, 97, 100, 101]⟩, .string ⟨#[103, 114, 111, 119]⟩, .string ⟨#[97, 108, 108]⟩] 9) := by
  go_enter Tryz.func58, Tryz.ntmps58
  go_wp2
  go_ret
  exact ⟨rfl, rfl⟩
set_option maxRecDepth 100000 in
set_option maxHeartbeats 8000000 in
theorem ractText_1 (nd : Nat) (ok ov ot os oa oc : Int) (on : Nat) (ol : List UInt8) (OD P : Option Addr) (oq pq : Nat) (w : World) [hk : Tb w] (hnd : nd ≤ 1) (B : Bd ov ot os oa oc) (hm : mayOpB ok ov ot os oa oc on ol = true) (hol : ol.length = on) (hoq : on ≤ oq) (hor : Row bv w OD ol) :
    Calls Tryz.prog 24 #[.agg #[.int .i64 1, .int .i64 nd, .int .i64 0, .int .i64 ok, .int .u64 ov, .int .u64 ot, .int .i64 os, .int .i64 oa, .int .i64 oc, .slice OD on oq, .bool false, .slice P 0 pq]] w fun e w' => e = .returned (.string ⟨(actTextL 1 nd 0 ok ov ot os oa oc false ol []).toArray⟩) ∧ Gr w w' := by
  have HTd := Lib.hid (fun W => text26_any nd (by omega) W)
  have ld := dec_len nd (by omega)
  have lo := opTextL_len ok ov ot os oa oc ol B (by have := mayOpB_kind hm hol; omega)
  have HOR := Lib.hid hor; clear hor
  have HTo := Lib.hid (fun W (_ : Tb W) (g : Gr w W) => ropText_any ok ov ot os oa oc OD on oq ol W hm hol hoq (HOR.out.gr g))
  have hk9 := mayOpB_kind hm hol
  clear hm
  go_enter Tryz.func24, Tryz.ntmps24
  go_upto_region 1 with fail
  go_cut [3] (fun u wx => u = .string ⟨#[97, 115, 107]⟩ ∧ Gr w wx ∧ Tb wx ∧ BlockAt wx w.heap.size #[.int .i64 1, .int .i64 nd, .int .i64 0, .int .i64 ok, .int .u64 ov, .int .u64 ot, .int .i64 os, .int .i64 oa, .int .i64 oc, .slice OD on oq, .bool false, .slice P 0 pq] 42)
  case first =>
    go_region_with ((go_at_call 58; refine (acts_any _).mono ?_; rintro e w' ⟨rfl, rfl⟩))
    all_goals
      go_wp2_with fail
      go_meet
      case rel => exact ⟨rfl, gri, inferInstance, inferInstance⟩
  case rest =>
    obtain ⟨rfl, hg, htb, hblk⟩ := hcut
    have x0 : wc.cell? ⟨w.heap.size, 0, none⟩ = some (.int .i64 1) := (block_cells _ _ _ _ _).trans rfl
    have x1 : wc.cell? ⟨w.heap.size, 1, none⟩ = some (.int .i64 nd) := (block_cells _ _ _ _ _).trans rfl
    have x2 : wc.cell? ⟨w.heap.size, 2, none⟩ = some (.int .i64 0) := (block_cells _ _ _ _ _).trans rfl
    have x3 : wc.cell? ⟨w.heap.size, 3, none⟩ = some (.int .i64 ok) := (block_cells _ _ _ _ _).trans rfl
    have x4 : wc.cell? ⟨w.heap.size, 4, none⟩ = some (.int .u64 ov) := (block_cells _ _ _ _ _).trans rfl
    have x5 : wc.cell? ⟨w.heap.size, 5, none⟩ = some (.int .u64 ot) := (block_cells _ _ _ _ _).trans rfl
    have x6 : wc.cell? ⟨w.heap.size, 6, none⟩ = some (.int .i64 os) := (block_cells _ _ _ _ _).trans rfl
    have x7 : wc.cell? ⟨w.heap.size, 7, none⟩ = some (.int .i64 oa) := (block_cells _ _ _ _ _).trans rfl
    have x8 : wc.cell? ⟨w.heap.size, 8, none⟩ = some (.int .i64 oc) := (block_cells _ _ _ _ _).trans rfl
    have x9 : wc.cell? ⟨w.heap.size, 9, none⟩ = some (.slice OD on oq) := (block_cells _ _ _ _ _).trans rfl
    have x10 : wc.cell? ⟨w.heap.size, 10, none⟩ = some (.bool false) := (block_cells _ _ _ _ _).trans rfl
    have x11 : wc.cell? ⟨w.heap.size, 11, none⟩ = some (.slice P 0 pq) := (block_cells _ _ _ _ _).trans rfl
    have HG := Lib.hid hg; clear hg
    haveI : Old w.heap.size wc := hblk.old
    haveI : GrC wc wc := inferInstance
    have HTe := Lib.hid (fun W (_ : Tb W) (hW : GrC wc W) => HTo.out W inferInstance (HG.out.trans (Gr.of hW.b)))
    generalize hS : (⟨(opTextL ok ov ot os oa oc ol).toArray⟩ : ByteArray) = SS at *
    have hss : SS.size ≤ 2000000 := by rw [← hS]; simpa [ByteArray.size] using lo
    have HSS := Lib.hid hS; clear hS lo
    go_wp2_with (first | (go_at_call 47; ((with_reducible refine (HTd.out _).mono ?_); rintro _ _ ⟨rfl, g, rfl⟩)) | (go_at_call 17; ((with_reducible refine (HTe.out _ inferInstance inferInstance).mono ?_); rintro _ _ ⟨rfl, g9, rfl⟩)))
    go_ret
    have e : actPieces 1 nd 0 ok ov ot os oa oc false ol [] = [⟨#[97, 115, 107]⟩, ⟨(Lib.itoa (nd : Int)).toArray⟩, ⟨(opTextL ok ov ot os oa oc ol).toArray⟩] := rfl
    have E : (⟨#[97, 115, 107]⟩ ++ (⟨#[32]⟩ : ByteArray) ++ ⟨(Lib.decDigits nd).toArray⟩ ++ (⟨#[32]⟩ : ByteArray) ++ SS : ByteArray) = ⟨(actTextL 1 nd 0 ok ov ot os oa oc false ol []).toArray⟩ := by
      rw [← HSS.out]
      apply ByteArray.ext
      rw [actTextL, e]
      simp [join_two, join_one, Lib.itoa_nonneg]
    exact ⟨congrArg (fun z => Ending.returned (Value.string z)) E, HG.out.trans gri⟩
set_option maxRecDepth 100000 in
set_option maxHeartbeats 8000000 in
theorem ractText_2 (m : Nat) (OD P : Option Addr) (oq pq : Nat) (w : World) [hk : Tb w] (hmm : m ≤ 1000000) :
    Calls Tryz.prog 24 #[.agg #[.int .i64 2, .int .i64 0, .int .i64 m, .int .i64 0, .int .u64 0, .int .u64 0, .int .i64 0, .int .i64 0, .int .i64 0, .slice OD 0 oq, .bool false, .slice P 0 pq]] w fun e w' => e = .returned (.string ⟨(actTextL 2 0 m 0 0 0 0 0 0 false [] []).toArray⟩) ∧ Gr w w' := by
  have HTn := Lib.hid (fun W => text26_any m (by omega) W)
  have ln := dec_len m (by omega)
  go_enter Tryz.func24, Tryz.ntmps24
  go_upto_region 1 with fail
  go_cut [3] (fun u wx => u = .string ⟨#[99, 97, 114, 114, 121]⟩ ∧ Gr w wx ∧ Tb wx ∧ BlockAt wx w.heap.size #[.int .i64 2, .int .i64 0, .int .i64 m, .int .i64 0, .int .u64 0, .int .u64 0, .int .i64 0, .int .i64 0, .int .i64 0, .slice OD 0 oq, .bool false, .slice P 0 pq] 42)
  case first =>
    go_region_with ((go_at_call 58; refine (acts_any _).mono ?_; rintro e w' ⟨rfl, rfl⟩))
    all_goals
      go_wp2_with fail
      go_meet
      case rel => exact ⟨rfl, gri, inferInstance, inferInstance⟩
  case rest =>
    obtain ⟨rfl, hg, htb, hblk⟩ := hcut
    have x0 : wc.cell? ⟨w.heap.size, 0, none⟩ = some (.int .i64 2) := (block_cells _ _ _ _ _).trans rfl
    have x1 : wc.cell? ⟨w.heap.size, 1, none⟩ = some (.int .i64 0) := (block_cells _ _ _ _ _).trans rfl
    have x2 : wc.cell? ⟨w.heap.size, 2, none⟩ = some (.int .i64 m) := (block_cells _ _ _ _ _).trans rfl
    have x3 : wc.cell? ⟨w.heap.size, 3, none⟩ = some (.int .i64 0) := (block_cells _ _ _ _ _).trans rfl
    have x4 : wc.cell? ⟨w.heap.size, 4, none⟩ = some (.int .u64 0) := (block_cells _ _ _ _ _).trans rfl
    have x5 : wc.cell? ⟨w.heap.size, 5, none⟩ = some (.int .u64 0) := (block_cells _ _ _ _ _).trans rfl
    have x6 : wc.cell? ⟨w.heap.size, 6, none⟩ = some (.int .i64 0) := (block_cells _ _ _ _ _).trans rfl
    have x7 : wc.cell? ⟨w.heap.size, 7, none⟩ = some (.int .i64 0) := (block_cells _ _ _ _ _).trans rfl
    have x8 : wc.cell? ⟨w.heap.size, 8, none⟩ = some (.int .i64 0) := (block_cells _ _ _ _ _).trans rfl
    have x9 : wc.cell? ⟨w.heap.size, 9, none⟩ = some (.slice OD 0 oq) := (block_cells _ _ _ _ _).trans rfl
    have x10 : wc.cell? ⟨w.heap.size, 10, none⟩ = some (.bool false) := (block_cells _ _ _ _ _).trans rfl
    have x11 : wc.cell? ⟨w.heap.size, 11, none⟩ = some (.slice P 0 pq) := (block_cells _ _ _ _ _).trans rfl
    have HG := Lib.hid hg; clear hg
    haveI : Old w.heap.size wc := hblk.old
    haveI : GrC wc wc := inferInstance
    go_wp2_with (first | (go_at_call 47; ((with_reducible refine (HTn.out _).mono ?_); rintro _ _ ⟨rfl, g, rfl⟩)))
    go_ret
    have e : actPieces 2 0 m 0 0 0 0 0 0 false [] [] = [⟨#[99, 97, 114, 114, 121]⟩, ⟨(Lib.itoa (m : Int)).toArray⟩] := rfl
    have E : (⟨#[99, 97, 114, 114, 121]⟩ ++ (⟨#[32]⟩ : ByteArray) ++ ⟨(Lib.decDigits m).toArray⟩ : ByteArray) = ⟨(actTextL 2 0 m 0 0 0 0 0 0 false [] []).toArray⟩ := by
      skip
      apply ByteArray.ext
      rw [actTextL, e]
      simp [join_two, join_one, Lib.itoa_nonneg]
    exact ⟨congrArg (fun z => Ending.returned (Value.string z)) E, HG.out.trans gri⟩
set_option maxRecDepth 100000 in
set_option maxHeartbeats 8000000 in
theorem ractText_3 (nd : Nat) (OD P : Option Addr) (oq pq : Nat) (w : World) [hk : Tb w] (hnd : nd ≤ 1) :
    Calls Tryz.prog 24 #[.agg #[.int .i64 3, .int .i64 nd, .int .i64 0, .int .i64 0, .int .u64 0, .int .u64 0, .int .i64 0, .int .i64 0, .int .i64 0, .slice OD 0 oq, .bool false, .slice P 0 pq]] w fun e w' => e = .returned (.string ⟨(actTextL 3 nd 0 0 0 0 0 0 0 false [] []).toArray⟩) ∧ Gr w w' := by
  have HTd := Lib.hid (fun W => text26_any nd (by omega) W)
  have ld := dec_len nd (by omega)
  go_enter Tryz.func24, Tryz.ntmps24
  go_upto_region 1 with fail
  go_cut [3] (fun u wx => u = .string ⟨#[116, 105, 99, 107]⟩ ∧ Gr w wx ∧ Tb wx ∧ BlockAt wx w.heap.size #[.int .i64 3, .int .i64 nd, .int .i64 0, .int .i64 0, .int .u64 0, .int .u64 0, .int .i64 0, .int .i64 0, .int .i64 0, .slice OD 0 oq, .bool false, .slice P 0 pq] 42)
  case first =>
    go_region_with ((go_at_call 58; refine (acts_any _).mono ?_; rintro e w' ⟨rfl, rfl⟩))
    all_goals
      go_wp2_with fail
      go_meet
      case rel => exact ⟨rfl, gri, inferInstance, inferInstance⟩
  case rest =>
    obtain ⟨rfl, hg, htb, hblk⟩ := hcut
    have x0 : wc.cell? ⟨w.heap.size, 0, none⟩ = some (.int .i64 3) := (block_cells _ _ _ _ _).trans rfl
    have x1 : wc.cell? ⟨w.heap.size, 1, none⟩ = some (.int .i64 nd) := (block_cells _ _ _ _ _).trans rfl
    have x2 : wc.cell? ⟨w.heap.size, 2, none⟩ = some (.int .i64 0) := (block_cells _ _ _ _ _).trans rfl
    have x3 : wc.cell? ⟨w.heap.size, 3, none⟩ = some (.int .i64 0) := (block_cells _ _ _ _ _).trans rfl
    have x4 : wc.cell? ⟨w.heap.size, 4, none⟩ = some (.int .u64 0) := (block_cells _ _ _ _ _).trans rfl
    have x5 : wc.cell? ⟨w.heap.size, 5, none⟩ = some (.int .u64 0) := (block_cells _ _ _ _ _).trans rfl
    have x6 : wc.cell? ⟨w.heap.size, 6, none⟩ = some (.int .i64 0) := (block_cells _ _ _ _ _).trans rfl
    have x7 : wc.cell? ⟨w.heap.size, 7, none⟩ = some (.int .i64 0) := (block_cells _ _ _ _ _).trans rfl
    have x8 : wc.cell? ⟨w.heap.size, 8, none⟩ = some (.int .i64 0) := (block_cells _ _ _ _ _).trans rfl
    have x9 : wc.cell? ⟨w.heap.size, 9, none⟩ = some (.slice OD 0 oq) := (block_cells _ _ _ _ _).trans rfl
    have x10 : wc.cell? ⟨w.heap.size, 10, none⟩ = some (.bool false) := (block_cells _ _ _ _ _).trans rfl
    have x11 : wc.cell? ⟨w.heap.size, 11, none⟩ = some (.slice P 0 pq) := (block_cells _ _ _ _ _).trans rfl
    have HG := Lib.hid hg; clear hg
    haveI : Old w.heap.size wc := hblk.old
    haveI : GrC wc wc := inferInstance
    go_wp2_with (first | (go_at_call 47; ((with_reducible refine (HTd.out _).mono ?_); rintro _ _ ⟨rfl, g, rfl⟩)))
    go_ret
    have e : actPieces 3 nd 0 0 0 0 0 0 0 false [] [] = [⟨#[116, 105, 99, 107]⟩, ⟨(Lib.itoa (nd : Int)).toArray⟩] := rfl
    have E : (⟨#[116, 105, 99, 107]⟩ ++ (⟨#[32]⟩ : ByteArray) ++ ⟨(Lib.decDigits nd).toArray⟩ : ByteArray) = ⟨(actTextL 3 nd 0 0 0 0 0 0 0 false [] []).toArray⟩ := by
      skip
      apply ByteArray.ext
      rw [actTextL, e]
      simp [join_two, join_one, Lib.itoa_nonneg]
    exact ⟨congrArg (fun z => Ending.returned (Value.string z)) E, HG.out.trans gri⟩
set_option maxRecDepth 100000 in
set_option maxHeartbeats 8000000 in
theorem ractText_4 (nd : Nat) (pn : Nat) (px : List Int) (OD P : Option Addr) (oq pq : Nat) (w : World) [hk : Tb w] (hnd : nd ≤ 1) (hpl : px.length = pn) (hpn : pn ≤ 100) (hpk : ∀ n ∈ px, 0 ≤ n ∧ n ≤ 1000000) (hpr : Row (Value.int .i64) w P px) :
    Calls Tryz.prog 24 #[.agg #[.int .i64 4, .int .i64 nd, .int .i64 0, .int .i64 0, .int .u64 0, .int .u64 0, .int .i64 0, .int .i64 0, .int .i64 0, .slice OD 0 oq, .bool false, .slice P pn pq]] w fun e w' => e = .returned (.string ⟨(actTextL 4 nd 0 0 0 0 0 0 0 false [] px).toArray⟩) ∧ Gr w w' := by
  have HTd := Lib.hid (fun W => text26_any nd (by omega) W)
  have ld := dec_len nd (by omega)
  have hPk : Pk px := ⟨fun n hn => by have := hpk n hn; omega, fun n hn => by have := hpk n hn; omega⟩
  have lp := hPk.row (by omega)
  have lj := hPk.join (by omega)
  have HPK := Lib.hid hpk; have HPR := Lib.hid hpr; have HPL := Lib.hid hpl; have HLJ := Lib.hid lj; clear hpk hpr hpl lj hPk
  go_enter Tryz.func24, Tryz.ntmps24
  go_upto_region 1 with fail
  go_cut [3] (fun u wx => u = .string ⟨#[111, 102, 102]⟩ ∧ Gr w wx ∧ Tb wx ∧ BlockAt wx w.heap.size #[.int .i64 4, .int .i64 nd, .int .i64 0, .int .i64 0, .int .u64 0, .int .u64 0, .int .i64 0, .int .i64 0, .int .i64 0, .slice OD 0 oq, .bool false, .slice P pn pq] 42)
  case first =>
    go_region_with ((go_at_call 58; refine (acts_any _).mono ?_; rintro e w' ⟨rfl, rfl⟩))
    all_goals
      go_wp2_with fail
      go_meet
      case rel => exact ⟨rfl, gri, inferInstance, inferInstance⟩
  case rest =>
    obtain ⟨rfl, hg, htb, hblk⟩ := hcut
    have x0 : wc.cell? ⟨w.heap.size, 0, none⟩ = some (.int .i64 4) := (block_cells _ _ _ _ _).trans rfl
    have x1 : wc.cell? ⟨w.heap.size, 1, none⟩ = some (.int .i64 nd) := (block_cells _ _ _ _ _).trans rfl
    have x2 : wc.cell? ⟨w.heap.size, 2, none⟩ = some (.int .i64 0) := (block_cells _ _ _ _ _).trans rfl
    have x3 : wc.cell? ⟨w.heap.size, 3, none⟩ = some (.int .i64 0) := (block_cells _ _ _ _ _).trans rfl
    have x4 : wc.cell? ⟨w.heap.size, 4, none⟩ = some (.int .u64 0) := (block_cells _ _ _ _ _).trans rfl
    have x5 : wc.cell? ⟨w.heap.size, 5, none⟩ = some (.int .u64 0) := (block_cells _ _ _ _ _).trans rfl
    have x6 : wc.cell? ⟨w.heap.size, 6, none⟩ = some (.int .i64 0) := (block_cells _ _ _ _ _).trans rfl
    have x7 : wc.cell? ⟨w.heap.size, 7, none⟩ = some (.int .i64 0) := (block_cells _ _ _ _ _).trans rfl
    have x8 : wc.cell? ⟨w.heap.size, 8, none⟩ = some (.int .i64 0) := (block_cells _ _ _ _ _).trans rfl
    have x9 : wc.cell? ⟨w.heap.size, 9, none⟩ = some (.slice OD 0 oq) := (block_cells _ _ _ _ _).trans rfl
    have x10 : wc.cell? ⟨w.heap.size, 10, none⟩ = some (.bool false) := (block_cells _ _ _ _ _).trans rfl
    have x11 : wc.cell? ⟨w.heap.size, 11, none⟩ = some (.slice P pn pq) := (block_cells _ _ _ _ _).trans rfl
    have HG := Lib.hid hg; clear hg
    haveI : Old w.heap.size wc := hblk.old
    haveI : GrC wc wc := inferInstance
    go_wp2_with (first | (go_at_call 47; ((with_reducible refine (HTd.out _).mono ?_); rintro _ _ ⟨rfl, g, rfl⟩)))
    go_loopw [4, 5] (fun v iv wr => ∃ j : Nat, iv = .int .i64 j ∧ j ≤ pn ∧ OwnS (w.heap.size + 1) wr v (pickT (px.take j)) ∧ Gr w wr ∧ wr.cell? ⟨w.heap.size, 11, none⟩ = some (.slice P pn pq) ∧ Tb wr) (fun _ iv _ => pn - (intOf iv).toNat)
    case atStart => exact ⟨0, rfl, Nat.zero_le _, OwnS.nil _ _, HG.out.trans gri, by go_simp, inferInstance⟩
    case round =>
      obtain ⟨j, rfl, hj, hown, hg, c11, htb9⟩ := hrel
      have HG2 := Lib.hid hg; clear hg
      haveI : Old w.heap.size wr := old_of_cell c11
      haveI : GrC w wr := ⟨HG2.out.below⟩
      have hsz9 : w.heap.size + 1 ≤ wr.heap.size := (inferInstance : Old w.heap.size wr).lt
      by_cases hlt : j < pn
      · have hjx : j < px.length := by have := HPL.out; omega
        obtain ⟨bx, ox, rfl, hbx, hcx⟩ := (HPR.out.gr HG2.out).at_ (by rintro rfl; simp at hjx)
        have hgj := List.getElem?_eq_getElem hjx
        have ex := hcx j px[j] hgj
        have hu := HPK.out px[j] (List.getElem_mem hjx)
        haveI : Old bx wr := ⟨hbx⟩
        have hjl : (j : Int) < (pn : Int) := by omega
        clear hcx hbx
        generalize px[j] = u at *
        obtain ⟨n, rfl⟩ := Int.eq_ofNat_of_zero_le hu.1
        have hsn := pickT_snoc px j (n : Int) hgj
        rw [Lib.itoa_nonneg] at hsn
        have HSN := Lib.hid hsn; clear hsn hgj
        have HTp := Lib.hid (fun W => text26_any n (by omega) W)
        have hpl9 : (pickT (px.take j)).length ≤ 1000 := by simp [pickT]; omega
        have HP9 := Lib.hid hpl9; have HOW := Lib.hid hown; clear hpl9 hown hu
        go_wp2_with (first | (go_at_call 47; ((with_reducible refine (HTp.out _).mono ?_); rintro _ _ ⟨rfl, g3, rfl⟩)) | (at_builtin; refine wp_append_str rfl _ _ rfl (w.heap.size + 1) ?vvp (pickT (px.take j)) ?hsp ?ownp _ ⟨(Lib.decDigits n).toArray⟩ rfl ?hcp HP9.out ?hbp ?_))
        case hsp => rfl
        case ownp => exact ((HOW.out.grown_ _).alloc_ _)
        case hcp => simp [go_sem]
        case hbp => exact Nat.le_trans hsz9 (gri (a := wr)).below.size
        intro v5 w5 a5
        have h5 := a5.own
        rw [← HSN.out] at h5
        have c5 : w5.cell? ⟨w.heap.size, 11, none⟩ = some (.slice (some ⟨bx, ox, none⟩) pn pq) := a5.cell (Nat.lt_succ_self _) (by go_simp)
        have hb5 : Below w.heap.size w w5 := a5.chain (a := w) (gri (a := w)).below (Nat.le_succ _)
        haveI : Tb w5 := hk.of_below hb5
        have H5 := Lib.hid h5; have HB5 := Lib.hid hb5
        clear a5 h5 hb5
        go_wp2
        go_roundw
        case rel => exact ⟨j + 1, by go_num, by omega, H5.out, Gr.of HB5.out, c5, inferInstance⟩
        case measure => simp [intOf]; omega
      · obtain rfl : j = pn := by omega
        have htk : px.take j = px := List.take_of_length_le (by have := HPL.out; omega)
        rw [htk] at hown
        obtain ⟨Al, cl, rfl, hcl, hrl⟩ := hown.form
        have HRL := Lib.hid hrl; clear hrl hown htk
        have hpl9 : (pickT px).length ≤ 1000000 := by have := HPL.out; simp [pickT]; omega
        have HRW := Lib.hid (fun W (hW : GrC wr W) => rrow_any Al (pickT px).length cl (pickT px) W rfl hcl hpl9 (by have := HLJ.out; omega) (HRL.out.gr (Gr.of hW.b)))
        clear hcl hpl9
        generalize hS : (⟨(rowL (pickT px)).toArray⟩ : ByteArray) = SS at *
        have hss : SS.size ≤ 2000000 := by rw [← hS]; have h9 : (⟨(rowL (pickT px)).toArray⟩ : ByteArray).size = (rowL (pickT px)).length := by simp [ByteArray.size]
                                           omega
        have HSS := Lib.hid hS; clear hS
        generalize (pickT px).length = nl at *
        go_wp2_with ((go_at_call 63; ((with_reducible refine (HRW.out _ inferInstance).mono ?_); rintro _ _ ⟨rfl, g7, rfl⟩)))
        go_ret
        have e : actPieces 4 nd 0 0 0 0 0 0 0 false [] px = [⟨#[111, 102, 102]⟩, ⟨(Lib.itoa (nd : Int)).toArray⟩, ⟨(rowL (pickT px)).toArray⟩] := rfl
        have E : (⟨#[111, 102, 102]⟩ ++ (⟨#[32]⟩ : ByteArray) ++ ⟨(Lib.decDigits nd).toArray⟩ ++ (⟨#[32]⟩ : ByteArray) ++ SS : ByteArray) = ⟨(actTextL 4 nd 0 0 0 0 0 0 0 false [] px).toArray⟩ := by
          rw [← HSS.out]
          apply ByteArray.ext
          rw [actTextL, e]
          simp [join_two, join_one, Lib.itoa_nonneg]
        exact ⟨congrArg (fun z => Ending.returned (Value.string z)) E, gri⟩
set_option maxRecDepth 100000 in
set_option maxHeartbeats 8000000 in
theorem ractText_5 (nd : Nat) (pn : Nat) (px : List Int) (OD P : Option Addr) (oq pq : Nat) (w : World) [hk : Tb w] (hnd : nd ≤ 1) (hpl : px.length = pn) (hpn : pn ≤ 100) (hpk : ∀ n ∈ px, 0 ≤ n ∧ n ≤ 1000000) (hpr : Row (Value.int .i64) w P px) :
    Calls Tryz.prog 24 #[.agg #[.int .i64 5, .int .i64 nd, .int .i64 0, .int .i64 0, .int .u64 0, .int .u64 0, .int .i64 0, .int .i64 0, .int .i64 0, .slice OD 0 oq, .bool false, .slice P pn pq]] w fun e w' => e = .returned (.string ⟨(actTextL 5 nd 0 0 0 0 0 0 0 false [] px).toArray⟩) ∧ Gr w w' := by
  have HTd := Lib.hid (fun W => text26_any nd (by omega) W)
  have ld := dec_len nd (by omega)
  have hPk : Pk px := ⟨fun n hn => by have := hpk n hn; omega, fun n hn => by have := hpk n hn; omega⟩
  have lp := hPk.row (by omega)
  have lj := hPk.join (by omega)
  have HPK := Lib.hid hpk; have HPR := Lib.hid hpr; have HPL := Lib.hid hpl; have HLJ := Lib.hid lj; clear hpk hpr hpl lj hPk
  go_enter Tryz.func24, Tryz.ntmps24
  go_upto_region 1 with fail
  go_cut [3] (fun u wx => u = .string ⟨#[111, 110]⟩ ∧ Gr w wx ∧ Tb wx ∧ BlockAt wx w.heap.size #[.int .i64 5, .int .i64 nd, .int .i64 0, .int .i64 0, .int .u64 0, .int .u64 0, .int .i64 0, .int .i64 0, .int .i64 0, .slice OD 0 oq, .bool false, .slice P pn pq] 42)
  case first =>
    go_region_with ((go_at_call 58; refine (acts_any _).mono ?_; rintro e w' ⟨rfl, rfl⟩))
    all_goals
      go_wp2_with fail
      go_meet
      case rel => exact ⟨rfl, gri, inferInstance, inferInstance⟩
  case rest =>
    obtain ⟨rfl, hg, htb, hblk⟩ := hcut
    have x0 : wc.cell? ⟨w.heap.size, 0, none⟩ = some (.int .i64 5) := (block_cells _ _ _ _ _).trans rfl
    have x1 : wc.cell? ⟨w.heap.size, 1, none⟩ = some (.int .i64 nd) := (block_cells _ _ _ _ _).trans rfl
    have x2 : wc.cell? ⟨w.heap.size, 2, none⟩ = some (.int .i64 0) := (block_cells _ _ _ _ _).trans rfl
    have x3 : wc.cell? ⟨w.heap.size, 3, none⟩ = some (.int .i64 0) := (block_cells _ _ _ _ _).trans rfl
    have x4 : wc.cell? ⟨w.heap.size, 4, none⟩ = some (.int .u64 0) := (block_cells _ _ _ _ _).trans rfl
    have x5 : wc.cell? ⟨w.heap.size, 5, none⟩ = some (.int .u64 0) := (block_cells _ _ _ _ _).trans rfl
    have x6 : wc.cell? ⟨w.heap.size, 6, none⟩ = some (.int .i64 0) := (block_cells _ _ _ _ _).trans rfl
    have x7 : wc.cell? ⟨w.heap.size, 7, none⟩ = some (.int .i64 0) := (block_cells _ _ _ _ _).trans rfl
    have x8 : wc.cell? ⟨w.heap.size, 8, none⟩ = some (.int .i64 0) := (block_cells _ _ _ _ _).trans rfl
    have x9 : wc.cell? ⟨w.heap.size, 9, none⟩ = some (.slice OD 0 oq) := (block_cells _ _ _ _ _).trans rfl
    have x10 : wc.cell? ⟨w.heap.size, 10, none⟩ = some (.bool false) := (block_cells _ _ _ _ _).trans rfl
    have x11 : wc.cell? ⟨w.heap.size, 11, none⟩ = some (.slice P pn pq) := (block_cells _ _ _ _ _).trans rfl
    have HG := Lib.hid hg; clear hg
    haveI : Old w.heap.size wc := hblk.old
    haveI : GrC wc wc := inferInstance
    go_wp2_with (first | (go_at_call 47; ((with_reducible refine (HTd.out _).mono ?_); rintro _ _ ⟨rfl, g, rfl⟩)))
    go_loopw [4, 5] (fun v iv wr => ∃ j : Nat, iv = .int .i64 j ∧ j ≤ pn ∧ OwnS (w.heap.size + 1) wr v (pickT (px.take j)) ∧ Gr w wr ∧ wr.cell? ⟨w.heap.size, 11, none⟩ = some (.slice P pn pq) ∧ Tb wr) (fun _ iv _ => pn - (intOf iv).toNat)
    case atStart => exact ⟨0, rfl, Nat.zero_le _, OwnS.nil _ _, HG.out.trans gri, by go_simp, inferInstance⟩
    case round =>
      obtain ⟨j, rfl, hj, hown, hg, c11, htb9⟩ := hrel
      have HG2 := Lib.hid hg; clear hg
      haveI : Old w.heap.size wr := old_of_cell c11
      haveI : GrC w wr := ⟨HG2.out.below⟩
      have hsz9 : w.heap.size + 1 ≤ wr.heap.size := (inferInstance : Old w.heap.size wr).lt
      by_cases hlt : j < pn
      · have hjx : j < px.length := by have := HPL.out; omega
        obtain ⟨bx, ox, rfl, hbx, hcx⟩ := (HPR.out.gr HG2.out).at_ (by rintro rfl; simp at hjx)
        have hgj := List.getElem?_eq_getElem hjx
        have ex := hcx j px[j] hgj
        have hu := HPK.out px[j] (List.getElem_mem hjx)
        haveI : Old bx wr := ⟨hbx⟩
        have hjl : (j : Int) < (pn : Int) := by omega
        clear hcx hbx
        generalize px[j] = u at *
        obtain ⟨n, rfl⟩ := Int.eq_ofNat_of_zero_le hu.1
        have hsn := pickT_snoc px j (n : Int) hgj
        rw [Lib.itoa_nonneg] at hsn
        have HSN := Lib.hid hsn; clear hsn hgj
        have HTp := Lib.hid (fun W => text26_any n (by omega) W)
        have hpl9 : (pickT (px.take j)).length ≤ 1000 := by simp [pickT]; omega
        have HP9 := Lib.hid hpl9; have HOW := Lib.hid hown; clear hpl9 hown hu
        go_wp2_with (first | (go_at_call 47; ((with_reducible refine (HTp.out _).mono ?_); rintro _ _ ⟨rfl, g3, rfl⟩)) | (at_builtin; refine wp_append_str rfl _ _ rfl (w.heap.size + 1) ?vvp (pickT (px.take j)) ?hsp ?ownp _ ⟨(Lib.decDigits n).toArray⟩ rfl ?hcp HP9.out ?hbp ?_))
        case hsp => rfl
        case ownp => exact ((HOW.out.grown_ _).alloc_ _)
        case hcp => simp [go_sem]
        case hbp => exact Nat.le_trans hsz9 (gri (a := wr)).below.size
        intro v5 w5 a5
        have h5 := a5.own
        rw [← HSN.out] at h5
        have c5 : w5.cell? ⟨w.heap.size, 11, none⟩ = some (.slice (some ⟨bx, ox, none⟩) pn pq) := a5.cell (Nat.lt_succ_self _) (by go_simp)
        have hb5 : Below w.heap.size w w5 := a5.chain (a := w) (gri (a := w)).below (Nat.le_succ _)
        haveI : Tb w5 := hk.of_below hb5
        have H5 := Lib.hid h5; have HB5 := Lib.hid hb5
        clear a5 h5 hb5
        go_wp2
        go_roundw
        case rel => exact ⟨j + 1, by go_num, by omega, H5.out, Gr.of HB5.out, c5, inferInstance⟩
        case measure => simp [intOf]; omega
      · obtain rfl : j = pn := by omega
        have htk : px.take j = px := List.take_of_length_le (by have := HPL.out; omega)
        rw [htk] at hown
        obtain ⟨Al, cl, rfl, hcl, hrl⟩ := hown.form
        have HRL := Lib.hid hrl; clear hrl hown htk
        have hpl9 : (pickT px).length ≤ 1000000 := by have := HPL.out; simp [pickT]; omega
        have HRW := Lib.hid (fun W (hW : GrC wr W) => rrow_any Al (pickT px).length cl (pickT px) W rfl hcl hpl9 (by have := HLJ.out; omega) (HRL.out.gr (Gr.of hW.b)))
        clear hcl hpl9
        generalize hS : (⟨(rowL (pickT px)).toArray⟩ : ByteArray) = SS at *
        have hss : SS.size ≤ 2000000 := by rw [← hS]; have h9 : (⟨(rowL (pickT px)).toArray⟩ : ByteArray).size = (rowL (pickT px)).length := by simp [ByteArray.size]
                                           omega
        have HSS := Lib.hid hS; clear hS
        generalize (pickT px).length = nl at *
        go_wp2_with ((go_at_call 63; ((with_reducible refine (HRW.out _ inferInstance).mono ?_); rintro _ _ ⟨rfl, g7, rfl⟩)))
        go_ret
        have e : actPieces 5 nd 0 0 0 0 0 0 0 false [] px = [⟨#[111, 110]⟩, ⟨(Lib.itoa (nd : Int)).toArray⟩, ⟨(rowL (pickT px)).toArray⟩] := rfl
        have E : (⟨#[111, 110]⟩ ++ (⟨#[32]⟩ : ByteArray) ++ ⟨(Lib.decDigits nd).toArray⟩ ++ (⟨#[32]⟩ : ByteArray) ++ SS : ByteArray) = ⟨(actTextL 5 nd 0 0 0 0 0 0 0 false [] px).toArray⟩ := by
          rw [← HSS.out]
          apply ByteArray.ext
          rw [actTextL, e]
          simp [join_two, join_one, Lib.itoa_nonneg]
        exact ⟨congrArg (fun z => Ending.returned (Value.string z)) E, gri⟩
set_option maxRecDepth 100000 in
set_option maxHeartbeats 8000000 in
theorem ractText_6 (nd m : Nat) (OD P : Option Addr) (oq pq : Nat) (w : World) [hk : Tb w] (hnd : nd ≤ 1) (hmm : m ≤ 1000000) :
    Calls Tryz.prog 24 #[.agg #[.int .i64 6, .int .i64 nd, .int .i64 m, .int .i64 0, .int .u64 0, .int .u64 0, .int .i64 0, .int .i64 0, .int .i64 0, .slice OD 0 oq, .bool false, .slice P 0 pq]] w fun e w' => e = .returned (.string ⟨(actTextL 6 nd m 0 0 0 0 0 0 false [] []).toArray⟩) ∧ Gr w w' := by
  have HTd := Lib.hid (fun W => text26_any nd (by omega) W)
  have ld := dec_len nd (by omega)
  have HTn := Lib.hid (fun W => text26_any m (by omega) W)
  have ln := dec_len m (by omega)
  go_enter Tryz.func24, Tryz.ntmps24
  go_upto_region 1 with fail
  go_cut [3] (fun u wx => u = .string ⟨#[102, 117, 115, 101]⟩ ∧ Gr w wx ∧ Tb wx ∧ BlockAt wx w.heap.size #[.int .i64 6, .int .i64 nd, .int .i64 m, .int .i64 0, .int .u64 0, .int .u64 0, .int .i64 0, .int .i64 0, .int .i64 0, .slice OD 0 oq, .bool false, .slice P 0 pq] 42)
  case first =>
    go_region_with ((go_at_call 58; refine (acts_any _).mono ?_; rintro e w' ⟨rfl, rfl⟩))
    all_goals
      go_wp2_with fail
      go_meet
      case rel => exact ⟨rfl, gri, inferInstance, inferInstance⟩
  case rest =>
    obtain ⟨rfl, hg, htb, hblk⟩ := hcut
    have x0 : wc.cell? ⟨w.heap.size, 0, none⟩ = some (.int .i64 6) := (block_cells _ _ _ _ _).trans rfl
    have x1 : wc.cell? ⟨w.heap.size, 1, none⟩ = some (.int .i64 nd) := (block_cells _ _ _ _ _).trans rfl
    have x2 : wc.cell? ⟨w.heap.size, 2, none⟩ = some (.int .i64 m) := (block_cells _ _ _ _ _).trans rfl
    have x3 : wc.cell? ⟨w.heap.size, 3, none⟩ = some (.int .i64 0) := (block_cells _ _ _ _ _).trans rfl
    have x4 : wc.cell? ⟨w.heap.size, 4, none⟩ = some (.int .u64 0) := (block_cells _ _ _ _ _).trans rfl
    have x5 : wc.cell? ⟨w.heap.size, 5, none⟩ = some (.int .u64 0) := (block_cells _ _ _ _ _).trans rfl
    have x6 : wc.cell? ⟨w.heap.size, 6, none⟩ = some (.int .i64 0) := (block_cells _ _ _ _ _).trans rfl
    have x7 : wc.cell? ⟨w.heap.size, 7, none⟩ = some (.int .i64 0) := (block_cells _ _ _ _ _).trans rfl
    have x8 : wc.cell? ⟨w.heap.size, 8, none⟩ = some (.int .i64 0) := (block_cells _ _ _ _ _).trans rfl
    have x9 : wc.cell? ⟨w.heap.size, 9, none⟩ = some (.slice OD 0 oq) := (block_cells _ _ _ _ _).trans rfl
    have x10 : wc.cell? ⟨w.heap.size, 10, none⟩ = some (.bool false) := (block_cells _ _ _ _ _).trans rfl
    have x11 : wc.cell? ⟨w.heap.size, 11, none⟩ = some (.slice P 0 pq) := (block_cells _ _ _ _ _).trans rfl
    have HG := Lib.hid hg; clear hg
    haveI : Old w.heap.size wc := hblk.old
    haveI : GrC wc wc := inferInstance
    go_wp2_with (first | (go_at_call 47; ((with_reducible refine (HTd.out _).mono ?_); rintro _ _ ⟨rfl, g, rfl⟩)) | (go_at_call 47; ((with_reducible refine (HTn.out _).mono ?_); rintro _ _ ⟨rfl, g, rfl⟩)))
    go_ret
    have e : actPieces 6 nd m 0 0 0 0 0 0 false [] [] = [⟨#[102, 117, 115, 101]⟩, ⟨(Lib.itoa (nd : Int)).toArray⟩, ⟨(Lib.itoa (m : Int)).toArray⟩] := rfl
    have E : (⟨#[102, 117, 115, 101]⟩ ++ (⟨#[32]⟩ : ByteArray) ++ ⟨(Lib.decDigits nd).toArray⟩ ++ (⟨#[32]⟩ : ByteArray) ++ ⟨(Lib.decDigits m).toArray⟩ : ByteArray) = ⟨(actTextL 6 nd m 0 0 0 0 0 0 false [] []).toArray⟩ := by
      skip
      apply ByteArray.ext
      rw [actTextL, e]
      simp [join_two, join_one, Lib.itoa_nonneg]
    exact ⟨congrArg (fun z => Ending.returned (Value.string z)) E, HG.out.trans gri⟩
set_option maxRecDepth 100000 in
set_option maxHeartbeats 8000000 in
theorem ractText_7 (nd : Nat) (OD P : Option Addr) (oq pq : Nat) (w : World) [hk : Tb w] (hnd : nd ≤ 1) :
    Calls Tryz.prog 24 #[.agg #[.int .i64 7, .int .i64 nd, .int .i64 0, .int .i64 0, .int .u64 0, .int .u64 0, .int .i64 0, .int .i64 0, .int .i64 0, .slice OD 0 oq, .bool false, .slice P 0 pq]] w fun e w' => e = .returned (.string ⟨(actTextL 7 nd 0 0 0 0 0 0 0 false [] []).toArray⟩) ∧ Gr w w' := by
  have HTd := Lib.hid (fun W => text26_any nd (by omega) W)
  have ld := dec_len nd (by omega)
  go_enter Tryz.func24, Tryz.ntmps24
  go_upto_region 1 with fail
  go_cut [3] (fun u wx => u = .string ⟨#[108, 101, 97, 100]⟩ ∧ Gr w wx ∧ Tb wx ∧ BlockAt wx w.heap.size #[.int .i64 7, .int .i64 nd, .int .i64 0, .int .i64 0, .int .u64 0, .int .u64 0, .int .i64 0, .int .i64 0, .int .i64 0, .slice OD 0 oq, .bool false, .slice P 0 pq] 42)
  case first =>
    go_region_with ((go_at_call 58; refine (acts_any _).mono ?_; rintro e w' ⟨rfl, rfl⟩))
    all_goals
      go_wp2_with fail
      go_meet
      case rel => exact ⟨rfl, gri, inferInstance, inferInstance⟩
  case rest =>
    obtain ⟨rfl, hg, htb, hblk⟩ := hcut
    have x0 : wc.cell? ⟨w.heap.size, 0, none⟩ = some (.int .i64 7) := (block_cells _ _ _ _ _).trans rfl
    have x1 : wc.cell? ⟨w.heap.size, 1, none⟩ = some (.int .i64 nd) := (block_cells _ _ _ _ _).trans rfl
    have x2 : wc.cell? ⟨w.heap.size, 2, none⟩ = some (.int .i64 0) := (block_cells _ _ _ _ _).trans rfl
    have x3 : wc.cell? ⟨w.heap.size, 3, none⟩ = some (.int .i64 0) := (block_cells _ _ _ _ _).trans rfl
    have x4 : wc.cell? ⟨w.heap.size, 4, none⟩ = some (.int .u64 0) := (block_cells _ _ _ _ _).trans rfl
    have x5 : wc.cell? ⟨w.heap.size, 5, none⟩ = some (.int .u64 0) := (block_cells _ _ _ _ _).trans rfl
    have x6 : wc.cell? ⟨w.heap.size, 6, none⟩ = some (.int .i64 0) := (block_cells _ _ _ _ _).trans rfl
    have x7 : wc.cell? ⟨w.heap.size, 7, none⟩ = some (.int .i64 0) := (block_cells _ _ _ _ _).trans rfl
    have x8 : wc.cell? ⟨w.heap.size, 8, none⟩ = some (.int .i64 0) := (block_cells _ _ _ _ _).trans rfl
    have x9 : wc.cell? ⟨w.heap.size, 9, none⟩ = some (.slice OD 0 oq) := (block_cells _ _ _ _ _).trans rfl
    have x10 : wc.cell? ⟨w.heap.size, 10, none⟩ = some (.bool false) := (block_cells _ _ _ _ _).trans rfl
    have x11 : wc.cell? ⟨w.heap.size, 11, none⟩ = some (.slice P 0 pq) := (block_cells _ _ _ _ _).trans rfl
    have HG := Lib.hid hg; clear hg
    haveI : Old w.heap.size wc := hblk.old
    haveI : GrC wc wc := inferInstance
    go_wp2_with (first | (go_at_call 47; ((with_reducible refine (HTd.out _).mono ?_); rintro _ _ ⟨rfl, g, rfl⟩)))
    go_ret
    have e : actPieces 7 nd 0 0 0 0 0 0 0 false [] [] = [⟨#[108, 101, 97, 100]⟩, ⟨(Lib.itoa (nd : Int)).toArray⟩] := rfl
    have E : (⟨#[108, 101, 97, 100]⟩ ++ (⟨#[32]⟩ : ByteArray) ++ ⟨(Lib.decDigits nd).toArray⟩ : ByteArray) = ⟨(actTextL 7 nd 0 0 0 0 0 0 0 false [] []).toArray⟩ := by
      skip
      apply ByteArray.ext
      rw [actTextL, e]
      simp [join_two, join_one, Lib.itoa_nonneg]
    exact ⟨congrArg (fun z => Ending.returned (Value.string z)) E, HG.out.trans gri⟩
set_option maxRecDepth 100000 in
set_option maxHeartbeats 8000000 in
theorem ractText_17 (nd : Nat) (OD P : Option Addr) (oq pq : Nat) (w : World) [hk : Tb w] (hnd : nd ≤ 1) :
    Calls Tryz.prog 24 #[.agg #[.int .i64 7, .int .i64 nd, .int .i64 0, .int .i64 0, .int .u64 0, .int .u64 0, .int .i64 0, .int .i64 0, .int .i64 0, .slice OD 0 oq, .bool true, .slice P 0 pq]] w fun e w' => e = .returned (.string ⟨(actTextL 7 nd 0 0 0 0 0 0 0 true [] []).toArray⟩) ∧ Gr w w' := by
  have HTd := Lib.hid (fun W => text26_any nd (by omega) W)
  have ld := dec_len nd (by omega)
  go_enter Tryz.func24, Tryz.ntmps24
  go_upto_region 1 with fail
  go_cut [3] (fun u wx => u = .string ⟨#[108, 101, 97, 100]⟩ ∧ Gr w wx ∧ Tb wx ∧ BlockAt wx w.heap.size #[.int .i64 7, .int .i64 nd, .int .i64 0, .int .i64 0, .int .u64 0, .int .u64 0, .int .i64 0, .int .i64 0, .int .i64 0, .slice OD 0 oq, .bool true, .slice P 0 pq] 42)
  case first =>
    go_region_with ((go_at_call 58; refine (acts_any _).mono ?_; rintro e w' ⟨rfl, rfl⟩))
    all_goals
      go_wp2_with fail
      go_meet
      case rel => exact ⟨rfl, gri, inferInstance, inferInstance⟩
  case rest =>
    obtain ⟨rfl, hg, htb, hblk⟩ := hcut
    have x0 : wc.cell? ⟨w.heap.size, 0, none⟩ = some (.int .i64 7) := (block_cells _ _ _ _ _).trans rfl
    have x1 : wc.cell? ⟨w.heap.size, 1, none⟩ = some (.int .i64 nd) := (block_cells _ _ _ _ _).trans rfl
    have x2 : wc.cell? ⟨w.heap.size, 2, none⟩ = some (.int .i64 0) := (block_cells _ _ _ _ _).trans rfl
    have x3 : wc.cell? ⟨w.heap.size, 3, none⟩ = some (.int .i64 0) := (block_cells _ _ _ _ _).trans rfl
    have x4 : wc.cell? ⟨w.heap.size, 4, none⟩ = some (.int .u64 0) := (block_cells _ _ _ _ _).trans rfl
    have x5 : wc.cell? ⟨w.heap.size, 5, none⟩ = some (.int .u64 0) := (block_cells _ _ _ _ _).trans rfl
    have x6 : wc.cell? ⟨w.heap.size, 6, none⟩ = some (.int .i64 0) := (block_cells _ _ _ _ _).trans rfl
    have x7 : wc.cell? ⟨w.heap.size, 7, none⟩ = some (.int .i64 0) := (block_cells _ _ _ _ _).trans rfl
    have x8 : wc.cell? ⟨w.heap.size, 8, none⟩ = some (.int .i64 0) := (block_cells _ _ _ _ _).trans rfl
    have x9 : wc.cell? ⟨w.heap.size, 9, none⟩ = some (.slice OD 0 oq) := (block_cells _ _ _ _ _).trans rfl
    have x10 : wc.cell? ⟨w.heap.size, 10, none⟩ = some (.bool true) := (block_cells _ _ _ _ _).trans rfl
    have x11 : wc.cell? ⟨w.heap.size, 11, none⟩ = some (.slice P 0 pq) := (block_cells _ _ _ _ _).trans rfl
    have HG := Lib.hid hg; clear hg
    haveI : Old w.heap.size wc := hblk.old
    haveI : GrC wc wc := inferInstance
    go_wp2_with (first | (go_at_call 47; ((with_reducible refine (HTd.out _).mono ?_); rintro _ _ ⟨rfl, g, rfl⟩)))
    go_ret
    have e : actPieces 7 nd 0 0 0 0 0 0 0 true [] [] = [⟨#[102, 111, 114, 99, 101]⟩, ⟨(Lib.itoa (nd : Int)).toArray⟩] := rfl
    have E : (⟨#[102, 111, 114, 99, 101]⟩ ++ (⟨#[32]⟩ : ByteArray) ++ ⟨(Lib.decDigits nd).toArray⟩ : ByteArray) = ⟨(actTextL 7 nd 0 0 0 0 0 0 0 true [] []).toArray⟩ := by
      skip
      apply ByteArray.ext
      rw [actTextL, e]
      simp [join_two, join_one, Lib.itoa_nonneg]
    exact ⟨congrArg (fun z => Ending.returned (Value.string z)) E, HG.out.trans gri⟩
set_option maxRecDepth 100000 in
set_option maxHeartbeats 8000000 in
theorem ractText_8 (nd : Nat) (OD P : Option Addr) (oq pq : Nat) (w : World) [hk : Tb w] (hnd : nd ≤ 1) :
    Calls Tryz.prog 24 #[.agg #[.int .i64 8, .int .i64 nd, .int .i64 0, .int .i64 0, .int .u64 0, .int .u64 0, .int .i64 0, .int .i64 0, .int .i64 0, .slice OD 0 oq, .bool false, .slice P 0 pq]] w fun e w' => e = .returned (.string ⟨(actTextL 8 nd 0 0 0 0 0 0 0 false [] []).toArray⟩) ∧ Gr w w' := by
  have HTd := Lib.hid (fun W => text26_any nd (by omega) W)
  have ld := dec_len nd (by omega)
  go_enter Tryz.func24, Tryz.ntmps24
  go_upto_region 1 with fail
  go_cut [3] (fun u wx => u = .string ⟨#[100, 101, 103, 114, 97, 100, 101]⟩ ∧ Gr w wx ∧ Tb wx ∧ BlockAt wx w.heap.size #[.int .i64 8, .int .i64 nd, .int .i64 0, .int .i64 0, .int .u64 0, .int .u64 0, .int .i64 0, .int .i64 0, .int .i64 0, .slice OD 0 oq, .bool false, .slice P 0 pq] 42)
  case first =>
    go_region_with ((go_at_call 58; refine (acts_any _).mono ?_; rintro e w' ⟨rfl, rfl⟩))
    all_goals
      go_wp2_with fail
      go_meet
      case rel => exact ⟨rfl, gri, inferInstance, inferInstance⟩
  case rest =>
    obtain ⟨rfl, hg, htb, hblk⟩ := hcut
    have x0 : wc.cell? ⟨w.heap.size, 0, none⟩ = some (.int .i64 8) := (block_cells _ _ _ _ _).trans rfl
    have x1 : wc.cell? ⟨w.heap.size, 1, none⟩ = some (.int .i64 nd) := (block_cells _ _ _ _ _).trans rfl
    have x2 : wc.cell? ⟨w.heap.size, 2, none⟩ = some (.int .i64 0) := (block_cells _ _ _ _ _).trans rfl
    have x3 : wc.cell? ⟨w.heap.size, 3, none⟩ = some (.int .i64 0) := (block_cells _ _ _ _ _).trans rfl
    have x4 : wc.cell? ⟨w.heap.size, 4, none⟩ = some (.int .u64 0) := (block_cells _ _ _ _ _).trans rfl
    have x5 : wc.cell? ⟨w.heap.size, 5, none⟩ = some (.int .u64 0) := (block_cells _ _ _ _ _).trans rfl
    have x6 : wc.cell? ⟨w.heap.size, 6, none⟩ = some (.int .i64 0) := (block_cells _ _ _ _ _).trans rfl
    have x7 : wc.cell? ⟨w.heap.size, 7, none⟩ = some (.int .i64 0) := (block_cells _ _ _ _ _).trans rfl
    have x8 : wc.cell? ⟨w.heap.size, 8, none⟩ = some (.int .i64 0) := (block_cells _ _ _ _ _).trans rfl
    have x9 : wc.cell? ⟨w.heap.size, 9, none⟩ = some (.slice OD 0 oq) := (block_cells _ _ _ _ _).trans rfl
    have x10 : wc.cell? ⟨w.heap.size, 10, none⟩ = some (.bool false) := (block_cells _ _ _ _ _).trans rfl
    have x11 : wc.cell? ⟨w.heap.size, 11, none⟩ = some (.slice P 0 pq) := (block_cells _ _ _ _ _).trans rfl
    have HG := Lib.hid hg; clear hg
    haveI : Old w.heap.size wc := hblk.old
    haveI : GrC wc wc := inferInstance
    go_wp2_with (first | (go_at_call 47; ((with_reducible refine (HTd.out _).mono ?_); rintro _ _ ⟨rfl, g, rfl⟩)))
    go_ret
    have e : actPieces 8 nd 0 0 0 0 0 0 0 false [] [] = [⟨#[100, 101, 103, 114, 97, 100, 101]⟩, ⟨(Lib.itoa (nd : Int)).toArray⟩] := rfl
    have E : (⟨#[100, 101, 103, 114, 97, 100, 101]⟩ ++ (⟨#[32]⟩ : ByteArray) ++ ⟨(Lib.decDigits nd).toArray⟩ : ByteArray) = ⟨(actTextL 8 nd 0 0 0 0 0 0 0 false [] []).toArray⟩ := by
      skip
      apply ByteArray.ext
      rw [actTextL, e]
      simp [join_two, join_one, Lib.itoa_nonneg]
    exact ⟨congrArg (fun z => Ending.returned (Value.string z)) E, HG.out.trans gri⟩
set_option maxRecDepth 100000 in
set_option maxHeartbeats 8000000 in
theorem ractText_9 (nd m : Nat) (OD P : Option Addr) (oq pq : Nat) (w : World) [hk : Tb w] (hnd : nd ≤ 1) (hmm : m ≤ 1000000) :
    Calls Tryz.prog 24 #[.agg #[.int .i64 9, .int .i64 nd, .int .i64 m, .int .i64 0, .int .u64 0, .int .u64 0, .int .i64 0, .int .i64 0, .int .i64 0, .slice OD 0 oq, .bool false, .slice P 0 pq]] w fun e w' => e = .returned (.string ⟨(actTextL 9 nd m 0 0 0 0 0 0 false [] []).toArray⟩) ∧ Gr w w' := by
  have HTd := Lib.hid (fun W => text26_any nd (by omega) W)
  have ld := dec_len nd (by omega)
  have HTn := Lib.hid (fun W => text26_any m (by omega) W)
  have ln := dec_len m (by omega)
  go_enter Tryz.func24, Tryz.ntmps24
  go_upto_region 1 with fail
  go_cut [3] (fun u wx => u = .string ⟨#[103, 114, 111, 119]⟩ ∧ Gr w wx ∧ Tb wx ∧ BlockAt wx w.heap.size #[.int .i64 9, .int .i64 nd, .int .i64 m, .int .i64 0, .int .u64 0, .int .u64 0, .int .i64 0, .int .i64 0, .int .i64 0, .slice OD 0 oq, .bool false, .slice P 0 pq] 42)
  case first =>
    go_region_with ((go_at_call 58; refine (acts_any _).mono ?_; rintro e w' ⟨rfl, rfl⟩))
    all_goals
      go_wp2_with fail
      go_meet
      case rel => exact ⟨rfl, gri, inferInstance, inferInstance⟩
  case rest =>
    obtain ⟨rfl, hg, htb, hblk⟩ := hcut
    have x0 : wc.cell? ⟨w.heap.size, 0, none⟩ = some (.int .i64 9) := (block_cells _ _ _ _ _).trans rfl
    have x1 : wc.cell? ⟨w.heap.size, 1, none⟩ = some (.int .i64 nd) := (block_cells _ _ _ _ _).trans rfl
    have x2 : wc.cell? ⟨w.heap.size, 2, none⟩ = some (.int .i64 m) := (block_cells _ _ _ _ _).trans rfl
    have x3 : wc.cell? ⟨w.heap.size, 3, none⟩ = some (.int .i64 0) := (block_cells _ _ _ _ _).trans rfl
    have x4 : wc.cell? ⟨w.heap.size, 4, none⟩ = some (.int .u64 0) := (block_cells _ _ _ _ _).trans rfl
    have x5 : wc.cell? ⟨w.heap.size, 5, none⟩ = some (.int .u64 0) := (block_cells _ _ _ _ _).trans rfl
    have x6 : wc.cell? ⟨w.heap.size, 6, none⟩ = some (.int .i64 0) := (block_cells _ _ _ _ _).trans rfl
    have x7 : wc.cell? ⟨w.heap.size, 7, none⟩ = some (.int .i64 0) := (block_cells _ _ _ _ _).trans rfl
    have x8 : wc.cell? ⟨w.heap.size, 8, none⟩ = some (.int .i64 0) := (block_cells _ _ _ _ _).trans rfl
    have x9 : wc.cell? ⟨w.heap.size, 9, none⟩ = some (.slice OD 0 oq) := (block_cells _ _ _ _ _).trans rfl
    have x10 : wc.cell? ⟨w.heap.size, 10, none⟩ = some (.bool false) := (block_cells _ _ _ _ _).trans rfl
    have x11 : wc.cell? ⟨w.heap.size, 11, none⟩ = some (.slice P 0 pq) := (block_cells _ _ _ _ _).trans rfl
    have HG := Lib.hid hg; clear hg
    haveI : Old w.heap.size wc := hblk.old
    haveI : GrC wc wc := inferInstance
    go_wp2_with (first | (go_at_call 47; ((with_reducible refine (HTd.out _).mono ?_); rintro _ _ ⟨rfl, g, rfl⟩)) | (go_at_call 47; ((with_reducible refine (HTn.out _).mono ?_); rintro _ _ ⟨rfl, g, rfl⟩)))
    go_ret
    have e : actPieces 9 nd m 0 0 0 0 0 0 false [] [] = [⟨#[103, 114, 111, 119]⟩, ⟨(Lib.itoa (nd : Int)).toArray⟩, ⟨(Lib.itoa (m : Int)).toArray⟩] := rfl
    have E : (⟨#[103, 114, 111, 119]⟩ ++ (⟨#[32]⟩ : ByteArray) ++ ⟨(Lib.decDigits nd).toArray⟩ ++ (⟨#[32]⟩ : ByteArray) ++ ⟨(Lib.decDigits m).toArray⟩ : ByteArray) = ⟨(actTextL 9 nd m 0 0 0 0 0 0 false [] []).toArray⟩ := by
      skip
      apply ByteArray.ext
      rw [actTextL, e]
      simp [join_two, join_one, Lib.itoa_nonneg]
    exact ⟨congrArg (fun z => Ending.returned (Value.string z)) E, HG.out.trans gri⟩
set_option maxRecDepth 100000 in
set_option maxHeartbeats 8000000 in
theorem ractText_10 (OD P : Option Addr) (oq pq : Nat) (w : World) [hk : Tb w]  :
    Calls Tryz.prog 24 #[.agg #[.int .i64 10, .int .i64 0, .int .i64 0, .int .i64 0, .int .u64 0, .int .u64 0, .int .i64 0, .int .i64 0, .int .i64 0, .slice OD 0 oq, .bool false, .slice P 0 pq]] w fun e w' => e = .returned (.string ⟨(actTextL 10 0 0 0 0 0 0 0 0 false [] []).toArray⟩) ∧ Gr w w' := by
  go_enter Tryz.func24, Tryz.ntmps24
  go_upto_region 1 with fail
  go_cut [3] (fun u wx => u = .string ⟨#[97, 108, 108]⟩ ∧ Gr w wx ∧ Tb wx ∧ BlockAt wx w.heap.size #[.int .i64 10, .int .i64 0, .int .i64 0, .int .i64 0, .int .u64 0, .int .u64 0, .int .i64 0, .int .i64 0, .int .i64 0, .slice OD 0 oq, .bool false, .slice P 0 pq] 42)
  case first =>
    go_region_with ((go_at_call 58; refine (acts_any _).mono ?_; rintro e w' ⟨rfl, rfl⟩))
    all_goals
      go_wp2_with fail
      go_meet
      case rel => exact ⟨rfl, gri, inferInstance, inferInstance⟩
  case rest =>
    obtain ⟨rfl, hg, htb, hblk⟩ := hcut
    have x0 : wc.cell? ⟨w.heap.size, 0, none⟩ = some (.int .i64 10) := (block_cells _ _ _ _ _).trans rfl
    have x1 : wc.cell? ⟨w.heap.size, 1, none⟩ = some (.int .i64 0) := (block_cells _ _ _ _ _).trans rfl
    have x2 : wc.cell? ⟨w.heap.size, 2, none⟩ = some (.int .i64 0) := (block_cells _ _ _ _ _).trans rfl
    have x3 : wc.cell? ⟨w.heap.size, 3, none⟩ = some (.int .i64 0) := (block_cells _ _ _ _ _).trans rfl
    have x4 : wc.cell? ⟨w.heap.size, 4, none⟩ = some (.int .u64 0) := (block_cells _ _ _ _ _).trans rfl
    have x5 : wc.cell? ⟨w.heap.size, 5, none⟩ = some (.int .u64 0) := (block_cells _ _ _ _ _).trans rfl
    have x6 : wc.cell? ⟨w.heap.size, 6, none⟩ = some (.int .i64 0) := (block_cells _ _ _ _ _).trans rfl
    have x7 : wc.cell? ⟨w.heap.size, 7, none⟩ = some (.int .i64 0) := (block_cells _ _ _ _ _).trans rfl
    have x8 : wc.cell? ⟨w.heap.size, 8, none⟩ = some (.int .i64 0) := (block_cells _ _ _ _ _).trans rfl
    have x9 : wc.cell? ⟨w.heap.size, 9, none⟩ = some (.slice OD 0 oq) := (block_cells _ _ _ _ _).trans rfl
    have x10 : wc.cell? ⟨w.heap.size, 10, none⟩ = some (.bool false) := (block_cells _ _ _ _ _).trans rfl
    have x11 : wc.cell? ⟨w.heap.size, 11, none⟩ = some (.slice P 0 pq) := (block_cells _ _ _ _ _).trans rfl
    have HG := Lib.hid hg; clear hg
    haveI : Old w.heap.size wc := hblk.old
    haveI : GrC wc wc := inferInstance
    go_wp2
    go_ret
    have e : actPieces 10 0 0 0 0 0 0 0 0 false [] [] = [⟨#[97, 108, 108]⟩] := rfl
    have E : (⟨#[97, 108, 108]⟩ : ByteArray) = ⟨(actTextL 10 0 0 0 0 0 0 0 0 false [] []).toArray⟩ := by
      skip
      apply ByteArray.ext
      rw [actTextL, e]
      simp [join_two, join_one, Lib.itoa_nonneg]
    exact ⟨congrArg (fun z => Ending.returned (Value.string z)) E, HG.out.trans gri⟩
end Go.Proofs.YtgjdgafoidppaaaGreatDoor
