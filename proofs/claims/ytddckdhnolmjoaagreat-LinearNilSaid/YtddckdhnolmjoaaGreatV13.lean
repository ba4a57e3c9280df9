/- linear.world's key. Conditions: the world stands in memory; at most 40 volumes, 40 answers. A map whose keys are strings as a set. Conditions: none. Worlds in memory: what is kept while others are found. Conditions: none. linear.close: what is known while worlds are found. Conditions: none. linear.close$1: what is known between two rounds. Conditions: none. A region that draws its order: operations one behind the other (or calm ones, anywhere), among which one 'var x T' floats; a store into it comes last. Conditions: the others keep all blocks of that type. A region that draws its order, walked by a plan: at each place either an operation that hands out the same and turns nothing as long as what has been learnt for good holds, whenever it comes; or the one operation that is ready, of any effect. Conditions: each step is known. -/
import Derived.Test.YtddckdhnolmjoaaGreatV09
import Derived.Test.YtddckdhnolmjoaaGreatV12
import Derived.Test.YtddckdhnolmjoaaGreatV05
import Derived.Test.YtddckdhnolmjoaaGreatV02
import Derived.Test.YtddckdhnolmjoaaGreatV03
namespace Go.Proofs.YtddckdhnolmjoaaGreat
open Go.RowKit
set_option linter.unusedVariables false
set_option linter.unusedSimpArgs false
set_option linter.unnecessarySimpa false
set_option maxRecDepth 100000
set_option maxHeartbeats 4000000
def ansV (x : AnsC) : Value := .agg #[.int .i64 x.code, .int .i64 x.done, .slice x.D x.n x.q]
def nums4 (p : Int × AnsM) : List Int := [p.1, p.2.1, p.2.2.1, (p.2.2.2.length : Int)]
def keyOne (p : Int × AnsM) : Byt := (nums4 p).flatMap (fun n => leB n 8) ++ p.2.2.2
def keyM (d : Dev) (l : List (Int × AnsM)) : Byt := bytesK d ++ l.flatMap keyOne
structure AnsN (p : Int × AnsC) : Prop where
 k0 : 0 ≤ p.1
 k1 : p.1 < 18446744073709551616
 c0 : 0 ≤ p.2.code
 c1 : p.2.code < 9223372036854775808
 d0 : 0 ≤ p.2.done
 d1 : p.2.done < 9223372036854775808
abbrev encA (l : List (Int × AnsC)) : List (Int × Value) := l.map fun p => (p.1, ansV p.2)
abbrev plainA (l : List (Int × AnsC)) : List (Int × AnsM) := l.map fun p => (p.1, p.2.m)
theorem flat_len {α : Type} (f : α → List UInt8) (n : Nat) : ∀ (l : List α), (∀ x ∈ l, (f x).length ≤ n) → (l.flatMap f).length ≤ n * l.length
 | [], _ => by simp
 | x :: l, h => by
  have h1 := flat_len f n l (fun y hy => h y (.tail _ hy))
  have h2 := h x (.head _)
  rw [List.flatMap_cons, List.length_append, List.length_cons, Nat.mul_add]
  omega
theorem bytesK_len {d : Dev} (hn : d.length ≤ 40) (hok : DevOk d) : (bytesK d).length ≤ 6000000 := by
 have h1 : ∀ x ∈ itsK d, (It.bytes x).length ≤ 256 := fun x hx => by
  cases x with
  | num n => simp [It.bytes, leB]
  | blk B =>
   unfold itsK at hx
   rcases List.mem_cons.1 hx with h | h
   ·cases h
   ·obtain ⟨p, hp, hx2⟩ := List.mem_flatMap.1 h
    have : B.length = 256 := itsV_ok hok hp _ hx2
    simp [It.bytes, this]
 have h2 := flat_len It.bytes 256 (itsK d) h1
 have h3 := itsD_len d hok.vols
 unfold bytesK
 have h4 : (itsK d).length = (d.flatMap itsV).length + 1 := by simp [itsK]
 omega
theorem LowP.trans {base : Nat} {W W1 W2 : World} {v v' : Value} {ys zs : List UInt8} (h : LowP base W v ys W1) (k : LowP base W1 v' zs W2) : LowP base W v' zs W2 :=
 ⟨k.own, h.below.trans k.below, Nat.le_trans h.size k.size, fun b hb hc => by
  have e1 := h.block b hb hc
  have s1 := h.size
  exact (k.block b (by omega) (fun cs f => by rw [e1]; exact hc cs f)).trans e1⟩
theorem LowP.blockAt {base : Nat} {W W1 : World} {v : Value} {ys : List UInt8} (h : LowP base W v ys W1) {B : Nat} {cs : Array Value} {T : TypeId} (hB : BlockAt W B cs T) (hT : T ≠ bE.E) : BlockAt W1 B cs T :=
 ⟨(h.block B hB.lt (fun cs' f e => by rw [hB.eq] at e; exact hT (Obj.cells.inj (Option.some.inj e)).2.1)).trans hB.eq⟩
theorem OwnN.low {α : Type} {e : EK α} {base b2 : Nat} {W W1 : World} {v u : Value} {xs : List α} {ys : List UInt8} (h : OwnN e b2 W u xs) (k : LowP base W v ys W1) (he : e.E ≠ bE.E) : OwnN e b2 W1 u xs := h.keep fun q hq => by
 obtain ⟨cs, hh⟩ := h.cellsBlock q hq
 exact k.block q (Array.getElem?_eq_some_iff.1 hh).1 (fun cs' f e2 => by rw [hh] at e2; exact he (Obj.cells.inj (Option.some.inj e2)).2.1)
theorem idx4_0 (a b c d : Int) (w : World) : (Instr.index 195 (.agg #[.int .u64 a, .int .u64 b, .int .u64 c, .int .u64 d]) (.int .i64 0)).run Tryz.prog w = .ok (.int .u64 a) w := by kernel_rfl
theorem idx4_1 (a b c d : Int) (w : World) : (Instr.index 195 (.agg #[.int .u64 a, .int .u64 b, .int .u64 c, .int .u64 d]) (.int .i64 1)).run Tryz.prog w = .ok (.int .u64 b) w := by kernel_rfl
theorem idx4_2 (a b c d : Int) (w : World) : (Instr.index 195 (.agg #[.int .u64 a, .int .u64 b, .int .u64 c, .int .u64 d]) (.int .i64 2)).run Tryz.prog w = .ok (.int .u64 c) w := by kernel_rfl
theorem idx4_3 (a b c d : Int) (w : World) : (Instr.index 195 (.agg #[.int .u64 a, .int .u64 b, .int .u64 c, .int .u64 d]) (.int .i64 3)).run Tryz.prog w = .ok (.int .u64 d) w := by kernel_rfl
theorem idx_4 (a b c d x : Int) (j : Nat) (h : [a, b, c, d][j]? = some x) (w : World) : (Instr.index 195 (.agg #[.int .u64 a, .int .u64 b, .int .u64 c, .int .u64 d]) (.int .i64 (j : Int))).run Tryz.prog w = .ok (.int .u64 x) w := by
 have hj : j < 4 := by
  have := (List.getElem?_eq_some_iff.1 h).1
  simpa using this
 have h9 : j = 0 ∨ j = 1 ∨ j = 2 ∨ j = 3 := by omega
 rcases h9 with rfl | rfl | rfl | rfl
 ·obtain rfl : a = x := Option.some.inj h
  exact idx4_0 a b c d w
 ·obtain rfl : b = x := Option.some.inj h
  exact idx4_1 a b c d w
 ·obtain rfl : c = x := Option.some.inj h
  exact idx4_2 a b c d w
 ·obtain rfl : d = x := Option.some.inj h
  exact idx4_3 a b c d w
theorem u64_same {x : Int} (h0 : 0 ≤ x) (h1 : x < 18446744073709551616) : IntKind.u64.wrap x = x := by
 simp [IntKind.wrap, IntKind.bits, IntKind.signed]
 omega
theorem keys_get {l : List (Int × AnsC)} {i : Nat} {p : Int × AnsC} (hs : SortK (encA l)) (h : l[i]? = some p) : getK (encA l) p.1 = some (ansV p.2) :=
 (getK_mem hs).2 (List.mem_map.2 ⟨p, List.mem_of_getElem? h, rfl⟩)
theorem key_any (base D M : Nat) (d : Dev) (l : List (Int × AnsC)) (w : World) (h : DevAt base w D d) (hdl : d.length ≤ 40) (hm : MapAt .u64 w M (encA l)) (hll : l.length ≤ 40) (hok : ∀ p ∈ l, AnsOk 0 w p.2) (hn : ∀ p ∈ l, AnsN p) :
  Calls Tryz.prog 95 #[.agg #[.pointer (some ⟨D, 0, none⟩), .map (some M)]] w fun e w' => e = .returned (.string ⟨(keyM d (plainA l)).toArray⟩) ∧ Gr w w' := by
 have HBY := Lib.hid (fun W (g : Gr w W) => bytes_any base D d hdl W (h.gr g))
 have HM := Lib.hid hm
 have HOK := Lib.hid hok
 have HN := Lib.hid hn
 have hlb : (bytesK d).length ≤ 6000000 := bytesK_len hdl (by obtain ⟨M, mb, h⟩ := h; exact h.ok)
 obtain ⟨B0, hB0⟩ : ∃ B0, B0 = bytesK d := ⟨_, rfl⟩
 have hkd : keyM d (plainA l) = B0 ++ (plainA l).flatMap keyOne := by rw [hB0]; rfl
 rw [← hB0] at HBY hlb
 have HKD := Lib.hid hkd
 obtain ⟨KE, hKE⟩ : ∃ KE, KE = keyM d (plainA l) := ⟨_, rfl⟩
 rw [← hKE] at HKD ⊢
 have HLB := Lib.hid hlb
 obtain ⟨N, hN⟩ : ∃ N, N = l.length := ⟨_, rfl⟩
 have HNL := Lib.hid hN
 rw [← hN] at hll
 clear h hm hok hn hB0 hkd hKE hlb hN
 go_enter Tryz.func95, Tryz.ntmps95
 go_wp2_with (first
  | (go_at_call 10; ((with_reducible refine (HBY.out _ gri).mono ?_); rintro _ _ ⟨v0, rfl, ho0, ⟨g1, rfl⟩⟩; have HO0 := Lib.hid ho0; clear ho0))
  | (go_at_call 115; ((with_reducible refine (A.keysfU (some M) _).mono ?_); rintro _ _ ⟨rfl, rfl⟩))
  | (go_at_call 54; ((with_reducible refine (A.sortedU _ M (encA l) (by rw [List.length_map]; have := HNL.out; omega) _ inferInstance (HM.out.gr gri)).mono ?_); rintro _ _ ⟨vk, rfl, hok1, ⟨g2, rfl⟩⟩; obtain ⟨Ak, ck, hvk, hck, hcm, _⟩ := hok1.form uIs; subst hvk; have HRK := Lib.hid hok1; clear hok1 hck hcm)))
 obtain ⟨W1, hW1⟩ : ∃ W1, W1 = (grown ((grown (w.alloc (.cells #[.pointer (some ⟨D, 0, none⟩), .map (some M)] 79)) g1).alloc (.cells #[.map (some M)] 77)) g2) := ⟨_, rfl⟩
 have hg1 : Gr w W1 := by rw [hW1]; exact gri
 have hb1 : BlockAt W1 w.heap.size #[.pointer (some ⟨D, 0, none⟩), .map (some M)] 79 := by rw [hW1]; infer_instance
 have ho1 : OwnN bE w.heap.size W1 v0 B0 := by
  rw [hW1]
  exact (HO0.out.more (Gr.below (gri : Gr w (w.alloc _))).size).gr gri
 have hk1 := HRK.out
 rw [← hW1] at hk1 ⊢
 have HG1 := Lib.hid hg1
 have HB1 := Lib.hid hb1
 have HO1 := Lib.hid ho1
 have HK1 := Lib.hid hk1
 have hsort := HM.out.sort
 have HSO := Lib.hid hsort
 clear hW1 hg1 hb1 ho1 hk1 HRK HO0 hsort
 have el : (((encA l).map (·.1)).length : Int) = (N : Int) := by rw [List.length_map, List.length_map, HNL.out]
 go_loopw [3, 18] (fun v i wr => ∃ k : Nat, k ≤ N ∧ i = .int .i64 (k : Int) ∧ LowP w.heap.size W1 v (B0 ++ ((plainA l).take k).flatMap keyOne) wr) (fun _ i _ => N - (intOf i).toNat)
 case atStart => exact ⟨0, Nat.zero_le _, rfl, by simpa using LowP.start HO1.out⟩
 case round =>
  obtain ⟨k, hk, rfl, hp⟩ := hrel
  have HP := Lib.hid hp
  have hgw : Gr w wr := Gr.of (HG1.out.below.trans hp.below)
  haveI := grc_of hgw
  haveI := from_of hgw
  have HG := Lib.hid hgw
  have hbx := hp.blockAt HB1.out (by decide)
  have x0 : wr.cell? ⟨w.heap.size, 0, none⟩ = some (.pointer (some ⟨D, 0, none⟩)) := (@block_cells _ _ 0 _ _ hbx).trans rfl
  have x1 : wr.cell? ⟨w.heap.size, 1, none⟩ = some (.map (some M)) := (@block_cells _ _ 1 _ _ hbx).trans rfl
  haveI := hbx.old
  clear hp hgw hbx
  by_cases hlt : k < N
  ·have HLT := Lib.hid hlt
   obtain ⟨p, hp⟩ : ∃ p, l[k]? = some p := ⟨_, List.getElem?_eq_getElem (by rw [← HNL.out]; exact hlt)⟩
   have hkr := HK1.out.low HP.out (by decide)
   obtain ⟨gk, ck', hvk, _, hgk, _, _, hcl, _⟩ := hkr.cells uIs (by intro e; have h9 := congrArg List.length e; rw [List.length_map, List.length_map, ← HNL.out, List.length_nil] at h9; omega)
   simp only [Value.slice.injEq] at hvk
   obtain ⟨rfl, hle, rfl⟩ := hvk
   have hkc : wr.cell? ⟨gk, k, none⟩ = some (.int .u64 p.1) := by
    have := hcl k p.1 (by rw [List.getElem?_map, List.getElem?_map, hp]; rfl) 0 (.int .u64 p.1) rfl
    simpa [uE, sE] using this
   haveI : Old gk wr := ⟨hgk⟩
   have hget := keys_get HSO.out hp
   have hpo := HOK.out p (List.mem_of_getElem? hp)
   have hpn := HN.out p (List.mem_of_getElem? hp)
   have hT : (plainA l).take (k + 1) = (plainA l).take k ++ [(p.1, p.2.m)] := by rw [List.take_add_one, List.getElem?_map, hp]; rfl
   obtain ⟨PRE, hPRE⟩ : ∃ PRE, PRE = B0 ++ ((plainA l).take k).flatMap keyOne := ⟨_, rfl⟩
   have hnext : B0 ++ ((plainA l).take (k + 1)).flatMap keyOne = PRE ++ ((nums4 (p.1, p.2.m)).flatMap (fun n => leB n 8) ++ p.2.l) := by
    rw [hT, List.flatMap_append, ← List.append_assoc, ← hPRE]
    simp [keyOne, AnsC.m]
   have hplen : PRE.length ≤ 50000000 := by
    rw [hPRE, List.length_append]
    have h1 := flat_len keyOne 1000032 ((plainA l).take k) (fun x hx => by
     obtain ⟨p', hp', rfl⟩ := List.mem_map.1 (List.mem_of_mem_take hx)
     have := (HOK.out p' hp').small
     have h2 := (HOK.out p' hp').len
     simp [keyOne, nums4, leB, AnsC.m]
     omega)
    have h2 := HLB.out
    have h3 : ((plainA l).take k).length ≤ 40 := by rw [List.length_take]; omega
    omega
   have hq : LowP w.heap.size W1 u3 PRE wr := by rw [hPRE]; exact HP.out
   have HQ := Lib.hid hq
   have HNX := Lib.hid hnext
   have HPL := Lib.hid hplen
   have HGT := Lib.hid hget
   have HPO := Lib.hid hpo
   have HPN := Lib.hid hpn
   have hnl : (k : Int) < (l.length : Int) := by have := HNL.out; omega
   have hkl : k < l.length := by have := HNL.out; omega
   obtain ⟨num, ⟨code, dn, la, DA, na, qa⟩⟩ := p
   simp only [AnsC.m, ansV] at HNX HGT HPO HPN hkc
   have w1 := u64_same HPN.out.c0 (by have := HPN.out.c1; simp only at this ⊢; omega)
   have w2 := u64_same HPN.out.d0 (by have := HPN.out.d1; simp only at this ⊢; omega)
   have w3 : IntKind.u64.wrap (na : Int) = (na : Int) := u64_same (by omega) (by have := HPO.out.small; simp only at this; omega)
   simp only at w1 w2
   clear hp hkr hget hpo hpn hT hnext hplen hq hPRE hcl
   go_wp2_with (first | (at_lookup; refine wpList_lookupK (q := .u64) (b := M) rfl _ _ rfl num Tryz.underlying77 Tryz.underlying24 (Tryz.zeroValue38 _) (HM.out.gr (HG.out.trans gri)) rfl rfl ?_; rw [HGT.out]))
   obtain ⟨W2, hW2⟩ : ∃ W2, W2 = wr.alloc (.cells #[.int .i64 code, .int .i64 dn, .slice DA na qa] 38) := ⟨_, rfl⟩
   obtain ⟨Ba, hBa⟩ : ∃ Ba, Ba = wr.heap.size := ⟨_, rfl⟩
   have hg2 : Gr wr W2 := by rw [hW2]; exact gri
   have hb2 : BlockAt W2 Ba #[.int .i64 code, .int .i64 dn, .slice DA na qa] 38 := by rw [hW2, hBa]; infer_instance
   rw [← hW2, ← hBa]
   have HQ2 := Lib.hid (HQ.out.gr hg2 (HG1.out.below.size))
   have HG2 := Lib.hid (HG.out.trans hg2)
   have HB2 := Lib.hid hb2
   have hs2 : w.heap.size ≤ W2.heap.size := HG2.out.below.size
   have HS2 := Lib.hid hs2
   clear hW2 hBa hg2 hb2 hs2 hkc x0 x1
   obtain ⟨F4, hF4⟩ : ∃ F4 : List Int, F4 = [num, code, dn, (na : Int)] := ⟨_, rfl⟩
   have hf4 : ∀ x ∈ F4, 0 ≤ x ∧ x < 18446744073709551616 := fun x hx => by
    rw [hF4] at hx
    have a1 := HPN.out.k0
    have a2 := HPN.out.k1
    have a3 := HPN.out.c0
    have a4 := HPN.out.c1
    have a5 := HPN.out.d0
    have a6 := HPN.out.d1
    have a7 := HPO.out.small
    simp only at a1 a2 a3 a4 a5 a6 a7
    simp only [List.mem_cons, List.mem_nil_iff, or_false] at hx
    rcases hx with rfl | rfl | rfl | rfl <;> omega
   have HF4 := Lib.hid hF4
   have HX4 := Lib.hid hf4
   have hl4 : F4.length = 4 := by rw [hF4]; rfl
   have HL4 := Lib.hid hl4
   clear hF4 hf4 hl4
   go_loopw [3, 38] (fun v i ws => ∃ j : Nat, j ≤ 4 ∧ i = .int .i64 (j : Int) ∧ LowP w.heap.size W2 v (PRE ++ (F4.take j).flatMap (fun n => leB n 8)) ws) (fun _ i _ => 4 - (intOf i).toNat)
   case atStart => exact ⟨0, by omega, rfl, by simpa using LowP.start HQ2.out.own⟩
   case round =>
    obtain ⟨j, hj, rfl, hp2⟩ := hrel
    have HP2 := Lib.hid hp2
    have hgw2 : Gr w wr := Gr.of (HG2.out.below.trans hp2.below)
    haveI := grc_of hgw2
    haveI := from_of hgw2
    have HGW2 := Lib.hid hgw2
    clear hp2 hgw2
    by_cases hj4 : j < 4
    ·have HJ4 := Lib.hid hj4
     obtain ⟨x, hx⟩ : ∃ x, F4[j]? = some x := ⟨_, List.getElem?_eq_getElem (by rw [HL4.out]; exact hj4)⟩
     have hx2 := hx
     rw [HF4.out] at hx2
     have hidx := fun w => idx_4 num code dn (na : Int) x j hx2 w
     obtain ⟨hx0, hx9⟩ := HX4.out x (List.mem_of_getElem? hx)
     have HT4 := Lib.hid (show F4.take (j + 1) = F4.take j ++ [x] by rw [List.take_add_one, hx]; rfl)
     have HX0 := Lib.hid (And.intro hx0 hx9)
     clear hx hx2 hx0 hx9
     go_wp2
     obtain ⟨P2, hP2⟩ : ∃ P2, P2 = PRE ++ (F4.take j).flatMap (fun n => leB n 8) := ⟨_, rfl⟩
     have hp2 := HP2.out
     rw [← hP2] at hp2
     have HP3 := Lib.hid hp2
     have HEQ := Lib.hid hP2
     have hpl2 : P2.length ≤ 50000100 := by
      rw [hP2, List.length_append]
      have h1 := flat_len (fun n => leB n 8) 8 (F4.take j) (fun y _ => by simp [leB])
      have h2 : (F4.take j).length ≤ 4 := by rw [List.length_take]; omega
      have := HPL.out
      omega
     have HPL2 := Lib.hid hpl2
     clear hp2 hP2 hpl2
     have hdj : decide ((j : Int) < 4) = true := decide_eq_true (by have := HJ4.out; omega)
     simp only [hdj]
     clear hdj
     go_loopw [3, 41] (fun v i ws => ∃ q : Nat, q ≤ 8 ∧ i = .int .i64 (q : Int) ∧ LowP w.heap.size W2 v (P2 ++ leB x q) ws) (fun _ i _ => 8 - (intOf i).toNat)
     case atStart => exact ⟨0, by omega, rfl, by simpa [leB] using HP3.out⟩
     case round =>
      obtain ⟨q, hq8, rfl, hp4⟩ := hrel
      have HP4 := Lib.hid hp4
      have hgw4 : Gr w wr := Gr.of (HG2.out.below.trans hp4.below)
      haveI := grc_of hgw4
      haveI := from_of hgw4
      clear hp4 hgw4
      by_cases hq : q < 8
      ·have HQ8 := Lib.hid hq
       obtain ⟨y, hy⟩ : ∃ y : UInt8, UInt8.ofNat (x / 256 ^ q % 256).toNat = y := ⟨_, rfl⟩
       have hcv : x / 2 ^ (8 * q) % 256 = (y.toNat : Int) := by
        rw [Int.pow_mul, ← hy]
        have : ((2 : Int) ^ 8) = 256 := by decide
        rw [this]
        simp
        omega
       have HE := Lib.hid (show leB x (q + 1) = leB x q ++ [y] by rw [leB_succ, hy])
       have HLE : Hid ((leB x q).length ≤ 8) := Lib.hid (by simp [leB]; omega)
       clear hy
       go_wp2_with (first | (at_builtin; refine wp_append_n bIs rfl _ _ rfl rfl (HP4.out.own.gr gri) _ 0 [y] 1 1 rfl rfl (fun _ _ => trivial) (CellsN.block _ inferInstance rfl) (by have := HPL2.out; have := HLE.out; simp; omega) past (by simp) ?_; intro v1 W4 h1; have H1 := Lib.hid (HP4.out.app gri HS2.out h1); clear h1))
       go_roundw
       case rel => exact ⟨q + 1, HQ8.out, by go_num, by rw [HE.out, ← List.append_assoc]; exact H1.out⟩
       case measure => have := HQ8.out; simp [intOf]; omega
      ·obtain rfl : q = 8 := by omega
       go_wp2
       go_roundw
       case rel => exact ⟨j + 1, HJ4.out, by go_num, by rw [HT4.out, List.flatMap_append, ← List.append_assoc, ← HEQ.out]; simpa using HP4.out⟩
       case measure => have := HJ4.out; simp [intOf]; omega
    ·obtain rfl : j = 4 := by omega
     have hba := HP2.out.blockAt HB2.out (by decide)
     have z2 : wr.cell? ⟨Ba, 2, none⟩ = some (.slice DA na qa) := (@block_cells _ _ 2 _ _ hba).trans rfl
     haveI := hba.old
     have hf : PRE ++ (F4.take 4).flatMap (fun n => leB n 8) = PRE ++ F4.flatMap (fun n => leB n 8) := by rw [List.take_of_length_le (by rw [HL4.out]; exact Nat.le_refl _)]
     have hp5 := HP2.out
     rw [hf] at hp5
     have HP5 := Lib.hid hp5
     have HRL := Lib.hid (rowB_n ((HPO.out.gr HGW2.out).rowb))
     have HLA := Lib.hid HPO.out.len
     have HNI := Lib.hid HPO.out.nil
     have hll5 : (PRE ++ F4.flatMap (fun n => leB n 8)).length ≤ 50000100 := by
      rw [List.length_append]
      have h1 := flat_len (fun n => leB n 8) 8 F4 (fun y _ => by simp [leB])
      have := HPL.out
      have := HL4.out
      omega
     have HL5 := Lib.hid hll5
     have HSM := Lib.hid HPO.out.small
     simp only at HRL HLA HNI HSM
     clear hba hp5 hf hll5
     go_wp2_with (first | (at_builtin; refine wp_append_x bIs rfl _ _ rfl rfl (HP5.out.own.gr gri) DA la na qa HLA.out rfl HNI.out (HRL.out.gr gri) (by have := HL5.out; have := HSM.out; have := HLA.out; omega) past ?_; intro v1 W4 h1; have H1 := Lib.hid (HP5.out.app gri HS2.out h1); clear h1))
     go_roundw
     case rel =>
      refine ⟨k + 1, HLT.out, by go_num, ?_⟩
      rw [HNX.out]
      have := (HQ2.out.trans H1.out)
      rw [HF4.out, List.append_assoc] at this
      have e9 : (nums4 (num, code, dn, la)) = [num, code, dn, (na : Int)] := by unfold nums4; rw [HLA.out]
      rw [e9]
      exact this
     case measure => have := HLT.out; simp [intOf]; omega
  ·have : k = N := by omega
   subst this
   have e : (plainA l).take k = plainA l := List.take_of_length_le (by rw [List.length_map, ← HNL.out]; omega)
   have hown := HP.out.own
   rw [e, ← HKD.out] at hown
   have hrow := hown
   obtain ⟨A9, c9, hv9, _, _, hr9⟩ := hown.form bIs
   subst hv9
   have hcv := conv_row A9 _ c9 _ wr rfl (rowN_b hr9)
   have hnl : ¬ ((k : Int) < (l.length : Int)) := by have := HNL.out; omega
   clear e hown hrow hr9
   go_wp2
   go_ret
   exact ⟨rfl, HG.out⟩
end Go.Proofs.YtddckdhnolmjoaaGreat
namespace Go.Proofs.YtddckdhnolmjoaaGreat
open Go.RowKit Go.MapKept
set_option linter.unusedVariables false
set_option linter.unusedSimpArgs false
set_option linter.unnecessarySimpa false
def SeenAt (W : World) (b : Nat) (S : List ByteArray) : Prop :=
 ∃ es clock, W.heap[b]? = some (.map es clock) ∧ Stamped es clock ∧ (∀ x ∈ es.toList, IsKey .string x.key ∧ x.val = .agg #[.bool true]) ∧ ∀ k, (∃ x ∈ es.toList, x.key = .string k) ↔ k ∈ S
theorem SeenAt.lt {W : World} {b : Nat} {S : List ByteArray} (h : SeenAt W b S) : b < W.heap.size := by
 obtain ⟨es, clock, hb, _⟩ := h
 exact (Array.getElem?_eq_some_iff.1 hb).1
theorem SeenAt.keep {W W' : World} {b : Nat} {S : List ByteArray} (h : SeenAt W b S) (hk : W'.heap[b]? = W.heap[b]?) : SeenAt W' b S := by
 obtain ⟨es, clock, hb, h⟩ := h
 exact ⟨es, clock, hk.trans hb, h⟩
theorem SeenAt.gr {W W' : World} {b : Nat} {S : List ByteArray} (h : SeenAt W b S) (g : Gr W W') : SeenAt W' b S := h.keep (g.below.block b h.lt)
theorem seenAt_new (W : World) : SeenAt (W.alloc (.map #[] 0)) W.heap.size [] := ⟨#[], 0, (MapKept.heap_alloc W _).1, stamped_empty 0, by simp, by simp⟩
section
variable {P : Program} {W : World} {b : Nat} {S : List ByteArray} {t kt et : TypeId}
theorem seen_find {es : Array MapEntry} (hk : ∀ x ∈ es.toList, IsKey .string x.key ∧ x.val = .agg #[.bool true]) (hm : ∀ k, (∃ x ∈ es.toList, x.key = .string k) ↔ k ∈ S) (k : ByteArray) :
  (k ∉ S ∧ Instr.findNow .string (.string k) es.toList 0 = some none ∧ ∀ x ∈ es.toList, x.key ≠ .string k) ∨
  ∃ i : Nat, Instr.findNow .string (.string k) es.toList 0 = some (some (i, .agg #[.bool true])) ∧ k ∈ S := by
 rcases findNow_spec (d := .string) (k := .string k) trivial es.toList 0 (fun x hx => (hk x hx).1) with ⟨h1, h2⟩ | ⟨j, e, h1, h2, h3⟩
 ·exact .inl ⟨fun hS => by
   obtain ⟨x, hx, e⟩ := (hm k).2 hS
   exact h2 x hx e, h1, h2⟩
 ·have he := List.mem_of_getElem? h2
  refine .inr ⟨j, ?_, (hm k).1 ⟨e, he, h3⟩⟩
  rw [h1, (hk e he).2, Nat.zero_add]
theorem seen_lookup (ht : P.underlying t = some (.map kt et)) (hk : P.underlying kt = some .string) (h : SeenAt W b S) (k : ByteArray) (hz : (zeroValue et).run P W = .ok (.agg #[.bool false]) W) :
  (k ∈ S ∧ (Instr.lookup t (.map (some b)) (.string k) false).run P W = .ok (.agg #[.bool true]) W) ∨ (k ∉ S ∧ (Instr.lookup t (.map (some b)) (.string k) false).run P W = .ok (.agg #[.bool false]) W) := by
 obtain ⟨es, clock, hb, hst, hkk, hm⟩ := h
 have hck := fun e => run_checkKey (P := P) (w := W) (k := .string k) hk trivial e 9999
 have hgo := MapKept.run_getObj_map (P := P) hb
 rcases seen_find hkk hm k with ⟨hS, hf, _⟩ | ⟨i, hf, hS⟩
 ·have hfk := run_findKey (P := P) (w := W) hk hf
  exact .inr ⟨hS, by simp [Instr.lookup, Sem.run_bind, run_underlying ht W, hgo, hck, hfk, hz]⟩
 ·have hfk := run_findKey (P := P) (w := W) hk hf
  exact .inl ⟨hS, by simp [Instr.lookup, Sem.run_bind, run_underlying ht W, hgo, hck, hfk]⟩
theorem seen_update (ht : P.underlying t = some (.map kt et)) (hk : P.underlying kt = some .string) (h : SeenAt W b S) (k : ByteArray) (hS : k ∉ S) :
  ∃ W', (Instr.mapUpdate t (.map (some b)) (.string k) (.agg #[.bool true])).run P W = .ok () W' ∧ SeenAt W' b (k :: S) ∧ OnlyB W W' b := by
 obtain ⟨es, clock, hb, hst, hkk, hm⟩ := h
 have hck := fun e => run_checkKey (P := P) (w := W) (k := .string k) hk trivial e 9999
 have hgo := MapKept.run_getObj_map (P := P) hb
 have hso := fun o => MapKept.run_setObj_map (P := P) o hb
 rcases seen_find hkk hm k with ⟨_, hf, hne⟩ | ⟨i, hf, hS2⟩
 rotate_left
 ·exact absurd hS2 hS
 have hfk := run_findKey (P := P) (w := W) hk hf
 refine ⟨_, ?_, ⟨es.push { key := .string k, val := .agg #[.bool true], born := clock }, clock + 1, (heap_set hb).1, stamped_push hst hne, ?_, ?_⟩, only_set hb⟩
 ·simp [Instr.mapUpdate, Sem.run_bind, run_underlying ht W, hgo, hck, hfk, hso]
 ·intro x hx
  rcases List.mem_append.1 (by rw [Array.toList_push] at hx; exact hx) with hx | hx
  ·exact hkk x hx
  ·obtain rfl := List.mem_singleton.1 hx
   exact ⟨trivial, rfl⟩
 ·intro j
  rw [Array.toList_push, List.mem_cons, ← hm j]
  constructor
  ·rintro ⟨x, hx, e1⟩
   rcases List.mem_append.1 hx with hx | hx
   ·exact .inr ⟨x, hx, e1⟩
   ·obtain rfl := List.mem_singleton.1 hx
    cases e1
    exact .inl rfl
  ·rintro (rfl | ⟨x, hx, e1⟩)
   ·exact ⟨_, List.mem_append_right _ (List.mem_singleton.2 rfl), rfl⟩
   ·exact ⟨x, List.mem_append_left _ hx, e1⟩
end
section
variable {P : Program} {W : World} {ops : Array Oper} {rest : List Oper} {o : Oper} {a : Act} {Q : Exit → Act → World → Prop} {b : Nat} {S : List ByteArray} {t kt et : TypeId}
theorem wpList_lookupS (hgd : o.guard = none) (x k : Operand) (ho : o.op = .lookup t x k false) (key : ByteArray) (r : Bool) (ht : P.underlying t = some (.map kt et)) (hk : P.underlying kt = some .string) (hz : (zeroValue et).run P W = .ok (.agg #[.bool false]) W)
  (hm : SeenAt W b S) (hr : key ∈ S ↔ r = true) (hx : a.eval x = .map (some b)) (hkey : a.eval k = .string key)
  (h : wpList P ops Q rest (a.put o.dst (.agg #[.bool r])) W) : wpList P ops Q (o :: rest) a W := by
 refine wpList_plain hgd fun K' hK' => ?_
 have hrun : (Instr.lookup t (.map (some b)) (.string key) false).run P W = .ok (.agg #[.bool r]) W := by
  rcases seen_lookup ht hk hm key hz with ⟨h1, h2⟩ | ⟨h1, h2⟩
  ·rw [hr.1 h1]; exact h2
  ·have : r = false := by
    cases r with
    | false => rfl
    | true => exact absurd (hr.2 rfl) h1
   rw [this]; exact h2
 unfold Oper.wp
 simp only [execOp, ho, hx, hkey, Sem.run_bind, hrun, Result.andThen_ok, Sem.run_pure]
 exact hK' _ _ h
theorem wpList_updateS (hgd : o.guard = none) (m x v : Operand) (ho : o.op = .mapUpdate t m x v) (key : ByteArray) (ht : P.underlying t = some (.map kt et)) (hk : P.underlying kt = some .string) (hm : SeenAt W b S) (hS : key ∉ S) (hm2 : a.eval m = .map (some b)) (hx : a.eval x = .string key) (hv : a.eval v = .agg #[.bool true])
  (h : ∀ W', SeenAt W' b (key :: S) → OnlyB W W' b → wpList P ops Q rest (a.put o.dst undef) W') : wpList P ops Q (o :: rest) a W := by
 refine wpList_plain hgd fun K hK => ?_
 obtain ⟨W', hrun, h1, h2⟩ := seen_update ht hk hm key hS
 unfold Oper.wp
 simp only [execOp, ho, hm2, hx, hv, Sem.run_bind, hrun, Result.andThen_ok, Sem.run_pure]
 exact hK _ _ (h W' h1 h2)
end
end Go.Proofs.YtddckdhnolmjoaaGreat
namespace Go.Proofs.YtddckdhnolmjoaaGreat
open Go.RowKit
set_option linter.unusedVariables false
set_option linter.unusedSimpArgs false
set_option linter.unnecessarySimpa false
set_option maxRecDepth 100000
set_option maxHeartbeats 4000000
structure CallC where
 num : Int
 node : Int
 o : OpC
 at_ : Int
 fr : Int
 tt : Int
 dn : Bool
 gone : Int
 seq : Int
 an : AnsC
def callL (x : CallC) : List Value := [.int .u64 x.num, .int .i64 x.node, .int .i64 x.o.o.k, .int .u64 x.o.o.v, .int .u64 x.o.o.t, .int .i64 x.o.o.s, .int .i64 x.o.o.a, .int .i64 x.o.o.c, .slice x.o.D x.o.n x.o.q, .int .i64 x.at_, .int .i64 x.fr, .int .i64 x.tt, .bool x.dn, .int .i64 x.gone, .int .i64 x.seq, .int .i64 x.an.code, .int .i64 x.an.done, .slice x.an.D x.an.n x.an.q]
def callZ : Value := .agg #[.int .u64 0, .int .i64 0, .int .i64 0, .int .u64 0, .int .u64 0, .int .i64 0, .int .i64 0, .int .i64 0, .slice none 0 0, .int .i64 0, .int .i64 0, .int .i64 0, .bool false, .int .i64 0, .int .i64 0, .int .i64 0, .int .i64 0, .slice none 0 0]
def callE : EK CallC := ⟨callL, 18, 51, 52, 176, callZ, fun _ => True⟩
theorem callIs : callE.Is where
 len := fun _ _ => rfl
 one := fun x _ v hv => by
  simp only [callE, callL, List.mem_cons, List.mem_nil_iff, or_false] at hv
  rcases hv with rfl | rfl | rfl | rfl | rfl | rfl | rfl | rfl | rfl | rfl | rfl | rfl | rfl | rfl | rfl | rfl | rfl | rfl <;> rfl
 pos := by decide
 hT := Tryz.underlying52
 hE := by kernel_rfl
 hz := rfl
 hb := by decide
structure CallOk (W : World) (x : CallC) : Prop where
 op : OpOk W x.o
 an : AnsOk 0 W x.an
 n0 : 0 ≤ x.num
 n1 : x.num < 18446744073709551616
theorem CallOk.gr {W W' : World} {x : CallC} (h : CallOk W x) (g : Gr W W') : CallOk W' x := ⟨h.op.gr g, h.an.gr g, h.n0, h.n1⟩
structure WrC where
 D : Nat
 M : Nat
 lo : Nat
 mid : Nat
 hi : Nat
 dev : Dev
 as_ : List (Int × AnsC)
abbrev WM := Dev × List (Int × AnsM)
def WrC.p (x : WrC) : WM := (x.dev, plainA x.as_)
def wrE : EK WrC := ⟨fun x => [.pointer (some ⟨x.D, 0, none⟩), .map (some x.M)], 2, 79, 80, 16, .agg #[.pointer none, .map none], fun _ => True⟩
theorem wrIs : wrE.Is where
 len := fun _ _ => rfl
 one := fun x _ v hv => by
  simp only [wrE, List.mem_cons, List.mem_nil_iff, or_false] at hv
  rcases hv with rfl | rfl <;> rfl
 pos := by decide
 hT := Tryz.underlying80
 hE := by kernel_rfl
 hz := rfl
 hb := by decide
def DevR (lo hi : Nat) (W : World) (D : Nat) (d : Dev) : Prop := ∃ M mb, DevIn lo W D M mb d ∧ D < hi ∧ M < hi ∧ ∀ p ∈ d, mb p.1 < hi
theorem devR_of {lo D : Nat} {W : World} {d : Dev} (h : DevAt lo W D d) : DevR lo W.heap.size W D d := by
 obtain ⟨M, mb, h⟩ := h
 exact ⟨M, mb, h, h.blk.lt, h.all.lt, fun p hp => (h.vol p hp).lt⟩
theorem DevR.at_ {lo hi D : Nat} {W : World} {d : Dev} (h : DevR lo hi W D d) : DevAt lo W D d := by
 obtain ⟨M, mb, h, _⟩ := h
 exact ⟨M, mb, h⟩
theorem DevR.keep {lo hi D : Nat} {W W' : World} {d : Dev} (h : DevR lo hi W D d) (hk : ∀ b, lo ≤ b → b < hi → W'.heap[b]? = W.heap[b]?) : DevR lo hi W' D d := by
 obtain ⟨M, mb, h, h1, h2, h3⟩ := h
 exact ⟨M, mb, ⟨⟨(hk D h.bD h1).trans h.blk.eq⟩, h.all.keep (hk M h.bM h2), fun p hp => (h.vol p hp).keep (hk _ (h.bV p hp) (h3 p hp)), h.inj, h.ne, h.bD, h.bM, h.bV, h.ok⟩, h1, h2, h3⟩
structure WrP (W : World) (x : WrC) : Prop where
 dev : DevR x.lo x.mid W x.D x.dev
 map : MapAt .u64 W x.M (encA x.as_)
 m0 : x.mid ≤ x.M
 m1 : x.M < x.hi
 hi : x.hi ≤ W.heap.size
 lo : x.lo ≤ x.mid
 ans : ∀ p ∈ x.as_, AnsOk 0 W p.2
 num : ∀ p ∈ x.as_, AnsN p
theorem WrP.keep {W W' : World} {x : WrC} (h : WrP W x) (hk : ∀ b, x.lo ≤ b → b < x.hi → W'.heap[b]? = W.heap[b]?) (hs : W.heap.size ≤ W'.heap.size) (hb : BK W W') : WrP W' x :=
 ⟨h.dev.keep fun b h1 h2 => hk b h1 (Nat.lt_trans h2 (Nat.lt_of_le_of_lt h.m0 h.m1)), h.map.keep (hk _ (Nat.le_trans h.lo h.m0) h.m1), h.m0, h.m1, Nat.le_trans h.hi hs, h.lo, fun p hp => (h.ans p hp).bk hb, h.num⟩
theorem WrP.gr {W W' : World} {x : WrC} (h : WrP W x) (g : Gr W W') : WrP W' x := h.keep (fun b _ h2 => g.below.block b (Nat.lt_of_lt_of_le h2 h.hi)) g.below.size (BK.gr g)
structure KX (X S : Nat) (W W' : World) : Prop where
 size : W.heap.size ≤ W'.heap.size
 keep : ∀ (b : Nat) o, W.heap[b]? = some o → b ≠ X → b ≠ S → rowX W X ≠ some b → W'.heap[b]? = some o
 row : ∀ b, rowX W' X = some b → rowX W X = some b ∨ W.heap.size ≤ b
 bk : BK W W'
theorem KX.refl (X S : Nat) (W : World) : KX X S W W := ⟨Nat.le_refl _, fun _ _ h _ _ _ => h, fun _ h => .inl h, BK.refl _⟩
theorem KX.trans {X S : Nat} {A B C : World} (h : KX X S A B) (k : KX X S B C) : KX X S A C where
 size := Nat.le_trans h.size k.size
 keep := fun b o hb h1 h2 h3 => by
  have hlt := (Array.getElem?_eq_some_iff.1 hb).1
  exact k.keep b o (h.keep b o hb h1 h2 h3) h1 h2 (fun e => (h.row b e).elim h3 (fun h4 => by omega))
 row := fun b hb => (k.row b hb).elim (fun e => h.row b e) (fun h2 => .inr (Nat.le_trans h.size h2))
 bk := h.bk.trans k.bk
theorem rowX_gr {W W' : World} {X : Nat} (g : Gr W W') (hX : X < W.heap.size) : rowX W' X = rowX W X := by
 unfold rowX
 rw [g.below.cell (p := ⟨X, 0, none⟩) hX]
theorem KX.gr {X S : Nat} {W W' : World} (g : Gr W W') (hX : X < W.heap.size) : KX X S W W' :=
 ⟨g.below.size, fun b o hb _ _ _ => (g.below.block b (Array.getElem?_eq_some_iff.1 hb).1).trans hb, fun b hb => .inl (by rw [← rowX_gr g hX]; exact hb), BK.gr g⟩
theorem KX.new {X S b : Nat} {A B C : World} (h : KX X S A B) (ho : OnlyB B C b) (hb : A.heap.size ≤ b) (hX : X < A.heap.size) (hbk : BK B C) : KX X S A C := by
 have hr : rowX C X = rowX B X := by
  unfold rowX World.cell?
  rw [ho.block (show X ≠ b by omega)]
 exact ⟨by rw [ho.2]; exact h.size, fun c o hc h1 h2 h3 => (ho.block (by have := (Array.getElem?_eq_some_iff.1 hc).1; omega)).trans (h.keep c o hc h1 h2 h3), fun c hc => h.row c (by rw [← hr]; exact hc), h.bk.trans hbk⟩
theorem BK.only {W W' : World} {b : Nat} {es : Array MapEntry} {clock : Nat} (hb : W.heap[b]? = some (.map es clock)) (h : OnlyB W W' b) : BK W W' := fun c cs f hc => h.block (fun e => by subst e; rw [hb] at hc; cases hc)
theorem BK.onlyK {q : IntKind} {W W' : World} {b : Nat} {L : List (Int × Value)} (hm : MapAt q W b L) (h : OnlyB W W' b) : BK W W' := by
 obtain ⟨es, clock, hb, _⟩ := hm
 exact BK.only hb h
structure Safe (X S : Nat) (v : Value) (x : WrC) : Prop where
 xx : X < x.lo ∨ x.hi ≤ X
 s : S < x.lo ∨ x.hi ≤ S
 r : ∀ g, v.ownBlock = some g → g < x.lo ∨ x.hi ≤ g
theorem row_of {W : World} {X : Nat} {v : Value} {T : TypeId} (h : BlockAt W X #[v] T) : rowX W X = v.ownBlock := by
 unfold rowX
 rw [@block_cells _ _ 0 _ _ h]
 rfl
theorem WrP.kx {X S : Nat} {W W' : World} {v : Value} {x : WrC} {T : TypeId} (h : WrP W x) (hs : Safe X S v x) (hX : BlockAt W X #[v] T) (k : KX X S W W') : WrP W' x := by
 refine h.keep (fun b h1 h2 => ?_) k.size k.bk
 have hb : b < W.heap.size := Nat.lt_of_lt_of_le h2 h.hi
 have e : W.heap[b]? = some W.heap[b] := Array.getElem?_eq_getElem hb
 rw [e]
 refine k.keep b _ e (fun e1 => ?_) (fun e1 => ?_) (fun e1 => ?_)
 ·have := hs.xx; omega
 ·have := hs.s; omega
 ·rw [row_of hX] at e1
  have := hs.r b e1
  omega
theorem Safe.kx {X S : Nat} {W W' : World} {v v' : Value} {x : WrC} {T : TypeId} (hs : Safe X S v x) (hX : BlockAt W X #[v] T) (hX' : BlockAt W' X #[v'] T) (k : KX X S W W') (hi : x.hi ≤ W.heap.size) : Safe X S v' x :=
 ⟨hs.xx, hs.s, fun g hg => by
  have := k.row g (by rw [row_of hX']; exact hg)
  rcases this with h | h
  ·rw [row_of hX] at h
   exact hs.r g h
  ·exact .inr (by omega)⟩
theorem KX.blockAt {X S : Nat} {W W' : World} {v : Value} {T' : TypeId} (k : KX X S W W') (hX : BlockAt W X #[v] T') {B : Nat} {cs : Array Value} {T : TypeId} (hB : BlockAt W B cs T) (h1 : B ≠ X) (h2 : B ≠ S) (h3 : v.ownBlock ≠ some B) : BlockAt W' B cs T := ⟨k.keep B _ hB.eq h1 h2 (by rw [row_of hX]; exact h3)⟩
theorem KX.own {α : Type} {e : EK α} {X S b : Nat} {W W' : World} {v u : Value} {xs : List α} {ys : List WrC} {base : Nat} (k : KX X S W W') (hX : BlockAt W X #[v] 80) (hw : OwnN wrE base W v ys) {sn : List ByteArray} (hS : SeenAt W S sn) (h : OwnN e b W u xs) (h1 : e.E ≠ 80) (h2 : e.E ≠ 79) : OwnN e b W' u xs := h.keep fun q hq => by
 obtain ⟨cs, hh⟩ := h.cellsBlock q hq
 rw [hh]
 refine k.keep q _ hh (fun e1 => ?_) (fun e1 => ?_) (fun e1 => ?_)
 ·subst e1
  rw [hX.eq] at hh
  exact h1 (Obj.cells.inj (Option.some.inj hh)).2.1.symm
 ·subst e1
  obtain ⟨es, clock, hb, _⟩ := hS
  rw [hb] at hh
  cases hh
 ·rw [row_of hX] at e1
  obtain ⟨cs2, hh2⟩ := hw.cellsBlock q e1
  rw [hh2] at hh
  exact h2 (Obj.cells.inj (Option.some.inj hh)).2.1.symm
/-! Plainly. -/
def keyW (x : WM) : Byt := keyM x.1 x.2
def baB (k : Byt) : ByteArray := ⟨k.toArray⟩
theorem baB_mem {k : Byt} {S : List Byt} : baB k ∈ S.map baB ↔ k ∈ S := by
 constructor
 ·intro h
  obtain ⟨k', hk, e⟩ := List.mem_map.1 h
  have : k' = k := by
   have e2 := congrArg (fun b : ByteArray => b.data.toList) e
   simpa [baB] using e2
  rw [← this]
  exact hk
 ·exact fun h => List.mem_map.2 ⟨k, h, rfl⟩
abbrev SoM := List Byt × List WM
def addM : Nat → List (Int × OpM) → WM → SoM → Option SoM
 | 0, _, _, _ => none
 | f + 1, may, x, st =>
  if 40 < x.1.length ∨ 40 < x.2.length then none
  else if keyW x ∈ st.1 then some st
  else if 5000 ≤ st.2.length then none
  else may.foldlM (fun st c => if (getK x.2 c.1).isSome then some st else (waysK x.1 c.2).foldlM (fun st a => addM f may (doneK x.1 c.2 a, putK x.2 c.1 a) st) st) (keyW x :: st.1, st.2 ++ [x])
theorem foldM_cons {α β : Type} (f : β → α → Option β) (a : α) (l : List α) (b : β) {c : β} (h : (a :: l).foldlM f b = some c) : ∃ b', f b a = some b' ∧ l.foldlM f b' = some c := by
 rw [List.foldlM_cons] at h
 exact Option.bind_eq_some_iff.1 h
set_option maxRecDepth 100000
set_option maxHeartbeats 4000000
abbrev ptrB (B : Nat) : Value := .pointer (some ⟨B, 0, none⟩)
abbrev addF (X Bs Bm Ba : Nat) : Value := .func (.func 94) #[] #[ptrB Bs, ptrB X, ptrB Bm, ptrB Ba]
def Dj (x y : WrC) : Prop := x.hi ≤ y.lo ∨ y.hi ≤ x.lo
structure StA (w : World) (X S Bs Bm Ba : Nat) (Am : Option Addr) (nm cm : Nat) (may : List CallC) (seen : List Byt) (out : List WrC) (v : Value) (W : World) : Prop where
 bx : BlockAt W X #[v] 80
 own : OwnN wrE w.heap.size W v out
 seen : SeenAt W S (seen.map baB)
 bs : BlockAt W Bs #[.map (some S)] 171
 bm : BlockAt W Bm #[.slice Am nm cm] 52
 ba : BlockAt W Ba #[addF X Bs Bm Ba] 172
 mr : OwnN callE w.heap.size W (.slice Am nm cm) may
 gr : Gr w W
 wX : w.heap.size ≤ X
 wS : w.heap.size ≤ S
 all : ∀ x ∈ out, WrP W x ∧ Safe X S v x
section
variable {w W W' : World} {X S Bs Bm Ba nm cm : Nat} {Am : Option Addr} {may : List CallC} {seen : List Byt} {out : List WrC} {v : Value}
theorem StA.grow (h : StA w X S Bs Bm Ba Am nm cm may seen out v W) (g : Gr W W') : StA w X S Bs Bm Ba Am nm cm may seen out v W' :=
 ⟨h.bx.gr g, h.own.gr g, h.seen.gr g, h.bs.gr g, h.bm.gr g, h.ba.gr g, h.mr.gr g, h.gr.trans g, h.wX, h.wS, fun x hx => ⟨(h.all x hx).1.gr g, (h.all x hx).2⟩⟩
theorem StA.neXS (h : StA w X S Bs Bm Ba Am nm cm may seen out v W) : X ≠ S := fun e => by
 subst e
 obtain ⟨es, clock, hb, _⟩ := h.seen
 rw [h.bx.eq] at hb
 cases hb
theorem StA.neS (h : StA w X S Bs Bm Ba Am nm cm may seen out v W) {B : Nat} {cs : Array Value} {T : TypeId} (hB : BlockAt W B cs T) : B ≠ S := fun e => by
 subst e
 obtain ⟨es, clock, hb, _⟩ := h.seen
 rw [hB.eq] at hb
 cases hb
theorem StA.neX (h : StA w X S Bs Bm Ba Am nm cm may seen out v W) {B : Nat} {cs : Array Value} {T : TypeId} (hB : BlockAt W B cs T) (hT : T ≠ 80) : B ≠ X := fun e => by
 subst e
 have := h.bx.eq
 rw [hB.eq] at this
 exact hT (Obj.cells.inj (Option.some.inj this)).2.1
theorem StA.neR (h : StA w X S Bs Bm Ba Am nm cm may seen out v W) {B : Nat} {cs : Array Value} {T : TypeId} (hB : BlockAt W B cs T) (hT : T ≠ 79) : v.ownBlock ≠ some B := fun e => by
 obtain ⟨cs2, hh⟩ := h.own.cellsBlock B e
 rw [hB.eq] at hh
 exact hT (Obj.cells.inj (Option.some.inj hh)).2.1
theorem StA.rowLt (h : StA w X S Bs Bm Ba Am nm cm may seen out v W) : ∀ g, v.ownBlock = some g → g < W.heap.size := fun g hg => (h.own.lt g hg).2
theorem sta_push {Wa Wb Wc Wd : World} {v1 : Value} {x : WrC} {k : Byt} (h : StA w X S Bs Bm Ba Am nm cm may seen out v W) (ga : Gr W Wa) (hob : OnlyB Wa Wb S) (hsb : SeenAt Wb S ((k :: seen).map baB)) (gc : Gr Wb Wc) (ha : AppN wrE w.heap.size Wc v out [x] v1 Wd)
  (hx : WrP W x) (hs : Safe X S v x) :
  StA w X S Bs Bm Ba Am nm cm may (k :: seen) (out ++ [x]) v1 (Wd.setCell ⟨X, 0, none⟩ v1) ∧ KX X S W (Wd.setCell ⟨X, 0, none⟩ v1) ∧ WrP (Wd.setCell ⟨X, 0, none⟩ v1) x ∧ Safe X S v1 x := by
 have hSa : SeenAt Wa S (seen.map baB) := h.seen.gr ga
 have hXa := h.bx.gr ga
 have hXW : X < W.heap.size := h.bx.lt
 have hXS := h.neXS
 have hXb : BlockAt Wb X #[v] 80 := ⟨(hob.block hXS).trans hXa.eq⟩
 have hXc := hXb.gr gc
 have hXd := ha.keep X _ _ hXc (by decide)
 have hXe : BlockAt (Wd.setCell ⟨X, 0, none⟩ v1) X #[v1] 80 := by
  haveI := hXd
  show BlockAt _ X (#[v].setIfInBounds 0 v1) _
  infer_instance
 have sa := ga.below.size
 have sb := hob.2
 have sc := gc.below.size
 have sd := ha.size
 have se : (Wd.setCell ⟨X, 0, none⟩ v1).heap.size = Wd.heap.size := by simp [World.setCell]
 obtain ⟨es, clock, hbS, _⟩ := hSa
 have bkb : BK Wa Wb := BK.only hbS hob
 have bkd : BK Wc Wd := BK.app ha (by decide)
 have bke : BK Wd (Wd.setCell ⟨X, 0, none⟩ v1) := fun b cs f hb => Below.heap_setCell Wd ⟨X, 0, none⟩ v1 b (fun e => by
  subst e
  rw [hXd.eq] at hb
  exact absurd (Obj.cells.inj (Option.some.inj hb)).2.1 (by decide))
 have hk : KX X S W (Wd.setCell ⟨X, 0, none⟩ v1) := by
  refine ⟨by omega, fun b o hb h1 h2 h3 => ?_, fun b hb => ?_, ((((BK.gr ga).trans bkb).trans (BK.gr gc)).trans bkd).trans bke⟩
  ·have hlt := (Array.getElem?_eq_some_iff.1 hb).1
   rw [row_of h.bx] at h3
   rw [Below.heap_setCell Wd ⟨X, 0, none⟩ v1 b h1, ha.gb.block b (by omega) (fun e => h3 e.symm), gc.below.block b (by omega), hob.block h2, ga.below.block b hlt]
   exact hb
  ·rw [row_of hXe] at hb
   rw [row_of h.bx]
   rcases ha.row b hb with h4 | h4
   ·exact .inl h4
   ·exact .inr (by omega)
 have hsafe : ∀ y, WrP W y → Safe X S v y → WrP (Wd.setCell ⟨X, 0, none⟩ v1) y ∧ Safe X S v1 y := fun y hy hs => ⟨hy.kx hs h.bx hk, hs.kx h.bx hXe hk hy.hi⟩
 refine ⟨⟨hXe, ha.own.set_ (hB := hXd) _ _ _ (by decide), ?_, ?_, ?_, ?_, ?_, ?_, h.wX, h.wS, ?_⟩, hk, (hsafe x hx hs).1, (hsafe x hx hs).2⟩
 ·refine (hsb.gr gc).keep ?_
  have e1 : S ≠ X := fun e => hXS e.symm
  have hSc : S < Wc.heap.size := by have := hsb.lt; omega
  rw [Below.heap_setCell Wd ⟨X, 0, none⟩ v1 S e1]
  refine ha.gb.block S hSc (fun e => ?_)
  obtain ⟨cs2, hh⟩ := h.own.cellsBlock S e.symm
  obtain ⟨es2, clock2, hb2, _⟩ := h.seen
  rw [hb2] at hh
  cases hh
 ·exact hk.blockAt h.bx h.bs (h.neX h.bs (by decide)) (h.neS h.bs) (h.neR h.bs (by decide))
 ·exact hk.blockAt h.bx h.bm (h.neX h.bm (by decide)) (h.neS h.bm) (h.neR h.bm (by decide))
 ·exact hk.blockAt h.bx h.ba (h.neX h.ba (by decide)) (h.neS h.ba) (h.neR h.ba (by decide))
 ·exact hk.own h.bx h.own h.seen h.mr (by decide) (by decide)
 ·have b1 : Below w.heap.size w Wb := hob.below h.wS (by rw [← sb]; exact hsb.lt) (h.gr.trans ga).below
  have b2 : Below w.heap.size w Wd := (b1.trans (gc.below.mono (by have := b1.size; omega))).trans ha.below
  exact Gr.of (b2.setCell (p := ⟨X, 0, none⟩) h.wX v1)
 ·intro y hy
  rw [List.mem_append, List.mem_singleton] at hy
  rcases hy with hy | rfl
  ·exact hsafe y (h.all y hy).1 (h.all y hy).2
  ·exact hsafe y hx hs
theorem sta_own {Wa Wb : World} (h : StA w X S Bs Bm Ba Am nm cm may seen out v W) (ga : Gr W Wa) (hob : OnlyB Wa Wb S) : OwnN wrE w.heap.size Wb v out ∧ w.heap.size ≤ Wb.heap.size := by
 refine ⟨(h.own.gr ga).keep fun q hq => hob.block (fun e => ?_), ?_⟩
 ·subst e
  obtain ⟨cs2, hh2⟩ := h.own.cellsBlock q hq
  obtain ⟨es2, clock2, hb2, _⟩ := h.seen
  rw [hb2] at hh2
  cases hh2
 ·have a1 := hob.2
  have a2 := h.gr.below.size
  have a3 := ga.below.size
  omega
theorem sta_box {Wb Wc Wd : World} {v1 : Value} {x : WrC} (h : StA w X S Bs Bm Ba Am nm cm may seen out v W) (gc : Gr Wb Wc) (ha : AppN wrE w.heap.size Wc v out [x] v1 Wd) {B : Nat} {cs : Array Value} {T : TypeId} (hB : BlockAt Wb B cs T) (hge : W.heap.size ≤ B) :
  BlockAt (Wd.setCell ⟨X, 0, none⟩ v1) B cs T ∧ v1.ownBlock ≠ some B := by
 have hXW : X < W.heap.size := h.bx.lt
 have hc := hB.gr gc
 have hv : ∀ g, v.ownBlock = some g → g < W.heap.size := h.rowLt
 refine ⟨⟨?_⟩, fun e => ?_⟩
 ·rw [Below.heap_setCell Wd ⟨X, 0, none⟩ v1 B (show B ≠ X by omega), ha.gb.block B hc.lt (fun e => by have := hv B e.symm; omega)]
  exact hc.eq
 ·rcases ha.row B e with h4 | h4
  ·have := hv B h4
   omega
  ·have := hB.lt
   have := gc.below.size
   have := hc.lt
   omega
end
theorem run_storeX (X n1 c1 : Nat) (A1 : Option Addr) (v : Value) (Wd : World) (bxd : BlockAt Wd X #[v] 80) : (storeVar 80 ⟨X, 0, none⟩ (.slice A1 n1 c1)).run Tryz.prog Wd = .ok () (Wd.setCell ⟨X, 0, none⟩ (.slice A1 n1 c1)) := by
 have cxd : Wd.cell? ⟨X, 0, none⟩ = some v := (@block_cells _ _ 0 _ _ bxd).trans rfl
 have fxd : Wd.frozen? ⟨X, 0, none⟩ = false := @block_frozen _ _ 0 _ _ bxd
 go_simp
theorem ansK_nn (d : Dev) (o : OpM) (most : Int) (hm : 0 ≤ most) (h9 : most ≤ 1073741824) : 0 ≤ (ansK d o most).1 ∧ (ansK d o most).1 ≤ 100 ∧ 0 ≤ (ansK d o most).2.1 ∧ (ansK d o most).2.1 ≤ 1073741824 := by
 have he : 0 ≤ errK d o ∧ errK d o ≤ 100 := by
  unfold errK
  repeat' split
  all_goals omega
 unfold ansK
 repeat' split
 all_goals simp only
 all_goals omega
theorem waysK_nn (d : Dev) (o : OpM) : ∀ a ∈ waysK d o, 0 ≤ a.1 ∧ a.1 ≤ 100 ∧ 0 ≤ a.2.1 ∧ a.2.1 ≤ 1073741824 := by
 intro a ha
 have h0 := ansK_nn d o 1024 (by omega) (by omega)
 have hl := waysK_len d o
 unfold waysK at ha hl
 rcases List.mem_cons.1 ha with rfl | ha
 ·exact h0
 ·split at ha
  ·simp at ha
  ·rename_i hn
   rw [if_neg hn] at hl
   split at ha
   ·rename_i h5
    rw [if_pos h5] at hl
    obtain ⟨k, hk, rfl⟩ := List.mem_map.1 ha
    have := List.mem_range.1 hk
    simp only [List.length_cons, List.length_map, List.length_range] at hl
    simp only
    omega
   ·rw [List.mem_singleton] at ha
    subst ha
    simp
def AddPost (w : World) (X S Bs Bm Ba : Nat) (Am : Option Addr) (nm cm : Nat) (may : List CallC) (W : World) (x : WrC) (out : List WrC) (seen' : List Byt) (outM : List WM) (e : Ending) (w' : World) : Prop :=
 ∃ v' new, e = .returned (.bool true) ∧ StA w X S Bs Bm Ba Am nm cm may seen' (out ++ new) v' w' ∧ (out ++ new).map WrC.p = outM ∧ KX X S W w' ∧ (∀ y ∈ new, y = x ∨ W.heap.size ≤ y.lo) ∧ (out ++ new).Pairwise Dj
set_option maxRecDepth 100000
set_option maxHeartbeats 4000000
abbrev wrV (x : WrC) : Array Value := #[.pointer (some ⟨x.D, 0, none⟩), .map (some x.M)]
structure Lp (w : World) (X S Bs Bm Ba : Nat) (Am : Option Addr) (nm cm : Nat) (may : List CallC) (W : World) (x : WrC) (out : List WrC) (sn : List Byt) (new : List WrC) (v : Value) (wr : World) : Prop where
 st : StA w X S Bs Bm Ba Am nm cm may sn (out ++ new) v wr
 kx : KX X S W wr
 nw : ∀ y ∈ new, y = x ∨ W.heap.size ≤ y.lo
 pw : (out ++ new).Pairwise Dj
 xm : x ∈ new
 bx : BlockAt wr W.heap.size (wrV x) 79
 br : v.ownBlock ≠ some W.heap.size
 xW : X < W.heap.size
section
variable {w W wr wr' : World} {X S Bs Bm Ba nm cm : Nat} {Am : Option Addr} {may : List CallC} {sn : List Byt} {out new : List WrC} {v : Value} {x : WrC}
theorem Lp.xp (h : Lp w X S Bs Bm Ba Am nm cm may W x out sn new v wr) : WrP wr x := (h.st.all x (List.mem_append_right _ h.xm)).1
theorem Lp.gr (h : Lp w X S Bs Bm Ba Am nm cm may W x out sn new v wr) (g : Gr wr wr') : Lp w X S Bs Bm Ba Am nm cm may W x out sn new v wr' :=
 ⟨h.st.grow g, h.kx.trans (KX.gr g h.st.bx.lt), h.nw, h.pw, h.xm, h.bx.gr g, h.br, h.xW⟩
theorem BlockAt.onlyK {q : IntKind} {W6 wg : World} {b : Nat} {L : List (Int × Value)} (hm : MapAt q wg b L) (ho : OnlyB wg W6 b) {B : Nat} {cs : Array Value} {T : TypeId} (hB : BlockAt wg B cs T) : BlockAt W6 B cs T := ⟨(ho.block (fun e => by
 subst e
 obtain ⟨es, clock, hb, _⟩ := hm
 rw [hB.eq] at hb
 cases hb)).trans hB.eq⟩
theorem OwnN.onlyK {α : Type} {e : EK α} {base : Nat} {u : Value} {xs : List α} {q : IntKind} {W6 wg : World} {b : Nat} {L : List (Int × Value)} (hm : MapAt q wg b L) (ho : OnlyB wg W6 b) (h : OwnN e base wg u xs) : OwnN e base W6 u xs := h.keep fun k hk => ho.block (fun e2 => by
 subst e2
 obtain ⟨cs, hh⟩ := h.cellsBlock k hk
 obtain ⟨es, clock, hb, _⟩ := hm
 rw [hh] at hb
 cases hb)
theorem Lp.turn {wg W6 : World} {M2 : Nat} {L : List (Int × Value)} (h : Lp w X S Bs Bm Ba Am nm cm may W x out sn new v wr) (g : Gr wr wg) (hm : MapAt .u64 wg M2 L) (ho : OnlyB wg W6 M2) (hM : wr.heap.size ≤ M2) : Lp w X S Bs Bm Ba Am nm cm may W x out sn new v W6 := by
 have h2 := h.gr g
 have hk := BK.onlyK hm ho
 have hsz := ho.2
 refine ⟨⟨BlockAt.onlyK hm ho h2.st.bx, OwnN.onlyK hm ho h2.st.own, h2.st.seen.keep (ho.block (by have := h.st.seen.lt; omega)), BlockAt.onlyK hm ho h2.st.bs, BlockAt.onlyK hm ho h2.st.bm, BlockAt.onlyK hm ho h2.st.ba, OwnN.onlyK hm ho h2.st.mr, ?_, h.st.wX, h.st.wS, fun y hy => ⟨?_, (h2.st.all y hy).2⟩⟩, ?_, h.nw, h.pw, h.xm, BlockAt.onlyK hm ho h2.bx, h.br, h.xW⟩
 ·exact Gr.of (ho.below (by have := h.st.gr.below.size; omega) hm.lt h2.st.gr.below)
 ·have hy0 := (h.st.all y hy).1
  exact (hy0.gr g).keep (fun b _ hb => ho.block (by have := hy0.hi; omega)) (by omega) hk
 ·exact h2.kx.new ho (by have := h.kx.size; omega) h.xW hk
theorem Lp.add {W6 w' : World} {x2 : WrC} {sn' : List Byt} {outM : List WM} {e : Ending} (h : Lp w X S Bs Bm Ba Am nm cm may W x out sn new v W6) (hB : W.heap.size < W6.heap.size) (hlo : W.heap.size ≤ x2.lo) (ha : AddPost w X S Bs Bm Ba Am nm cm may W6 x2 (out ++ new) sn' outM e w') :
  e = .returned (.bool true) ∧ ∃ v' new', Lp w X S Bs Bm Ba Am nm cm may W x out sn' new' v' w' ∧ (out ++ new').map WrC.p = outM ∧ KX X S W6 w' := by
 obtain ⟨v', n2, rfl, hst, hm, hk, hn, hp⟩ := ha
 rw [List.append_assoc] at hst hm hp
 refine ⟨rfl, v', new ++ n2, ⟨hst, h.kx.trans hk, fun y hy => ?_, hp, List.mem_append_left _ h.xm, hk.blockAt h.st.bx h.bx (h.st.neX h.bx (by decide)) (h.st.neS h.bx) h.br, fun e => ?_, h.xW⟩, hm, hk⟩
 ·rcases List.mem_append.1 hy with hy | hy
  ·exact h.nw y hy
  ·rcases hn y hy with rfl | h3
   ·exact .inr hlo
   ·exact .inr (by have := h.kx.size; omega)
 ·rcases hk.row W.heap.size (by rw [row_of hst.bx]; exact e) with h4 | h4
  ·rw [row_of h.st.bx] at h4
   exact h.br h4
  ·omega
end
theorem DevR.row {lo hi D B : Nat} {W : World} {d : Dev} {cs cs' : Array Value} (h : DevR lo hi W D d) (hB : BlockAt W B cs 79) : DevR lo hi (W.setRow B cs') D d := by
 obtain ⟨M, mb, h, h1, h2, h3⟩ := h
 have hm : ∀ (q : IntKind) (b : Nat) L, MapAt q W b L → MapAt q (W.setRow B cs') b L := fun q b L hm => hm.keep (setRow_other W B b cs' (fun e => by
  subst e
  obtain ⟨es, clock, hb, _⟩ := hm
  rw [hB.eq] at hb
  cases hb))
 refine ⟨M, mb, ⟨⟨(setRow_other W B D cs' (fun e => ?_)).trans h.blk.eq⟩, hm _ _ _ h.all, fun p hp => hm _ _ _ (h.vol p hp), h.inj, h.ne, h.bD, h.bM, h.bV, h.ok⟩, h1, h2, h3⟩
 subst e
 have := h.blk.eq
 rw [hB.eq] at this
 exact absurd (Obj.cells.inj (Option.some.inj this)).2.1 (by decide)
theorem MapAt.rowK {q : IntKind} {B b : Nat} {W : World} {L : List (Int × Value)} {cs cs' : Array Value} {T : TypeId} (hm : MapAt q W b L) (hB : BlockAt W B cs T) : MapAt q (W.setRow B cs') b L := hm.keep (setRow_other W B b cs' (fun e => by
 subst e
 obtain ⟨es, clock, hb, _⟩ := hm
 rw [hB.eq] at hb
 cases hb))
theorem DevR.gr {lo hi D : Nat} {W W' : World} {d : Dev} (h : DevR lo hi W D d) (g : Gr W W') : DevR lo hi W' D d := by
 obtain ⟨M, mb, h, h1, h2, h3⟩ := h
 exact ⟨M, mb, h.gr g, h1, h2, h3⟩
theorem wrP_next {W10 W11 : World} {x : WrC} {lo mid M2 D2 : Nat} {dz : Dev} {num : Int} {a : AnsC} (hd : DevR lo mid W10 D2 dz) (hm : MapAt .u64 W10 M2 (encA x.as_)) (h1 : MapAt .u64 W11 M2 (putK (encA x.as_) num (ansV a))) (h2 : OnlyB W10 W11 M2) (hlm : lo ≤ mid) (hmM : mid ≤ M2) (hx : WrP W10 x)
  (ha : AnsOk 0 W10 a) (hn : AnsN (num, a)) : WrP W11 ⟨D2, M2, lo, mid, M2 + 1, dz, putK x.as_ num a⟩ := by
 have hs : SortK x.as_ := by
  have := hm.sort
  have h3 := List.pairwise_map.1 this
  exact h3
 have hk := BK.onlyK hm h2
 refine ⟨hd.keep fun b _ hb => h2.block (by omega), ?_, hmM, Nat.lt_succ_self _, h1.lt, hlm, fun p hp => ?_, fun p hp => ?_⟩
 ·rw [show encA (putK x.as_ num a) = putK (encA x.as_) num (ansV a) from (putK_enc ansV x.as_ num a).symm]
  exact h1
 ·rcases (mem_putK hs p).1 hp with rfl | ⟨hp, _⟩
  ·exact ha.bk hk
  ·exact (hx.ans p hp).bk hk
 ·rcases (mem_putK hs p).1 hp with rfl | ⟨hp, _⟩
  ·exact hn
  ·exact hx.num p hp
theorem wp_storeCall {W0 W : World} {ops : Array Oper} {rest : List Oper} {o : Oper} {a : Act} {Q : Exit → Act → World → Prop} (hgd : o.guard = none) (x y : Operand) (ho : o.op = .store 51 x y) (B : Nat) (c : CallC) (zs : Array Value) (hx : a.eval x = .pointer (some ⟨B, 0, none⟩)) (hy : a.eval y = .agg (callL c).toArray) (hB : BlockAt W B zs 51) (hz : zs.size = 18) (g0 : Gr W0 W) (hle : W0.heap.size ≤ B)
  (h : ∀ W7, Gr W0 W7 → BlockAt W7 B (callL c).toArray 51 → wpList Tryz.prog ops Q rest (a.put o.dst undef) W7) : wpList Tryz.prog ops Q (o :: rest) a W :=
 wpList_storeRow hgd _ x y ho B zs (callL c).toArray hx hy hB (by kernel_rfl) (by rw [hz]; rfl) (fun u hu => callIs.one c trivial u (by simpa [callE] using hu))
  (h _ (Gr.of (below_row g0.below hle _)) (blockAt_row (h := hB) _ _ _ _ _))
def KeptT (T : TypeId) (w w' : World) : Prop := ∀ B cs, BlockAt w B cs T → BlockAt w' B cs T
theorem KeptT.refl (T : TypeId) (w : World) : KeptT T w w := fun _ _ h => h
theorem KeptT.gr {T : TypeId} {w w' : World} (g : Gr w w') : KeptT T w w' := fun _ _ h => h.gr g
theorem KeptT.trans {T : TypeId} {a b c : World} (h : KeptT T a b) (k : KeptT T b c) : KeptT T a c := fun B cs hb => k B cs (h B cs hb)
section
variable {P : Program} {md : Region.Mode} {W : World} {S : Type} {I : S → World → Prop} {l : List Oper} {T : TypeId} {zc : Array Value}
def wpFlo (P : Program) (ops : Array Oper) (W : World) (I : S → World → Prop) (T : TypeId) (Q : S → Act → Prop) : List (Oper × Bool) → S → Act → Prop
 | [], s, a => Q s a
 | (o, true) :: r, s, a => ∃ v, CalmOp P ops W o v a ∧ wpFlo P ops W I T Q r s (a.put o.dst v)
 | (o, false) :: r, s, a => Region.wanted o (yielded ops a.tmps) = true ∧ ∀ w, I s w → EffAt P o a w (fun v w' => KeptT T w w' ∧ ∃ s', I s' w' ∧ wpFlo P ops W I T Q r s' (a.put o.dst v))
def pickF (l : List Oper) : List (Nat × Bool) → List (Oper × Bool)
 | [] => []
 | (k, b) :: r => match l[k]? with
  | some o => (o, b) :: pickF l r
  | none => []
theorem pickF_cons {k : Nat} {b : Bool} {r : List (Nat × Bool)} {o : Oper} (h : l[k]? = some o) : pickF l ((k, b) :: r) = (o, b) :: pickF l r := by
 simp [pickF, h]
def apartB (ops : Array Oper) (i k : Nat) : Bool := match ops[i]?, ops[k]? with
 | some oi, some ok => oi.apart ops ok
 | _, _ => false
def floB (md : Region.Mode) (ops : Array Oper) (k m : Nat) (ts : List Nat) : List (Nat × Bool) → Array Bool → Bool
 | [], listed => decide (Region.ready md ops listed = [k]) && decide (Region.ready md ops (listed.setIfInBounds k true) = [m]) && (freeAll md ops ts ((listed.setIfInBounds k true).setIfInBounds m true) && decide (Region.ready md ops (listAll ts ((listed.setIfInBounds k true).setIfInBounds m true)) = [])) && !(k == m)
 | (i, true) :: r, listed => (Region.ready md ops listed).contains i && Region.free md ops listed i && (Region.ready md ops (listed.setIfInBounds k true)).contains i && Region.free md ops (listed.setIfInBounds k true) i && apartB ops i k && !(k == i) && floB md ops k m ts r (listed.setIfInBounds i true)
 | (i, false) :: r, listed => (decide (Region.ready md ops listed = [i, k]) || decide (Region.ready md ops listed = [k, i])) && decide (Region.ready md ops (listed.setIfInBounds k true) = [i]) && apartB ops i k && !(k == i) && floB md ops k m ts r (listed.setIfInBounds i true)
def InFlo (W : World) (I : S → World → Prop) (T : TypeId) (zc : Array Value) (sx : S × Option Nat) (w : World) : Prop := I sx.1 w ∧ ∀ X, sx.2 = some X → BlockAt w X zc T ∧ W.heap.size ≤ X
theorem inFlo_ghost (G : Ghost W I) : Ghost W (InFlo W I T zc) := ⟨fun s w w' h g => ⟨G.grow _ _ _ h.1 g, fun X hX => ⟨(h.2 X hX).1.gr g, (h.2 X hX).2⟩⟩, fun s w h => G.out _ _ h.1⟩
def ptrAt (X : Nat) : Value := .pointer (some ⟨X, 0, none⟩)
def FloEnd (P : Program) (W : World) (I : S → World → Prop) (T : TypeId) (zc : Array Value) (ok om : Oper) (ops : Array Oper) (tl : List Oper) (E : Act → World → Prop) (s : S) (a : Act) : Prop :=
 ∀ X, Region.wanted om (yielded ops (a.put ok.dst (ptrAt X)).tmps) = true ∧ ∀ w, I s w → BlockAt w X zc T → W.heap.size ≤ X → EffAt P om (a.put ok.dst (ptrAt X)) w (fun v w' => ∃ s', I s' w' ∧ wpCalm P ops W (fun a' => ∀ w'', I s' w'' → E a' w'') tl ((a.put ok.dst (ptrAt X)).put om.dst v))
variable {k m : Nat} {ts : List Nat} {ok om : Oper} {E : Act → World → Prop}
theorem wpCalm_mono {ops : Array Oper} {Q Q' : Act → Prop} (hq : ∀ a, Q a → Q' a) : ∀ (r : List Oper) (a : Act), wpCalm P ops W Q r a → wpCalm P ops W Q' r a
 | [], a, h => hq a h
 | o :: r, a, h => by
  unfold wpCalm at h ⊢
  split at h
  ·rename_i hw
   simp only [hw, if_true]
   obtain ⟨v, hv, hk⟩ := h
   exact ⟨v, hv, wpCalm_mono hq r _ hk⟩
  ·rename_i hw
   simp only [hw]
   exact wpCalm_mono hq r _ h
theorem flo_done (G : Ghost W I) (hsel : Region.noSelect l.toArray = true) (hk : l.toArray[k]? = some ok) (hm : l.toArray[m]? = some om) :
  ∀ (ss : List (Nat × Bool)) (listed : Array Bool) (s : S) (a : Act) (X : Nat), floB md l.toArray k m ts ss listed = true → wpFlo P l.toArray W I T (FloEnd P W I T zc ok om l.toArray (pick l ts) E) (pickF l ss) s a →
   feAny P md l.toArray W (InFlo W I T zc) (fun sx a' => ∀ w', InFlo W I T zc sx w' → E a' w') (ts.length + 1 + ss.length) (listed.setIfInBounds k true) (s, some X) (a.put ok.dst (ptrAt X))
 | [], listed, s, a, X, hB, h => by
  simp only [floB, Bool.and_eq_true, decide_eq_true_eq] at hB
  obtain ⟨⟨⟨_, h2⟩, h0, h3⟩, _⟩ := hB
  obtain ⟨hw, hE⟩ := h X
  refine fe_one m h2 (.inr ⟨om, hm, hw, fun w hI => ?_⟩)
  refine effUpon_mono (fun v w' ⟨s', hs', hf⟩ => ⟨(s', none), ⟨hs', fun X hX => by cases hX⟩, ?_⟩) _ (hE w hI.1 (hI.2 X rfl).1 (hI.2 X rfl).2)
  have := feAny_lexT (md := md) (P := P) (W := W) (I := InFlo W I T zc) (Lq := fun sx a' => ∀ w', InFlo W I T zc sx w' → E a' w') hsel 0 ts _ (s', none) _ h0 (wpCalm_mono (fun a' ha => ⟨h3, fun w'' hw'' => ha w'' hw''.1⟩) _ _ hf)
  exact this
 | (i, true) :: r, listed, s, a, X, hB, h => by
  simp only [floB, Bool.and_eq_true] at hB
  obtain ⟨⟨⟨⟨⟨⟨_, _⟩, hr⟩, hf⟩, hap⟩, hne⟩, hB'⟩ := hB
  have hr' : i ∈ Region.ready md l.toArray (listed.setIfInBounds k true) := by simpa using hr
  obtain ⟨_, oi, hi, _⟩ := mem_ready.1 hr'
  have hi' : l[i]? = some oi := by simpa using hi
  rw [pickF_cons hi'] at h
  obtain ⟨v, hv, hr2⟩ := h
  simp only [apartB, hi, hk] at hap
  obtain ⟨p1, p2, p3⟩ := Oper.apart_spec hap
  have hki : ¬ k = i := by simpa using hne
  have IH := flo_done G hsel hk hm r (listed.setIfInBounds i true) s (a.put oi.dst v) X hB' hr2
  refine feAny_first hi (Region.noSelect_spec hsel) _ _ _ _ (Region.free_spec hi hf) hr' (hv.put (fun cs b => Region.noSelect_spec hsel i oi cs b hi) p3) ?_
  rw [Array.setIfInBounds_comm _ _ hki, Act.put_comm a (ptrAt X) v (fun d hd he => p2 d he hd)]
  exact IH
 | (i, false) :: r, listed, s, a, X, hB, h => by
  simp only [floB, Bool.and_eq_true, decide_eq_true_eq] at hB
  obtain ⟨⟨⟨⟨_, hr⟩, hap⟩, hne⟩, hB'⟩ := hB
  have hr' : i ∈ Region.ready md l.toArray (listed.setIfInBounds k true) := by rw [hr]; simp
  obtain ⟨_, oi, hi, _⟩ := mem_ready.1 hr'
  have hi' : l[i]? = some oi := by simpa using hi
  rw [pickF_cons hi'] at h
  obtain ⟨hw, hE⟩ := h
  simp only [apartB, hi, hk] at hap
  obtain ⟨p1, p2, p3⟩ := Oper.apart_spec hap
  have hki : ¬ k = i := by simpa using hne
  have hse := fun cs b => Region.noSelect_spec hsel i oi cs b hi
  refine fe_one i hr (.inr ⟨oi, hi, by rw [wanted_put oi a ok.dst (ptrAt X) p3]; exact hw, fun w hI => ?_⟩)
  have h3 := hE w hI.1
  unfold EffAt at *
  rw [execOp_put oi hse a ok.dst (ptrAt X) p3]
  refine effUpon_mono (fun v w' ⟨hkp, s', hs', hf⟩ => ⟨(s', some X), ⟨hs', fun Y hY => ⟨hkp _ _ (hI.2 Y hY).1, (hI.2 Y hY).2⟩⟩, ?_⟩) _ h3
  have IH := flo_done G hsel hk hm r (listed.setIfInBounds i true) s' (a.put oi.dst v) X hB' hf
  rw [Array.setIfInBounds_comm _ _ hki, Act.put_comm a (ptrAt X) v (fun d hd he => p2 d he hd)]
  exact IH
theorem flo_alloc {z : Value} (ho : ok.op = .alloc T) (hg : ok.guard = none) (hz : ∀ w, (zeroValue T).run P w = .ok z w) (G : Ghost W I) {K : S × Option Nat → Act → Prop} {ops : Array Oper} (hk : ops[k]? = some ok) {s : S} {a : Act}
  (h : ∀ X, K (s, some X) (a.put ok.dst (ptrAt X))) : feOp P ops W (InFlo W I T z.cells) k K (s, none) a := by
 refine .inr ⟨ok, hk, by simp [Region.wanted, hg], fun w hI => ?_⟩
 refine effAt_alloc ho hz ⟨(s, some w.heap.size), ⟨G.grow _ _ _ hI.1 (Gr.of (below_alloc (Below.refl _ _) _)), fun X hX => ?_⟩, h _⟩
 obtain rfl := Option.some.inj hX
 exact ⟨inferInstance, (G.out _ _ hI.1).below.size⟩
theorem flo_any {z : Value} (ho : ok.op = .alloc T) (hg : ok.guard = none) (hz : ∀ w, (zeroValue T).run P w = .ok z w) (G : Ghost W I) (hsel : Region.noSelect l.toArray = true) (hk : l.toArray[k]? = some ok) (hm : l.toArray[m]? = some om) :
  ∀ (ss : List (Nat × Bool)) (listed : Array Bool) (s : S) (a : Act), floB md l.toArray k m ts ss listed = true → wpFlo P l.toArray W I T (FloEnd P W I T z.cells ok om l.toArray (pick l ts) E) (pickF l ss) s a →
   feAny P md l.toArray W (InFlo W I T z.cells) (fun sx a' => ∀ w', InFlo W I T z.cells sx w' → E a' w') (ts.length + 2 + ss.length) listed (s, none) a
 | [], listed, s, a, hB, h => by
  have hB0 := hB
  simp only [floB, Bool.and_eq_true, decide_eq_true_eq] at hB
  obtain ⟨⟨⟨h1, _⟩, _⟩, _⟩ := hB
  exact fe_one k h1 (flo_alloc ho hg hz G hk fun X => flo_done G hsel hk hm [] listed s a X hB0 h)
 | (i, true) :: r, listed, s, a, hB, h => by
  simp only [floB, Bool.and_eq_true] at hB
  obtain ⟨⟨⟨⟨⟨⟨hr, hf⟩, _⟩, _⟩, hap⟩, hne⟩, hB'⟩ := hB
  have hr' : i ∈ Region.ready md l.toArray listed := by simpa using hr
  obtain ⟨_, oi, hi, _⟩ := mem_ready.1 hr'
  have hi' : l[i]? = some oi := by simpa using hi
  rw [pickF_cons hi'] at h
  obtain ⟨v, hv, hr2⟩ := h
  exact feAny_first hi (Region.noSelect_spec hsel) _ _ _ _ (Region.free_spec hi hf) hr' hv (flo_any ho hg hz G hsel hk hm r _ s _ hB' hr2)
 | (i, false) :: r, listed, s, a, hB, h => by
  have hB0 := hB
  have h0 := h
  simp only [floB, Bool.and_eq_true, decide_eq_true_eq, Bool.or_eq_true] at hB
  obtain ⟨⟨⟨⟨hrd, _⟩, hap⟩, hne⟩, hB'⟩ := hB
  have hr' : i ∈ Region.ready md l.toArray listed := by rcases hrd with h | h <;> (rw [h]; simp)
  obtain ⟨_, oi, hi, _⟩ := mem_ready.1 hr'
  have hi' : l[i]? = some oi := by simpa using hi
  rw [pickF_cons hi'] at h
  obtain ⟨hw, hE⟩ := h
  have step1 : feOp P l.toArray W (InFlo W I T z.cells) i (feAny P md l.toArray W (InFlo W I T z.cells) (fun sx a' => ∀ w', InFlo W I T z.cells sx w' → E a' w') (ts.length + 2 + r.length) (listed.setIfInBounds i true)) (s, none) a := by
   refine .inr ⟨oi, hi, hw, fun w hI => ?_⟩
   have h3 := hE w hI.1
   unfold EffAt at *
   refine effUpon_mono (fun v w' ⟨_, s', hs', hf⟩ => ⟨(s', none), ⟨hs', fun Y hY => by cases hY⟩, flo_any ho hg hz G hsel hk hm r _ s' _ hB' hf⟩) _ h3
  have step2 : feOp P l.toArray W (InFlo W I T z.cells) k (feAny P md l.toArray W (InFlo W I T z.cells) (fun sx a' => ∀ w', InFlo W I T z.cells sx w' → E a' w') (ts.length + 2 + r.length) (listed.setIfInBounds k true)) (s, none) a :=
   flo_alloc ho hg hz G hk fun X => by
    have h9 := flo_done G hsel hk hm ((i, false) :: r) listed s a X hB0 h0
    rw [show ts.length + 1 + ((i, false) :: r).length = ts.length + 2 + r.length by (simp only [List.length_cons]; omega)] at h9
    exact h9
  rcases hrd with h | h
  ·exact fe_two i k h step1 step2
  ·exact fe_two k i h step2 step1
theorem wp_region_flo {id : Nat} {Q : Exit → Act → World → Prop} {a : Act} {w : World} {z : Value} (G : Ghost W I) (s : S) (hw : I s w.drew) (qs : List Nat) (ss : List (Nat × Bool)) (k m : Nat) (ts : List Nat) (ho : ok.op = .alloc T) (hg : ok.guard = none) (hz : ∀ w, (zeroValue T).run P w = .ok z w)
  (hk : l.toArray[k]? = some ok) (hm : l.toArray[m]? = some om) (hmix : P.follows .mixedOrders = true) (hB : treeB .any l.toArray qs (ts.length + 2 + ss.length) = true) (hF : floB .any l.toArray k m ts ss (listAll qs (Array.replicate l.toArray.size false)) = true)
  (h : wpCalm P l.toArray W (fun a' => wpFlo P l.toArray W I T (FloEnd P W I T z.cells ok om l.toArray (pick l ts) (fun a3 w3 => Q .normal a3 w3)) (pickF l ss) s a') (pick l qs) a) : (Code.region id l.toArray true).wp P Q a w := by
 have hsel : Region.noSelect l.toArray = true := by
  have := hB
  simp only [treeB, Bool.and_eq_true] at this
  exact this.1.1
 refine wp_region_tree (I := InFlo W I T z.cells) (inFlo_ghost G) (s, none) ⟨hw, fun X hX => by cases hX⟩ qs (ts.length + 2 + ss.length) hmix hB ?_
 exact wpCalm_mono (fun a' ha => flo_any ho hg hz G hsel hk hm ss _ s a' hF ha) _ _ h
theorem flo_calm {ops : Array Oper} {Q : S → Act → Prop} {s : S} {a : Act} {o : Oper} {r : List (Oper × Bool)} (v : Value) (hg : o.guard = none) (hc : ∀ g : Growth W, calmAt P o a (grown W g) v) (h : wpFlo P ops W I T Q r s (a.put o.dst v)) : wpFlo P ops W I T Q ((o, true) :: r) s a :=
 ⟨v, .inl ⟨by simp [Region.wanted, hg], hc⟩, h⟩
theorem flo_eff {ops : Array Oper} {Q : S → Act → Prop} {s : S} {a : Act} {o : Oper} {r : List (Oper × Bool)} (hg : o.guard = none) (h : ∀ w, I s w → EffAt P o a w (fun v w' => KeptT T w w' ∧ ∃ s', I s' w' ∧ wpFlo P ops W I T Q r s' (a.put o.dst v))) : wpFlo P ops W I T Q ((o, false) :: r) s a :=
 ⟨by simp [Region.wanted, hg], h⟩
theorem flo_end {ops : Array Oper} {tl : List Oper} {ok om : Oper} {s : S} {a : Act} (hg : om.guard = none) (h : ∀ X w, I s w → BlockAt w X zc T → W.heap.size ≤ X → EffAt P om (a.put ok.dst (ptrAt X)) w (fun v w' => ∃ s', I s' w' ∧ wpCalm P ops W (fun a' => ∀ w'', I s' w'' → E a' w'') tl ((a.put ok.dst (ptrAt X)).put om.dst v))) : wpFlo P ops W I T (FloEnd P W I T zc ok om ops tl E) [] s a :=
 fun X => ⟨by simp [Region.wanted, hg], fun w hw hX hl => h X w hw hX hl⟩
end
def Cls.and {W : World} (s : Cls W) (e : World → Prop) (hg : ∀ w w', e w → Gr w w' → e w') : Cls W := ⟨fun w => e w ∧ s.e w, fun w w' h g => ⟨hg _ _ h.1 g, s.grow _ _ h.2 g⟩⟩
def Cls.just (W : World) (e : World → Prop) (hg : ∀ w w', e w → Gr w w' → e w') : Cls W := ⟨e, hg⟩
structure StJ where
 j : World → Prop
 e : World → Prop
section
variable {P : Program} {ops : Array Oper} {md : Region.Mode}
def SameJ (P : Program) (ops : Array Oper) (s : StJ) (o : Oper) (v : Value) (a : Act) : Prop :=
 (Region.wanted o (yielded ops a.tmps) = true ∧ ∀ w, s.j w → EffAt P o a w (fun u w' => u = v ∧ w' = w)) ∨ (Region.wanted o (yielded ops a.tmps) = false ∧ v = undef)
def efJ (P : Program) (ops : Array Oper) (i : Nat) (K : StJ → Act → Prop) (s : StJ) (a : Act) : Prop :=
 ∃ o, ops[i]? = some o ∧ Region.wanted o (yielded ops a.tmps) = true ∧ ∀ w, s.j w → s.e w → EffAt P o a w (fun v w' => ∃ s' : StJ, (s'.j w' ∧ s'.e w') ∧ (∀ x, s'.j x → s.j x) ∧ K s' (a.put o.dst v))
def jOp (P : Program) (ops : Array Oper) (i : Nat) (K : StJ → Act → Prop) (s : StJ) (a : Act) : Prop := (∃ o, ops[i]? = some o ∧ ∃ v, SameJ P ops s o v a ∧ K s (a.put o.dst v)) ∨ efJ P ops i K s a
theorem jOp_mono {i : Nat} {K K' : StJ → Act → Prop} {s : StJ} {a : Act} (h : ∀ s' a, (∀ x, s'.j x → s.j x) → K s' a → K' s' a) (hh : jOp P ops i K s a) : jOp P ops i K' s a :=
 hh.imp (fun ⟨o, ho, v, hv, hk⟩ => ⟨o, ho, v, hv, h _ _ (fun _ h => h) hk⟩) (fun ⟨o, ho, hg, hs⟩ => ⟨o, ho, hg, fun w h1 h2 => effUpon_mono (fun v w' ⟨s', h1, h2, h3⟩ => ⟨s', h1, h2, h _ _ h2 h3⟩) _ (hs w h1 h2)⟩)
def jAny (P : Program) (md : Region.Mode) (ops : Array Oper) (L : StJ → Act → Prop) : Nat → Array Bool → StJ → Act → Prop
 | 0, listed, s, a => Region.ready md ops listed = [] ∧ L s a
 | f + 1, listed, s, a => (Region.ready md ops listed = [] → L s a) ∧ ∀ i ∈ Region.ready md ops listed, jOp P ops i (jAny P md ops L f (listed.setIfInBounds i true)) s a
theorem jAny_any {L : StJ → Act → Prop} {Q' : Exit → Act → World → Prop} (hL : ∀ (s : StJ) a w, s.j w → s.e w → L s a → Q' .normal a w) :
  ∀ (f : Nat) (listed : Array Bool) (s : StJ) (a : Act) (w : World), s.j w → s.e w → jAny P md ops L f listed s a → wpAny P md ops Q' f listed a w
 | 0, listed, s, a, w, hj, he, h => ⟨h.1, hL _ _ _ hj he h.2⟩
 | f + 1, listed, s, a, w, hj, he, h => by
  refine ⟨fun h0 => hL _ _ _ hj he (h.1 h0), fun i hi => ?_⟩
  unfold wpOp
  rcases h.2 i hi with ⟨o, ho, v, hv, hk⟩ | ⟨o, ho, hg, hs⟩
  ·simp only [ho]
   rcases hv with ⟨hw1, hc⟩ | ⟨hw1, rfl⟩
   ·simp only [hw1, if_true]
    refine .inl ?_
    have h3 := hc w hj
    unfold EffAt at h3
    unfold Oper.wp
    generalize (execOp a.eval o).run P w = r at *
    cases r with
    | ok nx w' =>
     cases nx <;> simp only [effUpon] at h3 <;> simp only [Oper.upon]
     case value u => obtain ⟨e1, e2⟩ := h3; rw [e1, e2]; exact jAny_any hL f _ _ _ _ hj he hk
     case skip => obtain ⟨e1, e2⟩ := h3; rw [e1, e2]; exact jAny_any hL f _ _ _ _ hj he hk
     case enter f' args => exact h3.mono fun e w'' ⟨v', he', e1, e2⟩ => by subst he'; rw [e1, e2]; exact jAny_any hL f _ _ _ _ hj he hk
    | halt x w' => simp only [effUpon] at h3
   ·simp only [hw1, Bool.false_eq_true, if_false]; exact jAny_any hL f _ _ _ _ hj he hk
  ·simp only [ho, hg, if_true]
   refine .inl ?_
   have h3 := hs w hj he
   unfold EffAt at h3
   unfold Oper.wp
   generalize (execOp a.eval o).run P w = r at *
   cases r with
   | ok nx w' =>
    cases nx <;> simp only [effUpon] at h3 <;> simp only [Oper.upon]
    case value u => obtain ⟨s', ⟨hj', he'⟩, _, hk⟩ := h3; exact jAny_any hL f _ _ _ _ hj' he' hk
    case skip => obtain ⟨s', ⟨hj', he'⟩, _, hk⟩ := h3; exact jAny_any hL f _ _ _ _ hj' he' hk
    case enter f' args => exact h3.mono fun e w'' ⟨v, he, s', ⟨hj', he'⟩, _, hk⟩ => by subst he; exact jAny_any hL f _ _ _ _ hj' he' hk
   | halt x w' => simp only [effUpon] at h3
theorem SameJ.put {oi : Oper} {v u : Value} {s : StJ} {a : Act} {d : Option Tmp} (hsi : ∀ cs b, oi.op ≠ .select cs b) (p : ∀ x, d = some x → x ∉ oi.looksAt ops) (h : SameJ P ops s oi v a) : SameJ P ops s oi v (a.put d u) := by
 unfold SameJ EffAt at *
 rw [execOp_put oi hsi a d u p, wanted_put oi a d u p]
 exact h
theorem SameJ.unput {oi : Oper} {v u : Value} {s : StJ} {a : Act} {d : Option Tmp} (hsi : ∀ cs b, oi.op ≠ .select cs b) (p : ∀ x, d = some x → x ∉ oi.looksAt ops) (h : SameJ P ops s oi v (a.put d u)) : SameJ P ops s oi v a := by
 unfold SameJ EffAt at *
 rw [execOp_put oi hsi a d u p, wanted_put oi a d u p] at h
 exact h
theorem SameJ.later {oi : Oper} {v : Value} {s s' : StJ} {a : Act} (hs : ∀ x, s'.j x → s.j x) (h : SameJ P ops s oi v a) : SameJ P ops s' oi v a :=
 h.imp (fun ⟨h1, h2⟩ => ⟨h1, fun w hw => h2 w (hs w hw)⟩) id
theorem jOp_put {j : Nat} {oi oj : Oper} {v : Value} (hj : ops[j]? = some oj) (hap : oi.apart ops oj = true)
  (hsi : ∀ cs b, oi.op ≠ .select cs b) (hsj : ∀ cs b, oj.op ≠ .select cs b) {K : StJ → Act → Prop} {s : StJ} {a : Act}
  (hy : SameJ P ops s oi v a) (h : jOp P ops j K s (a.put oi.dst v)) :
  jOp P ops j (fun s' a' => SameJ P ops s' oi v a' ∧ K s' (a'.put oi.dst v)) s a := by
 obtain ⟨p1, p2, p3⟩ := Oper.apart_spec hap
 rcases h with ⟨o, ho, u, hu, hk⟩ | ⟨o, ho, hg, hs⟩
 ·obtain rfl : o = oj := Option.some.inj (ho.symm.trans hj)
  exact .inl ⟨o, hj, u, hu.unput hsj p1, hy.put hsi p3, by rw [← Act.put_comm a v u p2]; exact hk⟩
 ·obtain rfl : o = oj := Option.some.inj (ho.symm.trans hj)
  refine .inr ⟨o, hj, by rw [wanted_put o a oi.dst v p1] at hg; exact hg, fun w h1 h2 => ?_⟩
  have h3 := hs w h1 h2
  unfold EffAt at *
  rw [execOp_put o hsj a oi.dst v p1] at h3
  exact effUpon_mono (fun u w' ⟨s', h1, h2, h4⟩ => ⟨s', h1, h2, (hy.put hsi p3).later h2, by rw [← Act.put_comm a v u p2]; exact h4⟩) _ h3
theorem jAny_first {i : Nat} {oi : Oper} {v : Value} {L : StJ → Act → Prop} (hi : ops[i]? = some oi) (hsel : ∀ (j : Nat) (o : Oper) cs b, ops[j]? = some o → o.op ≠ .select cs b) :
  ∀ (f : Nat) (listed : Array Bool) (s : StJ) (a : Act),
   (∀ j oj, ops[j]? = some oj → j ≠ i → listed.getD j true = false → (∀ e ∈ oj.after, Region.binds md e = true → e.on ≠ i) → oi.apart ops oj = true) →
   i ∈ Region.ready md ops listed → SameJ P ops s oi v a →
   jAny P md ops L f (listed.setIfInBounds i true) s (a.put oi.dst v) → jAny P md ops L (f + 1) listed s a := by
 intro f
 induction f with
 | zero =>
  intro listed s a _ hr hy H
  refine ⟨(fun h => by rw [h] at hr; cases hr), fun j hj => ?_⟩
  by_cases hji : j = i
  ·subst hji; exact .inl ⟨oi, hi, v, hy, H⟩
  ·have := ready_mono hj hji
   rw [H.1] at this
   cases this
 | succ f ih =>
  intro listed s a hfree hr hy H
  have hun := (mem_ready.1 hr).1
  refine ⟨(fun h => by rw [h] at hr; cases hr), fun j hj => ?_⟩
  by_cases hji : j = i
  ·subst hji; exact .inl ⟨oi, hi, v, hy, H⟩
  have h1 := H.2 j (ready_mono hj hji)
  obtain ⟨hjun, oj, hoj, hall⟩ := mem_ready.1 hj
  have hnot : ∀ e ∈ oj.after, Region.binds md e = true → e.on ≠ i := fun e he hb heq => by
   have h1 := hall e he hb
   rw [heq, getD_both hun] at h1
   cases h1
  have h2 := jOp_put hoj (hfree j oj hoj hji hjun hnot) (fun cs b => hsel i oi cs b hi) (fun cs b => hsel j oj cs b hoj) hy h1
  have hfree' : ∀ k ok, ops[k]? = some ok → k ≠ i → (listed.setIfInBounds j true).getD k true = false →
    (∀ e ∈ ok.after, Region.binds md e = true → e.on ≠ i) → oi.apart ops ok = true := fun k ok hk hki hu hno => by
   refine hfree k ok hk hki ?_ hno
   by_cases hjk : j = k
   ·subst hjk; exact hjun
   ·rw [getD_set_ne true hjk] at hu; exact hu
  refine jOp_mono (fun s' a' _ h3 => ih (listed.setIfInBounds j true) s' a' hfree' (ready_mono hr (Ne.symm hji)) h3.1 ?_) h2
  rw [Array.setIfInBounds_comm _ _ hji]
  exact h3.2
end
section
variable {P : Program} {md : Region.Mode} {l : List Oper} {Lq : StJ → Act → Prop}
def pickP (l : List Oper) : List (Bool × Nat) → List (Bool × Oper)
 | [] => []
 | (b, k) :: r => ((l.drop k).take 1).map (fun o => (b, o)) ++ pickP l r
theorem pickP_cons {b : Bool} {k : Nat} {r : List (Bool × Nat)} {o : Oper} (h : l[k]? = some o) : pickP l ((b, k) :: r) = (b, o) :: pickP l r := by
 obtain ⟨h1, rfl⟩ := List.getElem?_eq_some_iff.1 h
 rw [pickP, List.drop_eq_getElem_cons h1]
 rfl
def wpPlan (P : Program) (ops : Array Oper) (Lq : StJ → Act → Prop) : List (Bool × Oper) → StJ → Act → Prop
 | [], s, a => Lq s a
 | (true, o) :: r, s, a => ∃ v, SameJ P ops s o v a ∧ wpPlan P ops Lq r s (a.put o.dst v)
 | (false, o) :: r, s, a => Region.wanted o (yielded ops a.tmps) = true ∧ ∀ w, s.j w → s.e w → EffAt P o a w (fun v w' => ∃ s' : StJ, (s'.j w' ∧ s'.e w') ∧ (∀ x, s'.j x → s.j x) ∧ wpPlan P ops Lq r s' (a.put o.dst v))
def planB (md : Region.Mode) (ops : Array Oper) : List (Bool × Nat) → Array Bool → Bool
 | [], listed => decide (Region.ready md ops listed = [])
 | (true, k) :: r, listed => (Region.ready md ops listed).contains k && Region.free md ops listed k && planB md ops r (listed.setIfInBounds k true)
 | (false, k) :: r, listed => decide (Region.ready md ops listed = [k]) && planB md ops r (listed.setIfInBounds k true)
theorem jAny_plan (hsel : Region.noSelect l.toArray = true) :
  ∀ (plan : List (Bool × Nat)) (listed : Array Bool) (s : StJ) (a : Act), planB md l.toArray plan listed = true → wpPlan P l.toArray Lq (pickP l plan) s a → jAny P md l.toArray Lq plan.length listed s a
 | [], listed, s, a, hB, h => ⟨by simpa [planB] using hB, h⟩
 | (true, k) :: r, listed, s, a, hB, h => by
  simp only [planB, Bool.and_eq_true] at hB
  obtain ⟨⟨hr, hf⟩, hB'⟩ := hB
  have hr' : k ∈ Region.ready md l.toArray listed := by simpa using hr
  obtain ⟨_, o, ho, _⟩ := mem_ready.1 hr'
  have ho' : l[k]? = some o := by simpa using ho
  rw [pickP_cons ho'] at h
  obtain ⟨v, hv, hk⟩ := h
  exact jAny_first ho (Region.noSelect_spec hsel) _ listed s a (Region.free_spec ho hf) hr' hv (jAny_plan hsel r _ _ _ hB' hk)
 | (false, k) :: r, listed, s, a, hB, h => by
  simp only [planB, Bool.and_eq_true, decide_eq_true_eq] at hB
  obtain ⟨hrd, hB'⟩ := hB
  have hr' : k ∈ Region.ready md l.toArray listed := by rw [hrd]; simp
  obtain ⟨_, o, ho, _⟩ := mem_ready.1 hr'
  have ho' : l[k]? = some o := by simpa using ho
  rw [pickP_cons ho'] at h
  refine ⟨(fun h0 => by rw [hrd] at h0; cases h0), fun j hj => ?_⟩
  rw [hrd] at hj
  obtain rfl : j = k := by simpa using hj
  exact .inr ⟨o, ho, h.1, fun w h1 h2 => effUpon_mono (fun v w' ⟨s', h3, h4, h5⟩ => ⟨s', h3, h4, jAny_plan hsel r _ _ _ hB' h5⟩) _ (h.2 w h1 h2)⟩
def treePB (md : Region.Mode) (ops : Array Oper) (plan : List (Bool × Nat)) : Bool :=
 Region.noSelect ops && decide (plan.length = ops.size) && planB md ops plan (Array.replicate ops.size false)
theorem wp_region_plan {id : Nat} {Q : Exit → Act → World → Prop} {a : Act} {w : World} (s : StJ) (hj : s.j w.drew) (he : s.e w.drew) (plan : List (Bool × Nat)) (hm : P.follows .mixedOrders = true) (hB : treePB .any l.toArray plan = true)
  (h : wpPlan P l.toArray (fun s a3 => ∀ w', s.j w' → s.e w' → Q .normal a3 w') (pickP l plan) s a) : (Code.region id l.toArray true).wp P Q a w := by
 simp only [treePB, Bool.and_eq_true, decide_eq_true_eq] at hB
 obtain ⟨⟨hsel, hlen⟩, hp⟩ := hB
 have H := jAny_plan (md := .any) (P := P) hsel plan _ s a hp h
 refine wp_region_any hm ?_
 have := jAny_any (Q' := Q) (fun s a' w' h1 h2 (hL : ∀ w', s.j w' → s.e w' → Q .normal a' w') => hL w' h1 h2) _ _ _ _ _ hj he H
 rw [hlen] at this
 exact this
section
variable {ops : Array Oper} {s : StJ} {a : Act} {o : Oper} {r : List (Bool × Oper)} {L : StJ → Act → Prop}
theorem effAt_of {w w' : World} {R : Value → World → Prop} {v : Value} (h : (execOp a.eval o).run P w = .ok (.value v) w') (hR : R v w') : EffAt P o a w R := by
 unfold EffAt
 rw [h]
 exact hR
theorem p_same (v : Value) {d : Tmp} (hd : o.dst = some d) (hw : Region.wanted o (yielded ops a.tmps) = true) (h : ∀ w, s.j w → (execOp a.eval o).run P w = .ok (.value v) w) (hk : wpPlan P ops L r s (a.put (some d) v)) : wpPlan P ops L ((true, o) :: r) s a :=
 ⟨v, .inl ⟨hw, fun w h1 => effAt_of (h w h1) ⟨rfl, rfl⟩⟩, by rw [hd]; exact hk⟩
theorem p_eff {d : Tmp} (hd : o.dst = some d) (hw : Region.wanted o (yielded ops a.tmps) = true) (h : ∀ w, s.j w → s.e w → EffAt P o a w (fun v w' => ∃ s' : StJ, (s'.j w' ∧ s'.e w') ∧ (∀ x, s'.j x → s.j x) ∧ wpPlan P ops L r s' (a.put (some d) v))) : wpPlan P ops L ((false, o) :: r) s a :=
 ⟨hw, by rw [hd]; exact h⟩
theorem p_eff0 (hd : o.dst = none) (hw : Region.wanted o (yielded ops a.tmps) = true) (h : ∀ w, s.j w → s.e w → EffAt P o a w (fun v w' => ∃ s' : StJ, (s'.j w' ∧ s'.e w') ∧ (∀ x, s'.j x → s.j x) ∧ wpPlan P ops L r s' a)) : wpPlan P ops L ((false, o) :: r) s a :=
 ⟨hw, by rw [hd]; exact h⟩
theorem p_nil (h : L s a) : wpPlan P ops L [] s a := h
end
end
end Go.Proofs.YtddckdhnolmjoaaGreat
