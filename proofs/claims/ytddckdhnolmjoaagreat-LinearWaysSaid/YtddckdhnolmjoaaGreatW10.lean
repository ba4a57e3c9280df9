/- A region that draws its order, one of whose operations may turn what is old, and waits, through others, for all that is calm. Conditions: .. -/
import Derived.Test.YtddckdhnolmjoaaGreatW06
import Derived.Test.YtddckdhnolmjoaaGreatW08
import Derived.Test.YtddckdhnolmjoaaGreatW03
import Derived.LoopTactic
import Derived.Test.YtddckdhnolmjoaaGreatW09
import Derived.Test.YtddckdhnolmjoaaGreatW07
import Derived.Test.YtddckdhnolmjoaaGreatW01
import Derived.Laws.BytesArg
import Derived.Sort.MapsRangeIn
import Derived.RangeFuncNested
import Derived.RangeFuncBound
import Derived.RangeFuncCalls
import Derived.RangeFuncLeaves
import Derived.Shelf.Abstract
import Derived.Shelf.RegionOpen
import Derived.OwnWalkIn
import Derived.TacticsInMore
import Derived.LoopNIn
import Derived.LoopIn
import Derived.RangeFuncFrom
import Derived.Lib.Hide
set_option linter.unusedVariables false
set_option linter.unusedSimpArgs false
set_option linter.unnecessarySimpa false
set_option maxRecDepth 100000
set_option maxHeartbeats 8000000
namespace Go.Proofs.YtddckdhnolmjoaaGreat
open Go.RowKit
def waitsK (md : Region.Mode) (ops : Array Oper) : Nat → Nat → Nat → Bool
 | 0, _, _ => false
 | f + 1, n, i => waitsB md ops n i || (List.range ops.size).any fun p => waitsB md ops n p && waitsK md ops f p i
def Closed (md : Region.Mode) (ops : Array Oper) (listed : Array Bool) : Prop := ∀ (k : Nat) (o : Oper), ops[k]? = some o → listed.getD k false = true → ∀ e ∈ o.after, Region.binds md e = true → listed.getD e.on false = true
section
variable {P : Program} {md : Region.Mode} {ops : Array Oper} {W : World}
theorem closed_waits {listed : Array Bool} (hc : Closed md ops listed) : ∀ (f n i : Nat) (o : Oper), ops[n]? = some o → (∀ e ∈ o.after, Region.binds md e = true → listed.getD e.on false = true) → waitsK md ops f n i = true → listed.getD i false = true
 | 0, n, i, o, ho, hp, h => by cases h
 | f + 1, n, i, o, ho, hp, h => by
  have hw : ∀ p, waitsB md ops n p = true → listed.getD p false = true := fun p hb => by
   unfold waitsB at hb
   rw [ho] at hb
   obtain ⟨e, he, hb⟩ := Array.any_eq_true'.1 hb
   simp only [Bool.and_eq_true, beq_iff_eq] at hb
   rw [← hb.2]
   exact hp e he hb.1
  unfold waitsK at h
  rw [Bool.or_eq_true] at h
  rcases h with h | h
  ·exact hw i h
  ·obtain ⟨p, hpr, h⟩ := List.any_eq_true.1 h
   simp only [Bool.and_eq_true] at h
   have hlp := hw p h.1
   have hps : p < ops.size := List.mem_range.1 hpr
   exact closed_waits hc f p i ops[p] (Array.getElem?_eq_getElem hps) (fun e he hb => hc p ops[p] (Array.getElem?_eq_getElem hps) hlp e he hb) h.2
theorem closed_set {listed : Array Bool} (hc : Closed md ops listed) {j : Nat} {oj : Oper} (hoj : ops[j]? = some oj) (hp : ∀ e ∈ oj.after, Region.binds md e = true → listed.getD e.on false = true) (hj : j < listed.size) : Closed md ops (listed.setIfInBounds j true) := by
 have hmono : ∀ p, listed.getD p false = true → (listed.setIfInBounds j true).getD p false = true := fun p h => by
  by_cases hpj : j = p
  ·subst hpj
   simp [Array.getD, hj]
  ·rw [getD_set_ne false hpj]; exact h
 intro k o ho hk e he hb
 by_cases hkj : j = k
 ·subst hkj
  rw [hoj] at ho
  cases ho
  exact hmono _ (hp e he hb)
 ·rw [getD_set_ne false hkj] at hk
  exact hmono _ (hc k o ho hk e he hb)
theorem feG_firstT {n i fu : Nat} {oi : Oper} {v : Value} {L : StG W → Act → Prop} (hi : ops[i]? = some oi) (hsel : ∀ (j : Nat) (o : Oper) cs b, ops[j]? = some o → o.op ≠ .select cs b) (hw : waitsK md ops fu n i = true) :
  ∀ (f : Nat) (listed : Array Bool) (s : StG W) (a : Act), s.c = true → Closed md ops listed →
   (∀ j oj, ops[j]? = some oj → j ≠ i → listed.getD j true = false → (∀ e ∈ oj.after, Region.binds md e = true → e.on ≠ i) → oi.apart ops oj = true) →
   i ∈ Region.ready md ops listed → CalmOp P ops W oi v a →
   feG P md ops W n L f (listed.setIfInBounds i true) s (a.put oi.dst v) → feG P md ops W n L (f + 1) listed s a := by
 intro f
 induction f with
 | zero =>
  intro listed s a hsc hcl _ hr hy H
  refine ⟨(fun h => by rw [h] at hr; cases hr), fun j hj => ?_⟩
  by_cases hji : j = i
  ·subst hji; exact .inl ⟨hsc, oi, hi, v, hy, H⟩
  ·have := ready_mono hj hji
   rw [H.1] at this
   cases this
 | succ f ih =>
  intro listed s a hsc hcl hfree hr hy H
  have hun := (mem_ready.1 hr).1
  refine ⟨(fun h => by rw [h] at hr; cases hr), fun j hj => ?_⟩
  by_cases hji : j = i
  ·subst hji; exact .inl ⟨hsc, oi, hi, v, hy, H⟩
  have h1 := H.2 j (ready_mono hj hji)
  obtain ⟨hjun, oj, hoj, hall⟩ := mem_ready.1 hj
  have hnot : ∀ e ∈ oj.after, Region.binds md e = true → e.on ≠ i := fun e he hb heq => by
   have h1 := hall e he hb
   rw [heq, getD_both hun] at h1
   cases h1
  have hjn : j ≠ n := by
   rintro rfl
   have := closed_waits hcl fu j i oj hoj hall hw
   rw [getD_both hun] at this
   cases this
  have hjs : j < listed.size := by
   rcases Nat.lt_or_ge j listed.size with h | h
   ·exact h
   ·simp [Array.getD, Nat.not_lt.2 h] at hjun
  have h2 := feOpG_put hoj hjn (hfree j oj hoj hji hjun hnot) (fun cs b => hsel i oi cs b hi) (fun cs b => hsel j oj cs b hoj) hsc hy h1
  have hfree' : ∀ k ok, ops[k]? = some ok → k ≠ i → (listed.setIfInBounds j true).getD k true = false →
    (∀ e ∈ ok.after, Region.binds md e = true → e.on ≠ i) → oi.apart ops ok = true := fun k ok hk hki hu hno => by
   refine hfree k ok hk hki ?_ hno
   by_cases hjk : j = k
   ·subst hjk; exact hjun
   ·rw [getD_set_ne true hjk] at hu; exact hu
  refine feOpG_mono (fun s' a' h3 => ih (listed.setIfInBounds j true) s' a' h3.1 (closed_set hcl hoj hall hjs) hfree' (ready_mono hr (Ne.symm hji)) h3.2.1 ?_) h2
  rw [Array.setIfInBounds_comm _ _ hji]
  exact h3.2.2
end
section
variable {P : Program} {md : Region.Mode} {W : World} {l : List Oper} {L : StG W → Act → Prop}
theorem feG_lexT {n fu : Nat} (hsel : Region.noSelect l.toArray = true) (m : Nat) :
  ∀ (qs : List Nat) (listed : Array Bool) (s : StG W) (a : Act), s.c = true → Closed md l.toArray listed → qs.all (waitsK md l.toArray fu n) = true → freeAll md l.toArray qs listed = true → wpCalm P l.toArray W (fun a' => feG P md l.toArray W n L m (listAll qs listed) s a') (pick l qs) a →
   feG P md l.toArray W n L (qs.length + m) listed s a
 | [], listed, s, a, _, _, _, hB, h => by
  rw [List.length_nil, Nat.zero_add]
  exact h
 | k :: r, listed, s, a, hsc, hcl, hq, hB, h => by
  simp only [freeAll, Bool.and_eq_true] at hB
  obtain ⟨⟨hr, hf⟩, hB'⟩ := hB
  simp only [List.all_cons, Bool.and_eq_true] at hq
  have hr' : k ∈ Region.ready md l.toArray listed := by simpa using hr
  obtain ⟨hun, o, ho, hall⟩ := mem_ready.1 hr'
  have ho' : l[k]? = some o := by simpa using ho
  have hks : k < listed.size := by
   rcases Nat.lt_or_ge k listed.size with h | h
   ·exact h
   ·simp [Array.getD, Nat.not_lt.2 h] at hun
  have hcl' := closed_set hcl ho hall hks
  rw [pick_cons ho'] at h
  rw [show (k :: r).length + m = (r.length + m) + 1 by simp; omega]
  unfold wpCalm at h
  by_cases hw : Region.wanted o (yielded l.toArray a.tmps) = true
  ·simp only [hw, if_true] at h
   obtain ⟨v, hv, hk⟩ := h
   exact feG_firstT ho (Region.noSelect_spec hsel) hq.1 _ listed s a hsc hcl (Region.free_spec ho hf) hr' (.inl ⟨hw, hv⟩) (feG_lexT hsel m r _ _ _ hsc hcl' hq.2 hB' hk)
  ·simp only [hw] at h
   exact feG_firstT ho (Region.noSelect_spec hsel) hq.1 _ listed s a hsc hcl (Region.free_spec ho hf) hr' (.inr ⟨by simpa using hw, rfl⟩) (feG_lexT hsel m r _ _ _ hsc hcl' hq.2 hB' h)
def treeHB (md : Region.Mode) (ops : Array Oper) (qs : List Nat) (m n : Nat) : Bool :=
 Region.noSelect ops && decide (qs.length + m = ops.size) && qs.all (waitsK md ops 6 n) && freeAll md ops qs (Array.replicate ops.size false)
theorem wp_region_treeH {id : Nat} {Q : Exit → Act → World → Prop} {a : Act} {w : World} (s : StG W) (hsc : s.c = true) (hw : s.e w.drew) (qs : List Nat) (m n : Nat) (hm : P.follows .mixedOrders = true) (hB : treeHB .any l.toArray qs m n = true)
  (h : wpCalm P l.toArray W (fun a' => feG P .any l.toArray W n (fun s a3 => ∀ w', s.e w' → Q .normal a3 w') m (listAll qs (Array.replicate l.toArray.size false)) s a') (pick l qs) a) : (Code.region id l.toArray true).wp P Q a w := by
 simp only [treeHB, Bool.and_eq_true, decide_eq_true_eq] at hB
 obtain ⟨⟨⟨hsel, hlen⟩, hq⟩, hfree⟩ := hB
 have hcl : Closed .any l.toArray (Array.replicate l.toArray.size false) := fun k o ho hk => by
  rw [getD_replicate_false] at hk
  cases hk
 have H := feG_lexT (md := .any) (P := P) (W := W) hsel m qs _ s a hsc hcl hq hfree h
 refine wp_region_any hm ?_
 have := feG_any (Q' := Q) (fun s a' w' hw' (hL : ∀ w', s.e w' → Q .normal a' w') => hL w' hw') _ _ _ _ _ hw H
 rw [hlen] at this
 exact this
end
theorem own_heap2 {α : Type} {e : EK α} {base : Nat} {W : World} {g n c : Nat} {xs : List α} (h : OwnN e base W (.slice (some ⟨g, 0, none⟩) n c) xs) : ∃ cs, W.heap[g]? = some (.cells cs e.E (0, 0)) := by
 rcases h.own.2 with ⟨e2, _⟩ | ⟨b, cap, cur, e2, _, hh, _⟩
 ·cases e2
 ·cases e2
  exact ⟨_, hh⟩
theorem rpart_9 (xv xt xs xa xc most : Int) (xD : Option Addr) (xn xq : Nat) (lx : Byt) (hxn : lx.length = xn) (base R : Nat) (d : Dev) (w : World) (h : RefAt base w R d) (hbase : base ≤ w.heap.size) (hl : d.length ≤ 1000000) (hn : xn ≤ 1000000) (v0 : 0 ≤ xv) (t0 : 0 ≤ xt) (he : errK d ⟨9, xv, xt, xs, xa, xc, lx⟩ = 0) (q0 : 1 ≤ xc) (q1 : xc ≤ 1024) (x : VolM) (hx : getK d xv = some x) (a0 : 0 ≤ xa) (a1 : xa ≤ 1048576) (hmost : 1024 ≤ most) (hfit : ¬ 4 * x.1 < xa + xc) :
  Calls Tryz.prog 18 #[.pointer (some ⟨R, 0, none⟩), .agg #[.int .i64 9, .int .u64 xv, .int .u64 xt, .int .i64 xs, .int .i64 xa, .int .i64 xc, .slice xD xn xq], .int .i64 most] w (RPost base R d 0 0 ((spans xa.toNat xc.toNat).flatMap fun s => cutK (blkM x.2 s.b) s) w) := by
 have HR := hd_ (fun W (g : Gr w W) => rrefused_any 9 xv xt xs xa xc xD xn xq lx hxn base R d W (h.gr g) hl hn v0 t0)
 have HF := hd_ (fun W (g : Gr w W) => rfind_any base R d xv W (h.gr g) hl)
 rw [he] at HR
 obtain ⟨v, vf, hI⟩ := h
 have HI := hd_ hI
 have HB := fun W (g : Gr w W) => Nat.le_trans hbase g.below.size
 have hok := hI.ok.vols _ ((getK_mem hI.ok.sort).1 hx)
 have hx0 := hok.s0
 have hx1 := hok.s1
 simp only at hx0 hx1
 have HOK := hd_ hok
 clear hok
 obtain ⟨an, rfl⟩ : ∃ n : Nat, xa = n := ⟨xa.toNat, by omega⟩
 rw [Int.toNat_natCast]
 obtain ⟨C, rfl⟩ : ∃ n : Nat, xc = n := ⟨xc.toNat, by omega⟩
 rw [Int.toNat_natCast]
 have HC1 : 1 ≤ C := by omega
 have HC2 : C ≤ 1024 := by omega
 have HSp := hd_ (fun W => rsplit_any an C (by omega) (by omega) (by omega) W)
 have HLNE := hd_ (spans_ne an C HC1)
 have hsl1 := spans_len an C
 have hall := fun s hs => (spans_all s hs : s.f < s.t ∧ s.t ≤ 4 ∧ an ≤ 4 * s.b + s.f ∧ 4 * s.b + s.t ≤ an + C)
 obtain ⟨L, hL⟩ : ∃ L, L = spans an C := ⟨_, rfl⟩
 rw [← hL] at HSp HLNE hsl1 hall ⊢
 have HALL := hd_ hall
 obtain ⟨F, hF⟩ : ∃ F : Spn → Byt, F = fun s => cutK (blkM x.2 s.b) s := ⟨_, rfl⟩
 rw [← hF]
 clear hL hall
 obtain ⟨i, hi, hdi, hil⟩ := idx_get hx
 rw [hi] at HF
 obtain ⟨g, c, rfl, hbg, hgl, hne, hc1, hc2, hty, hcl⟩ := hI.form (by rintro rfl; simp at hil)
 obtain ⟨c0, c1, c2⟩ := hcl i _ hdi
 simp only at c0 c1 c2
 rw [Nat.add_zero] at c0
 have x0 : w.cell? ⟨R, 0, none⟩ = some (.slice (some ⟨g, 0, none⟩) d.length c) := (bc 0 hI.blk).trans rfl
 haveI := hI.blk
 haveI : Old R w := hI.blk.old
 haveI : Old g w := ⟨hgl⟩
 have HDI := hd_ hdi
 have HX := hd_ hx
 have HV := hd_ (hI.vol _ (List.mem_of_getElem? hdi))
 obtain ⟨N, hN⟩ : ∃ N, N = d.length := ⟨_, rfl⟩
 rw [← hN] at x0 hil hc1
 rw [← hN] at HI
 have HN := hd_ hN
 have HL := hd_ hl
 clear hcl hdi hi hI he hx hN hl
 have hN9 : N ≤ 1000000 := by have := HL.out; have := HN.out; omega
 go_enter Tryz.func18, Tryz.ntmps18
 go_wp2_with (first | (go_at_call 45; ((with_reducible refine (HR.out _ gri).mono ?_); rintro _ _ ⟨rfl, g1, rfl⟩)) | (go_at_call 46; ((with_reducible refine (HF.out _ gri).mono ?_); rintro _ _ ⟨rfl, g2, rfl⟩)) | (go_at_call 29; ((with_reducible refine (HSp.out _).mono ?_); rintro _ _ ⟨vS, rfl, hoS, ⟨gq, rfl⟩⟩; obtain ⟨gS, cS, rfl, hbS, hgS, hcS, hcmS, hclS, hzS⟩ := hoS.cells spIs HLNE.out; obtain ⟨curS, hhS⟩ := own_heap2 hoS)))
 obtain ⟨A0, hA0⟩ : ∃ A0, A0 = (grown _ g1).heap.size := ⟨_, rfl⟩
 have hA1 : w.heap.size + 1 < A0 := by
  rw [hA0]
  exact (inferInstance : Old (w.heap.size + 1) (grown _ g1)).lt
 obtain ⟨W5, hW5⟩ : ∃ W5, W5 = grown _ gq := ⟨_, rfl⟩
 have b8 : BlockAt W5 A0 #[.int .i64 0, .int .i64 0, .slice none 0 0] 38 := by
  rw [hW5, hA0]
  infer_instance
 have b6 : BlockAt W5 (w.heap.size + 1) #[.int .i64 0, .int .i64 0, .slice none 0 0] 38 := by
  rw [hW5]
  infer_instance
 have b4 : BlockAt W5 w.heap.size #[.int .i64 9, .int .u64 xv, .int .u64 xt, .int .i64 xs, .int .i64 (an : Int), .int .i64 (C : Int), .slice xD xn xq] 27 := by
  rw [hW5]
  infer_instance
 have g5 : Gr w W5 := by
  rw [hW5]
  exact gri
 rw [← hW5] at hgS hclS hhS
 rw [← hW5]
 try rw [← hA0]
 clear hW5 hA0 hoS hzS
 haveI := grc_of g5
 haveI := from_of g5
 have HS5 := hd_ (show CellsN spE W5 gS 0 L from hclS)
 have HH5 := hd_ hhS
 have HG5 := hd_ g5
 have HB8 := hd_ b8
 have HB6 := hd_ b6
 have HB4 := hd_ b4
 have hLn : L.length ≤ 1024 := by omega
 have hFl : ∀ s, (F s).length ≤ 256 := fun s => by
  rw [hF]
  simp only [cutK, List.length_take, List.length_drop, blkM_len HOK.out.sort HOK.out.len]
  omega
 have hDl : ∀ l : List Spn, (l.flatMap F).length ≤ 256 * l.length := fun l => by
  induction l with
  | nil => simp
  | cons s r ih => rw [List.flatMap_cons, List.length_append, List.length_cons]; have := hFl s; omega
 have HFe := hd_ hF
 have HDl := hd_ hDl
 clear hclS hhS hbS hcmS b8 b6 b4 hF hFl hDl
 go_loopw [16] (fun i9 wr => ∃ (k : Nat) (vA : Option Addr) (vn vc : Nat), k ≤ L.length ∧ i9 = .int .i64 (k : Int) ∧ OwnN bE w.heap.size wr (.slice vA vn vc) ((L.take k).flatMap F) ∧ BlockAt wr A0 #[.int .i64 0, .int .i64 0, .slice vA vn vc] 38 ∧ BlockAt wr (w.heap.size + 1) #[.int .i64 0, .int .i64 0, .slice none 0 0] 38 ∧ BlockAt wr w.heap.size #[.int .i64 9, .int .u64 xv, .int .u64 xt, .int .i64 xs, .int .i64 (an : Int), .int .i64 (C : Int), .slice xD xn xq] 27 ∧ wr.heap[gS]? = W5.heap[gS]? ∧ Gr w wr) (fun i9 _ => L.length - (intOf i9).toNat)
 case atStart => exact ⟨0, none, 0, 0, Nat.zero_le _, rfl, by rw [List.take_zero]; exact OwnN.nil _ _, HB8.out, HB6.out, HB4.out, rfl, HG5.out⟩
 case round =>
  obtain ⟨k, vA, vn, vc, hk, rfl, hown, k8, k6, k4, hgS9, hgw⟩ := hrel
  have hRk := HI.out.gr hgw
  have y0 : wr.cell? ⟨R, 0, none⟩ = some (.slice (some ⟨g, 0, none⟩) N c) := (bc 0 hRk.blk).trans rfl
  haveI : Old R wr := hRk.blk.old
  haveI := k8
  haveI := k6
  haveI := k4
  haveI := k8.old
  haveI := k6.old
  haveI := k4.old
  haveI := grc_of hgw
  haveI := from_of hgw
  have p2 : wr.cell? ⟨A0, 2, none⟩ = some (.slice vA vn vc) := (bc 2 k8).trans rfl
  have hvn : vn = ((L.take k).flatMap F).length := by
   rcases hown.own.2 with ⟨e, h0⟩ | ⟨b, cap, cur, e, _⟩
   ·simp only [Value.slice.injEq] at e; rw [e.2.1]; exact h0.symm
   ·simp only [Value.slice.injEq] at e; exact e.2.1
  have hDk : ((L.take k).flatMap F).length ≤ 262144 := by
   have h1 := HDl.out (L.take k)
   have h2 : (L.take k).length ≤ 1024 := by simp; omega
   omega
  by_cases hlt : k < L.length
  ·obtain ⟨⟨sb, sf, st⟩, hs⟩ : ∃ s, L[k]? = some s := ⟨_, List.getElem?_eq_getElem hlt⟩
   have hsa := HALL.out _ (List.mem_of_getElem? hs)
   simp only at hsa
   obtain ⟨hsf, hst, hslo, hshi⟩ := hsa
   have hcl9 : CellsN spE wr gS 0 L := fun j x hj i u hu => by
    rw [← HS5.out j x hj i u hu]
    simp [World.cell?, hgS9]
   have s0 : wr.cell? ⟨gS, k * 3, none⟩ = some (.int .i64 (sb : Int)) := by have := hcl9 k _ hs 0 _ rfl; rwa [Nat.zero_add] at this
   have s1 : wr.cell? ⟨gS, k * 3 + 1, none⟩ = some (.int .i64 (sf : Int)) := by have := hcl9 k _ hs 1 _ rfl; rwa [Nat.zero_add] at this
   have s2 : wr.cell? ⟨gS, k * 3 + 2, none⟩ = some (.int .i64 (st : Int)) := by have := hcl9 k _ hs 2 _ rfl; rwa [Nat.zero_add] at this
   haveI : Old gS wr := old_of_cell s0
   obtain ⟨m, hme⟩ : ∃ m, m = x.2 := ⟨_, rfl⟩
   have cM : wr.cell? ⟨g, i * 3 + 2, none⟩ = some (vf xv) := (hgw.below.cell (p := ⟨g, i * 3 + 2, none⟩) hgl).trans c2
   haveI : Old g wr := old_of_cell cM
   have hBM := HV.out.gr hgw
   rw [← hme] at hBM
   have HG := hd_ (fun W (hW : Gr wr W) => rget_any g (i * 3) (vf xv) m (sb : Int) W ((hW.below.cell (p := ⟨g, i * 3 + 2, none⟩) (old_of_cell cM).lt).trans cM) (hBM.gr hW))
   have hY : ((getK m (sb : Int)).getD zB).length = 256 := by rw [hme]; exact blkM_len HOK.out.sort HOK.out.len sb
   have HYe : Hid (F ⟨sb, sf, st⟩ = cutK ((getK m (sb : Int)).getD zB) ⟨sb, sf, st⟩) := hd_ (by rw [HFe.out, hme]; rfl)
   obtain ⟨Y, hYY⟩ : ∃ Y, Y = (getK m (sb : Int)).getD zB := ⟨_, rfl⟩
   rw [← hYY] at HG hY HYe
   obtain ⟨yi, hyi⟩ : ∃ yi, yi = (getK m (sb : Int)).isSome := ⟨_, rfl⟩
   rw [← hyi] at HG
   haveI := bkC_row hY
   have HYL := hd_ hY
   have HO := hd_ hown
   have HGS := hd_ hgS9
   have HGW := hd_ hgw
   have HS := hd_ hs
   have HVN := hd_ hvn
   have HDK := hd_ hDk
   clear hcl9 hme hBM hRk hYY hyi hY hs cM hown hgS9 hgw hvn hDk
   go_wp2
   refine wp_region_tree (mixw_ghost _) [] (mixw_nil _) [0, 1, 2, 3, 4, 5, 6, 7, 8, 9, 10, 11, 12, 13, 14] 3 (by kernel_rfl) (by kernel_rfl) ?_
   simp only [pick, List.drop, List.take, List.nil_append, List.cons_append]
   repeat (refine wpCalm_step (fun K hK => ?_); go_simp; first | (refine hK _ ?_; clear hK K) | (apply Exists.intro; refine ⟨fun _ => ?_, hK _ ?_⟩; ((go_at_call 49; exact HG.out _ gri)); clear hK K))
   refine wpCalm_nil ?_
   refine fe_mixAllocD 15 (by kernel_rfl) rfl rfl rfl rfl Tryz.zeroValue66 fun B1 hB1 nB1 => ?_
   simp only [Act.put, stA, List.set]
   refine fe_mixStoreN 16 [(B1, bkC Y, 66)] (bkC Y) (by kernel_rfl) rfl rfl rfl rfl rfl mcs hB1 rfl (by rw [bkC_size, HYL.out]; exact infoBlk) (by rw [bkC_size, HYL.out]; kernel_rfl) (List.all_eq_true.2 (bkC_one Y)) (fun z hz => .inl (by simpa using hz)) ?_
   refine fe_mixCalmD 17 (.bool yi) (by kernel_rfl) rfl rfl rfl (fun g => by unfold calmAt; go_simp) ?_
   simp only [Act.put, stA, List.set]
   refine fe_end (by kernel_rfl) ?_
   intro w1 hw1
   have bB : BlockAt w1 B1 (bkC Y) 66 := ⟨hw1.2 _ mcs⟩
   have g27 : Gr wr w1 := hw1.1
   clear hw1 nB1
   obtain ⟨gk, rfl⟩ := g27
   haveI := bB
   try simp only [Act.put, stA, List.set]
   go_wp2
   refine wp_region_treeH ⟨fun w' => Gr (grown wr gk) w', true, fun _ _ h => h, fun _ _ _ h g => h.trans g⟩ rfl (Gr.of ((Below.refl _ _).drew)) [0, 1, 2, 3, 4, 5, 6] 4 8 (by kernel_rfl) (by kernel_rfl) ?_
   simp only [pick, List.drop, List.take, List.nil_append, List.cons_append]
   repeat (refine wpCalm_step (fun K hK => ?_); go_simp; first | (refine hK _ ?_; clear hK K) | (apply Exists.intro; refine ⟨fun _ => ?_, hK _ ?_⟩; (skip); clear hK K))
   refine wpCalm_load rfl rfl rfl bB Tryz.underlying66 rfl (by rw [bkC_size, HYL.out]; exact infoBlk) ?_
   simp only [Act.put, stA, List.set]
   repeat (refine wpCalm_step (fun K hK => ?_); go_simp; first | (refine hK _ ?_; clear hK K) | (apply Exists.intro; refine ⟨fun _ => ?_, hK _ ?_⟩; (skip); clear hK K))
   refine wpCalm_nil ?_
   refine fg_one 7 (by kernel_rfl) ?_
   refine fg_effD rfl rfl rfl (fun w1 hw1 => effAt_call' 53 #[.agg (bkC Y), .agg #[.int .i64 (sb : Int), .int .i64 (sf : Int), .int .i64 (st : Int)]] (by go_simp) ((rcut_any Y sb sf st HYL.out hsf hst w1).mono fun e w2 hc => ?_))
   obtain ⟨v1, rfl, ho1, hg1⟩ := hc
   obtain ⟨A1, c1', rfl, hl1, hm1, hr1⟩ := ho1.form bIs
   have hnn : A1 = none → c1' = 0 := fun e => by
    subst e
    rcases ho1.own.2 with ⟨e, _⟩ | ⟨b, cap, cur, e, _⟩
    ·simp only [Value.slice.injEq] at e; exact e.2.2
    ·simp only [Value.slice.injEq] at e; cases e.1
   obtain ⟨Z, hZ⟩ : ∃ Z, Z = cutK Y ⟨sb, sf, st⟩ := ⟨_, rfl⟩
   rw [← hZ] at hr1 ⊢
   refine ⟨_, rfl, ⟨fun w2 => Gr (grown wr gk) w2 ∧ RowN bE w2 A1 Z, true, fun _ _ h => h.1, fun _ _ _ h g => ⟨h.1.trans g, h.2.gr g⟩⟩, ⟨Gr.trans hw1 hg1, hr1⟩, fun _ _ => rfl, ?_⟩
   have HZ := hd_ hZ
   have hZl : Z.length ≤ 256 := by rw [hZ, cutK]; have := HYL.out; simp; omega
   have HZl := hd_ hZl
   obtain ⟨zn, hzn⟩ : ∃ zn, zn = Z.length := ⟨_, rfl⟩
   rw [← hzn]
   have HZN := hd_ hzn
   have HNN := hd_ hnn
   clear ho1 hg1 hw1 hr1 hl1 hm1 w2 w1 hZ hZl hzn hnn
   simp only [Act.put, stA, List.set]
   refine fg_one 8 (by kernel_rfl) ?_
   refine fg_effD rfl rfl rfl (fun w1 hw1 => effAt_append_x bIs _ _ rfl rfl (HO.out.gr (Gr.trans gri hw1.1)) A1 Z zn c1' HZN.out.symm rfl HNN.out hw1.2 (by have := HDK.out; have := HZl.out; omega) (Nat.le_trans HGW.out.below.size (Gr.below (Gr.trans (gri : Gr wr (grown wr gk)) hw1.1)).size) ?_)
   intro v2 W2 h2
   have ho2 := h2.own
   obtain ⟨A2, c2', rfl, -, -, -⟩ := ho2.form bIs
   obtain ⟨n2, hn2⟩ : ∃ n2, n2 = ((L.take k).flatMap F ++ Z).length := ⟨_, rfl⟩
   rw [← hn2] at ho2 ⊢
   have gw1 : Gr wr w1 := Gr.trans gri hw1.1
   refine ⟨⟨fun w2 => OwnN bE w.heap.size w2 (.slice A2 n2 c2') ((L.take k).flatMap F ++ Z) ∧ BlockAt w2 A0 #[.int .i64 0, .int .i64 0, .slice vA vn vc] 38 ∧ BlockAt w2 (w.heap.size + 1) #[.int .i64 0, .int .i64 0, .slice none 0 0] 38 ∧ BlockAt w2 w.heap.size #[.int .i64 9, .int .u64 xv, .int .u64 xt, .int .i64 xs, .int .i64 (an : Int), .int .i64 (C : Int), .slice xD xn xq] 27 ∧ w2.heap[gS]? = W5.heap[gS]? ∧ Gr w w2, false, fun e => Bool.noConfusion e, fun e => Bool.noConfusion e⟩, ⟨ho2, h2.keep _ _ _ (k8.gr gw1) (by decide), h2.keep _ _ _ (k6.gr gw1) (by decide), h2.keep _ _ _ (k4.gr gw1) (by decide), ?hgs, Gr.trans_below (HGW.out.trans gw1) h2.below⟩, fun e => absurd rfl e, ?_⟩
   case hgs =>
    have e1 : w1.heap[gS]? = W5.heap[gS]? := (gw1.below.block gS (Old.lt (b := gS) (W := wr))).trans HGS.out
    exact (h2.block gS (Nat.lt_of_lt_of_le (Old.lt (b := gS) (W := wr)) gw1.below.size) (fun cs f e => by rw [e1, HH5.out] at e; cases e)).trans e1
   have HN2 := hd_ hn2
   clear ho2 h2 gw1 hw1 hn2 W2 w1
   simp only [Act.put, stA, List.set]
   refine fg_one 9 (by kernel_rfl) ?_
   refine fg_pure (.pointer (some ⟨A0, 2, none⟩)) rfl rfl rfl (fun w => by go_simp) ?_
   simp only [Act.put, stA, List.set]
   refine fg_one 10 (by kernel_rfl) ?_
   refine fg_effN rfl rfl rfl (fun w1 hw1 => ?_)
   obtain ⟨ho9, m8, m6, m4, mS, mg⟩ := hw1
   have hneS : gS ≠ A0 := fun e => by
    have h9 := HB8.out.eq
    rw [← e, HH5.out] at h9
    cases h9
   have t0 : w1.cell? ⟨A0, 2, none⟩ = some (.slice vA vn vc) := (bc 2 m8).trans rfl
   have t1 : w1.frozen? ⟨A0, 2, none⟩ = false := @block_frozen _ _ 2 _ _ m8
   haveI oA0 : Old A0 w1 := m8.old
   have hrun : (storeVar 25 ⟨A0, 2, none⟩ (.slice A2 n2 c2')).run Tryz.prog w1 = .ok () (w1.setCell ⟨A0, 2, none⟩ (.slice A2 n2 c2')) := by go_simp
   refine effAt_storeG rfl rfl rfl hrun ⟨⟨fun w2 => OwnN bE w.heap.size w2 (.slice A2 n2 c2') ((L.take k).flatMap F ++ Z) ∧ BlockAt w2 A0 #[.int .i64 0, .int .i64 0, .slice A2 n2 c2'] 38 ∧ BlockAt w2 (w.heap.size + 1) #[.int .i64 0, .int .i64 0, .slice none 0 0] 38 ∧ BlockAt w2 w.heap.size #[.int .i64 9, .int .u64 xv, .int .u64 xt, .int .i64 xs, .int .i64 (an : Int), .int .i64 (C : Int), .slice xD xn xq] 27 ∧ w2.heap[gS]? = W5.heap[gS]? ∧ Gr w w2, false, fun e => Bool.noConfusion e, fun e => Bool.noConfusion e⟩, ⟨ho9.set_ A0 2 _ (by decide), ?h8, ?h6, ?h4, (Below.heap_setCell w1 ⟨A0, 2, none⟩ _ gS hneS).trans mS, Gr.of (mg.below.setCell (p := ⟨A0, 2, none⟩) (by show w.heap.size ≤ A0; omega) _)⟩, fun _ e => Bool.noConfusion e, ?_⟩
   case h8 =>
    show BlockAt _ A0 (#[.int .i64 0, .int .i64 0, .slice vA vn vc].setIfInBounds 2 (.slice A2 n2 c2')) _
    infer_instance
   case h6 => exact ⟨(Below.heap_setCell w1 ⟨A0, 2, none⟩ _ (w.heap.size + 1) (by show w.heap.size + 1 ≠ A0; omega)).trans m6.eq⟩
   case h4 => exact ⟨(Below.heap_setCell w1 ⟨A0, 2, none⟩ _ w.heap.size (by show w.heap.size ≠ A0; omega)).trans m4.eq⟩
   clear ho9 m8 m6 m4 mS mg t0 t1 hrun oA0 w1
   refine fg_end (by kernel_rfl) (fun w5 hw5 => ?_)
   obtain ⟨ho9, m8, m6, m4, mS, mg⟩ := hw5
   have HFIN := hd_ (show OwnN bE w.heap.size w5 (.slice A2 n2 c2') ((L.take (k + 1)).flatMap F) ∧ w5.heap[gS]? = W5.heap[gS]? ∧ Gr w w5 from ⟨by rw [List.take_add_one, HS.out, List.flatMap_append, Option.toList_some, List.flatMap_cons, List.flatMap_nil, List.append_nil, HYe.out, ← HZ.out]; exact ho9, mS, mg⟩)
   clear ho9 mS mg
   try simp only [Act.put]
   go_wp2
   go_roundw
   case rel => exact ⟨k + 1, A2, n2, c2', hlt, by go_num, HFIN.out.1, m8, m6, m4, HFIN.out.2.1, HFIN.out.2.2⟩
   case measure => simp [intOf]; omega
  ·have hkk : k = L.length := by omega
   rw [hkk, List.take_length] at hown
   have p0 : wr.cell? ⟨A0, 0, none⟩ = some (.int .i64 0) := (bc 0 k8).trans rfl
   have p1 : wr.cell? ⟨A0, 1, none⟩ = some (.int .i64 0) := (bc 1 k8).trans rfl
   have q0 : wr.cell? ⟨w.heap.size + 1, 0, none⟩ = some (.int .i64 0) := (bc 0 k6).trans rfl
   have q1 : wr.cell? ⟨w.heap.size + 1, 1, none⟩ = some (.int .i64 0) := (bc 1 k6).trans rfl
   have q2 : wr.cell? ⟨w.heap.size + 1, 2, none⟩ = some (.slice none 0 0) := (bc 2 k6).trans rfl
   have fz : ∀ o, wr.frozen? ⟨w.heap.size + 1, o, none⟩ = false := fun o => @block_frozen _ _ o _ _ k6
   have HRk := hd_ hRk
   have HO := hd_ hown
   have HGW := hd_ hgw
   clear hRk hown hgw hgS9 hvn hDk
   go_wp2
   exact bodyPost_ret (run_resCell1 rfl _ _ _ _ rfl (ans_block k6 _ _ _) Tryz.underlying38 rfl (by kernel_rfl)) rfl ⟨vA, vn, vc, rfl, ((HO.out.set_ (w.heap.size + 1) 0 _ (by decide)).set_ (w.heap.size + 1) 1 _ (by decide)).set_ (w.heap.size + 1) 2 _ (by decide), ans_ref (by rw [← HN.out] at *; exact HRk.out) k6 _ _ _, ans_below (HGW.out.below.mono hbase) (by omega) _ _ _, ans_rk (RK.gr HGW.out) (by omega) _ _ _⟩
theorem rpart_any (xk xv xt xs xa xc most : Int) (xD : Option Addr) (xn xq : Nat) (hq : xn ≤ xq) (lx : Byt) (hxn : lx.length = xn) (base R : Nat) (d : Dev) (w W0 : World) (h0 : Gr W0 w) (hb0 : base = W0.heap.size) (h : RefAt base w R d) (hl : d.length ≤ 1000000) (hr : Row bv W0 xD lx) (hn : xn ≤ 1000000) (v0 : 0 ≤ xv) (t0 : 0 ≤ xt) (hmost : 1024 ≤ most) :
  Calls Tryz.prog 18 #[.pointer (some ⟨R, 0, none⟩), .agg #[.int .i64 xk, .int .u64 xv, .int .u64 xt, .int .i64 xs, .int .i64 xa, .int .i64 xc, .slice xD xn xq], .int .i64 most] w
   (RPost base R (doK d ⟨xk, xv, xt, xs, xa, xc, lx⟩) (ansK d ⟨xk, xv, xt, xs, xa, xc, lx⟩ 1024).1 (ansK d ⟨xk, xv, xt, xs, xa, xc, lx⟩ 1024).2.1 (ansK d ⟨xk, xv, xt, xs, xa, xc, lx⟩ 1024).2.2 w) := by
 have hbase : base ≤ w.heap.size := by rw [hb0]; exact h0.below.size
 by_cases he : errK d ⟨xk, xv, xt, xs, xa, xc, lx⟩ = 0
 rotate_left
 ·have e1 : doK d ⟨xk, xv, xt, xs, xa, xc, lx⟩ = d := by rw [doK, partK, if_neg he]
  have e2 : ansK d ⟨xk, xv, xt, xs, xa, xc, lx⟩ 1024 = (errK d ⟨xk, xv, xt, xs, xa, xc, lx⟩, 0, []) := by rw [ansK, if_neg he]
  rw [e1, e2]
  exact rpart_ref xk xv xt xs xa xc most xD xn xq lx hxn base R d w h hbase hl hn v0 t0 _ rfl (errK_val d _ he)
 have hm := errK_may he
 have hs := may_s hm
 have hkk := may_kind hm
 have hok := part_ok (by obtain ⟨v, vf, h⟩ := h; exact h.ok : DevOk d) ⟨xk, xv, xt, xs, xa, xc, lx⟩ 1024
 have e1 : doK d ⟨xk, xv, xt, xs, xa, xc, lx⟩ = didK d ⟨xk, xv, xt, xs, xa, xc, lx⟩ 1024 := by rw [doK, partK, if_pos he]
 have h9 : xk = 1 ∨ xk = 2 ∨ xk = 3 ∨ xk = 4 ∨ xk = 5 ∨ xk = 6 ∨ xk = 7 ∨ xk = 8 ∨ xk = 9 := by simp only at hkk; omega
 rw [partK, if_pos he] at hok
 rw [e1]
 clear e1 hkk
 rcases h9 with rfl | rfl | rfl | rfl | rfl | rfl | rfl | rfl | rfl
 ·have e2 : ansK d ⟨1, xv, xt, xs, xa, xc, lx⟩ 1024 = (0, 0, []) := by simp [ansK, he]
  have e3 : didK d ⟨1, xv, xt, xs, xa, xc, lx⟩ 1024 = putK d xv (xs, []) := by simp [didK]
  have hg : getK d xv = none := by
   cases hx : getK d xv with
   | none => rfl
   | some x => rw [errK, if_neg (by rw [hm]; simp)] at he; simp [hx] at he
  rw [e3] at hok
  rw [e2, e3]
  exact rpart_1 xv xt xs xa xc most xD xn xq lx hxn base R d w h hbase hl hn v0 t0 he hg hok
 ·obtain ⟨x, hv⟩ := errK_vol he (by simp) (by simp)
  have e2 : ansK d ⟨2, xv, xt, xs, xa, xc, lx⟩ 1024 = (0, 0, []) := by simp [ansK, he]
  have e3 : didK d ⟨2, xv, xt, xs, xa, xc, lx⟩ 1024 = delK d xv := by simp [didK]
  rw [e2, e3]
  exact rpart_2 xv xt xs xa xc most xD xn xq lx hxn base R d w h hbase hl hn v0 t0 he x hv
 ·obtain ⟨x, hv⟩ := errK_vol he (by simp) (by simp)
  simp only at hv
  have e2 : ansK d ⟨3, xv, xt, xs, xa, xc, lx⟩ 1024 = (0, 0, []) := by simp [ansK, he]
  have e3 : didK d ⟨3, xv, xt, xs, xa, xc, lx⟩ 1024 = putK d xv (xs, x.2.filter fun p => decide (p.1 < xs)) := by simp [didK, volD, hv]
  rw [e2, e3]
  exact rpart_3 xv xt xs xa xc most xD xn xq lx hxn base R d w h hbase hl hn v0 t0 he x hv (hs.size (by simp))
 ·obtain ⟨x, hv⟩ := errK_vol he (by simp) (by simp)
  simp only at hv
  have e2 : ansK d ⟨4, xv, xt, xs, xa, xc, lx⟩ 1024 = (0, 0, []) := by simp [ansK, he]
  have e3 : didK d ⟨4, xv, xt, xs, xa, xc, lx⟩ 1024 = putK d xt x := by simp [didK, volD, hv]
  have hg : getK d xt = none := by
   cases hx : getK d xt with
   | none => rfl
   | some y => rw [errK, if_neg (by rw [hm]; simp)] at he; simp [hv, hx] at he
  rw [e3] at hok
  rw [e2, e3]
  exact rpart_4 xv xt xs xa xc most xD xn xq lx hxn base R d w h hbase hl hn v0 t0 he x hv hg hok
 ·obtain ⟨x, hv⟩ := errK_vol he (by simp) (by simp)
  simp only at hv
  have ha := hs.at_ (by simp)
  have hd := hs.dat rfl
  simp only at ha hd
  rw [hxn] at hd
  have hfit : ¬ 4 * x.1 < xa + ((xn / 64 : Nat) : Int) := fun hlt => by
   rw [errK, if_neg (by rw [hm]; simp)] at he
   simp [hv, hxn] at he
   omega
  have hsp := spans_len xa.toNat (xn / 64)
  have e2 : ansK d ⟨5, xv, xt, xs, xa, xc, lx⟩ 1024 = (0, 0, []) := by
   have : ¬ (1024 : Int) < ((spans xa.toNat (xn / 64)).length : Int) := by omega
   simp [ansK, he, cntO, hxn]
   omega
  have e3 : didK d ⟨5, xv, xt, xs, xa, xc, lx⟩ 1024 = putK d xv (x.1, putL xa.toNat lx x.2 (spans xa.toNat (xn / 64))) := by
   have : (spans xa.toNat (xn / 64)).take (1024 : Int).toNat = spans xa.toNat (xn / 64) := List.take_of_length_le (by show _ ≤ 1024; omega)
   simp only [didK, volD, hv, dataO, cntO, hxn]
   simp
   rw [List.take_of_length_le (by omega)]
  rw [e2, e3]
  exact rpart_5 xv xt xs xa xc most xD xn xq lx hxn base R d w h hbase hl hn v0 t0 he W0 h0 hb0 hr hq hd.1 hd.2.1 hd.2.2 x hv ha.1 ha.2 hmost hfit
 ·obtain ⟨x, hv⟩ := errK_vol he (by simp) (by simp)
  simp only at hv
  have ha := hs.at_ (by simp)
  have hc := hs.cnt (by simp)
  simp only at ha hc
  have hfit : ¬ 4 * x.1 < xa + xc := fun hlt => by
   rw [errK, if_neg (by rw [hm]; simp)] at he
   simp [hv] at he
   omega
  have hsp := spans_len xa.toNat xc.toNat
  have e2 : ansK d ⟨6, xv, xt, xs, xa, xc, lx⟩ 1024 = (0, 0, []) := by
   simp [ansK, he, cntO]
   omega
  have e3 : didK d ⟨6, xv, xt, xs, xa, xc, lx⟩ 1024 = putK d xv (x.1, putL xa.toNat (List.replicate (64 * xc.toNat) 0) x.2 (spans xa.toNat xc.toNat)) := by
   simp only [didK, volD, hv, dataO, cntO]
   simp
   rw [List.take_of_length_le (by omega)]
  rw [e2, e3]
  exact rpart_6 xv xt xs xa xc most xD xn xq lx hxn base R d w h hbase hl hn v0 t0 he hc.1 hc.2 x hv ha.1 ha.2 hmost hfit
 ·obtain ⟨x, hv⟩ := errK_vol he (by simp) (by simp)
  simp only at hv
  have ha := hs.at_ (by simp)
  have hc := hs.cnt (by simp)
  simp only at ha hc
  have e2 : ansK d ⟨7, xv, xt, xs, xa, xc, lx⟩ 1024 = (0, 0, []) := by simp [ansK, he]
  have e3 : didK d ⟨7, xv, xt, xs, xa, xc, lx⟩ 1024 = putK d xv (x.1, x.2.filter fun p => decide (p.1 < xa ∨ xa + xc ≤ p.1)) := by simp [didK, volD, hv]
  rw [e2, e3]
  exact rpart_7 xv xt xs xa xc most xD xn xq lx hxn base R d w h hbase hl hn v0 t0 he x hv ha hc
 ·have e2 : ansK d ⟨8, xv, xt, xs, xa, xc, lx⟩ 1024 = (0, 0, []) := by simp [ansK, he]
  have e3 : didK d ⟨8, xv, xt, xs, xa, xc, lx⟩ 1024 = d := by simp [didK]
  rw [e2, e3]
  exact rpart_8 xv xt xs xa xc most xD xn xq lx hxn base R d w h hbase hl hn v0 t0 he
 ·obtain ⟨x, hv⟩ := errK_vol he (by simp) (by simp)
  simp only at hv
  have ha := hs.at_ (by simp)
  have hc := hs.cnt (by simp)
  simp only at ha hc
  have hfit : ¬ 4 * x.1 < xa + xc := fun hlt => by
   rw [errK, if_neg (by rw [hm]; simp)] at he
   simp [hv] at he
   omega
  have e2 : ansK d ⟨9, xv, xt, xs, xa, xc, lx⟩ 1024 = (0, 0, (spans xa.toNat xc.toNat).flatMap fun s => cutK (blkM x.2 s.b) s) := by simp [ansK, he, readK, volD, hv]
  have e3 : didK d ⟨9, xv, xt, xs, xa, xc, lx⟩ 1024 = d := by simp [didK]
  rw [e2, e3]
  exact rpart_9 xv xt xs xa xc most xD xn xq lx hxn base R d w h hbase hl hn v0 t0 he hc.1 hc.2 x hv ha.1 ha.2 hmost hfit
theorem rdo_any (xk xv xt xs xa xc : Int) (xD : Option Addr) (xn xq : Nat) (hq : xn ≤ xq) (lx : Byt) (hxn : lx.length = xn) (base R : Nat) (d : Dev) (w W0 : World) (h0 : Gr W0 w) (hb0 : base = W0.heap.size) (h : RefAt base w R d) (hl : d.length ≤ 1000000) (hr : Row bv W0 xD lx) (hn : xn ≤ 1000000) (v0 : 0 ≤ xv) (t0 : 0 ≤ xt) :
  Calls Tryz.prog 9 #[.pointer (some ⟨R, 0, none⟩), .agg #[.int .i64 xk, .int .u64 xv, .int .u64 xt, .int .i64 xs, .int .i64 xa, .int .i64 xc, .slice xD xn xq]] w
   (RPost base R (doK d ⟨xk, xv, xt, xs, xa, xc, lx⟩) (ansK d ⟨xk, xv, xt, xs, xa, xc, lx⟩ 1024).1 (ansK d ⟨xk, xv, xt, xs, xa, xc, lx⟩ 1024).2.1 (ansK d ⟨xk, xv, xt, xs, xa, xc, lx⟩ 1024).2.2 w) := by
 have HC := hd_ fun W (g : Gr w W) => rpart_any xk xv xt xs xa xc 1073741824 xD xn xq hq lx hxn base R d W W0 (h0.trans g) hb0 (h.gr g) hl hr hn v0 t0 (by decide)
 generalize doK d ⟨xk, xv, xt, xs, xa, xc, lx⟩ = d' at *
 generalize ansK d ⟨xk, xv, xt, xs, xa, xc, lx⟩ 1024 = z at *
 obtain ⟨code, done, data⟩ := z
 have hbase : base ≤ w.heap.size := by rw [hb0]; exact h0.below.size
 simp only at HC ⊢
 clear h hr
 go_enter Tryz.func9, Tryz.ntmps9
 go_wp2_with (first
  | (go_at_call 18; ((with_reducible refine (HC.out _ gri).mono ?_); rintro _ W3 ⟨A3, n3, c3, rfl, ho3, hd3, hb3, hk3⟩; have bA3 := hk3.block (inferInstance : BlockAt _ (w.heap.size + 1) #[.int .i64 0, .int .i64 0, .slice none 0 0] 38) (by unfold refT; decide); have cA0 : W3.cell? ⟨w.heap.size + 1, 0, none⟩ = some (.int .i64 0) := (bc 0 bA3).trans rfl; have cA1 : W3.cell? ⟨w.heap.size + 1, 1, none⟩ = some (.int .i64 0) := (bc 1 bA3).trans rfl; have cA2 : W3.cell? ⟨w.heap.size + 1, 2, none⟩ = some (.slice none 0 0) := (bc 2 bA3).trans rfl; have fA : ∀ o, W3.frozen? ⟨w.heap.size + 1, o, none⟩ = false := fun o => @block_frozen _ _ o _ _ bA3)))
 have gW : Gr w ((w.alloc (.cells #[.int .i64 xk, .int .u64 xv, .int .u64 xt, .int .i64 xs, .int .i64 xa, .int .i64 xc, .slice xD xn xq] 27)).alloc (.cells #[.int .i64 0, .int .i64 0, .slice none 0 0] 38)) := gri
 obtain ⟨v3, vf3, hd3⟩ := hd3
 have ho4 : OwnN bE w.heap.size W3 (.slice A3 n3 c3) data := ⟨ho3.ok, OwnsRow_mono ho3.own gW.below.size⟩
 have ho5 := ((ho4.set_ (w.heap.size + 1) 0 (.int .i64 code) (by decide)).set_ (w.heap.size + 1) 1 (.int .i64 done) (by decide)).set_ (w.heap.size + 1) 2 (.slice A3 n3 c3) (by decide)
 exact bodyPost_ret (run_resCell1 rfl _ _ _ _ rfl (ans_block bA3 _ _ _) Tryz.underlying38 rfl (by kernel_rfl)) rfl ⟨A3, n3, c3, rfl, ho5, ans_ref hd3 bA3 _ _ _, ans_below ((gW.below.mono hbase).trans hb3) (by omega) _ _ _, ans_rk ((RK.gr gW).trans hk3) (by omega) _ _ _⟩
structure OpC where
 o : OpM
 D : Option Addr
 n : Nat
 q : Nat
def opE : EK OpC := ⟨fun x => [.int .i64 x.o.k, .int .u64 x.o.v, .int .u64 x.o.t, .int .i64 x.o.s, .int .i64 x.o.a, .int .i64 x.o.c, .slice x.D x.n x.q], 7, 27, 22, 72, .agg #[.int .i64 0, .int .u64 0, .int .u64 0, .int .i64 0, .int .i64 0, .int .i64 0, .slice none 0 0], fun _ => True⟩
structure OpOk (W : World) (x : OpC) : Prop where
 len : x.o.l.length = x.n
 cap : x.n ≤ x.q
 small : x.n ≤ 1000000
 row : Row bv W x.D x.o.l
 v0 : 0 ≤ x.o.v
 t0 : 0 ≤ x.o.t
theorem OpOk.gr {W W' : World} {x : OpC} (h : OpOk W x) (g : Gr W W') : OpOk W' x := ⟨h.len, h.cap, h.small, h.row.gr g, h.v0, h.t0⟩
theorem putK_len2 {β : Type} (m : List (Int × β)) (n : Int) (B : β) : (putK m n B).length ≤ m.length + 1 := by
 induction m with
 | nil => simp [putK]
 | cons p r ih =>
  obtain ⟨a, x⟩ := p
  unfold putK
  split
  ·simp
  split
  ·simp
  ·simp; exact ih
theorem doK_len (d : Dev) (o : OpM) : (doK d o).length ≤ d.length + 1 := by
 unfold doK partK
 split
 ·unfold didK
  repeat' split
  all_goals first | exact putK_len2 _ _ _ | (exact Nat.le_trans (List.length_filter_le _ _) (Nat.le_succ _)) | omega
 ·omega
theorem devOf_snoc (l : List OpM) (o : OpM) : devOf (l ++ [o]) = doK (devOf l) o := by simp [devOf]
theorem foldK_len : ∀ (l : List OpM) (d : Dev), (l.foldl doK d).length ≤ d.length + l.length
 | [], d => by simp
 | o :: l, d => by
  have h1 := foldK_len l (doK d o)
  have h2 := doK_len d o
  simp only [List.foldl_cons, List.length_cons]
  omega
theorem devOf_len (l : List OpM) : (devOf l).length ≤ l.length := by
 have := foldK_len l []
 simpa [devOf] using this
theorem devOf_take (l : List OpC) (k : Nat) (x : OpC) (h : l[k]? = some x) : devOf ((l.take (k + 1)).map (·.o)) = doK (devOf ((l.take k).map (·.o))) x.o := by
 rw [List.take_add_one, h, List.map_append]
 exact devOf_snoc _ _
theorem opCells {W : World} {b p : Nat} {l : List OpC} {k : Nat} {x : OpC} (h : CellsN opE W b p l) (hx : l[k]? = some x) :
  W.cell? ⟨b, p + k * 7, none⟩ = some (.int .i64 x.o.k) ∧ W.cell? ⟨b, p + k * 7 + 1, none⟩ = some (.int .u64 x.o.v) ∧ W.cell? ⟨b, p + k * 7 + 2, none⟩ = some (.int .u64 x.o.t) ∧ W.cell? ⟨b, p + k * 7 + 3, none⟩ = some (.int .i64 x.o.s) ∧ W.cell? ⟨b, p + k * 7 + 4, none⟩ = some (.int .i64 x.o.a) ∧ W.cell? ⟨b, p + k * 7 + 5, none⟩ = some (.int .i64 x.o.c) ∧ W.cell? ⟨b, p + k * 7 + 6, none⟩ = some (.slice x.D x.n x.q) :=
 ⟨h k x hx 0 _ rfl, h k x hx 1 _ rfl, h k x hx 2 _ rfl, h k x hx 3 _ rfl, h k x hx 4 _ rfl, h k x hx 5 _ rfl, h k x hx 6 _ rfl⟩
theorem refAt_new (W : World) (B : Nat) (base : Nat) (h : BlockAt W B #[.slice none 0 0] 35) (hb : base ≤ B) : RefAt base W B [] :=
 ⟨.slice none 0 0, fun _ => .slice none 0 0, h, OwnN.nil _ _, by simp, hb, ⟨List.Pairwise.nil, by simp, by simp⟩⟩
abbrev AnsM := Int × Int × Byt
structure AnsC where
 code : Int
 done : Int
 l : Byt
 D : Option Addr
 n : Nat
 q : Nat
def AnsC.m (x : AnsC) : AnsM := (x.code, x.done, x.l)
def ansE : EK AnsC := ⟨fun x => [.int .i64 x.code, .int .i64 x.done, .slice x.D x.n x.q], 3, 38, 41, 40, .agg #[.int .i64 0, .int .i64 0, .slice none 0 0], fun _ => True⟩
theorem ansIs : ansE.Is where
 len := fun _ _ => rfl
 one := fun x _ v hv => by
  simp only [ansE, List.mem_cons, List.mem_nil_iff, or_false] at hv
  rcases hv with rfl | rfl | rfl <;> rfl
 pos := by decide
 hT := Tryz.underlying41
 hE := by kernel_rfl
 hz := rfl
 hb := by decide
structure AnsOk (base : Nat) (W : World) (x : AnsC) : Prop where
 len : x.l.length = x.n
 cap : x.n ≤ x.q
 small : x.n ≤ 1000000
 nil : x.D = none → x.q = 0
 row : x.l ≠ [] → ∃ b p cs f, x.D = some ⟨b, p, none⟩ ∧ base ≤ b ∧ W.heap[b]? = some (.cells cs 5 f) ∧ ∀ (j : Nat) y, x.l[j]? = some y → W.cell? ⟨b, p + j, none⟩ = some (bv y)
def BK (W W' : World) : Prop := ∀ (b : Nat) cs f, W.heap[b]? = some (Obj.cells cs 5 f) → W'.heap[b]? = W.heap[b]?
theorem BK.refl (W : World) : BK W W := fun _ _ _ _ => rfl
theorem BK.gr {W W' : World} (g : Gr W W') : BK W W' := fun b cs f h => g.below.block b (Array.getElem?_eq_some_iff.1 h).1
theorem BK.trans {A B C : World} (h : BK A B) (k : BK B C) : BK A C := fun b cs f hb => (k b cs f ((h b cs f hb).trans hb)).trans (h b cs f hb)
theorem BK.app {α : Type} {e : EK α} {base : Nat} {W W' : World} {v v' : Value} {xs ys : List α} (h : AppN e base W v xs ys v' W') (he : e.E ≠ 5) : BK W W' := fun b cs f hb => h.block b (Array.getElem?_eq_some_iff.1 hb).1 (fun cs' f' e2 => by rw [hb] at e2; exact he (Obj.cells.inj (Option.some.inj e2)).2.1.symm)
theorem BK.ck {W W' : World} (h : CK W W') : BK W W' := fun b cs f hb => h.keep b cs _ f hb
theorem AnsOk.bk {base : Nat} {W W' : World} {x : AnsC} (h : AnsOk base W x) (g : BK W W') : AnsOk base W' x := ⟨h.len, h.cap, h.small, h.nil, fun hne => by
 obtain ⟨b, p, cs, f, h1, h2, h3, h4⟩ := h.row hne
 have e := g b cs f h3
 refine ⟨b, p, cs, f, h1, h2, e.trans h3, fun j y hj => ?_⟩
 rw [← h4 j y hj]
 simp [World.cell?, e]⟩
theorem AnsOk.gr {base : Nat} {W W' : World} {x : AnsC} (h : AnsOk base W x) (g : Gr W W') : AnsOk base W' x := h.bk (BK.gr g)
theorem AnsOk.more {base b2 : Nat} {W : World} {x : AnsC} (h : AnsOk b2 W x) (hb : base ≤ b2) : AnsOk base W x := ⟨h.len, h.cap, h.small, h.nil, fun hne => by
 obtain ⟨b, p, cs, f, h1, h2, h3⟩ := h.row hne
 exact ⟨b, p, cs, f, h1, Nat.le_trans hb h2, h3⟩⟩
theorem ansOk_nil (base : Nat) (W : World) (c d : Int) : AnsOk base W ⟨c, d, [], none, 0, 0⟩ := ⟨rfl, Nat.le_refl _, Nat.zero_le _, fun _ => rfl, fun h => absurd rfl h⟩
theorem AnsOk.rowb {base : Nat} {W : World} {x : AnsC} (h : AnsOk base W x) : Row bv W x.D x.l := ⟨fun hne => by
 obtain ⟨b, p, cs, f, h1, h2, h3, h4⟩ := h.row (by rintro e; rw [e] at hne; simp at hne)
 exact ⟨b, p, h1, (Array.getElem?_eq_some_iff.1 h3).1, h4⟩⟩
theorem ansOk_own {base : Nat} {W : World} {A : Option Addr} {n c : Nat} {l : Byt} {code done : Int} (h : OwnN bE base W (.slice A n c) l) (hl : l.length ≤ 1000000) : AnsOk base W ⟨code, done, l, A, n, c⟩ := by
 obtain ⟨A', c', hv, hc, hm, hr⟩ := h.form bIs
 cases hv
 rcases h.own.2 with ⟨e, h0⟩ | ⟨g, cap, cur, e, hb, hh, _⟩
 ·simp only [Value.slice.injEq] at e
  obtain ⟨rfl, _, rfl⟩ := e
  exact ⟨rfl, hc, hl, fun _ => rfl, fun hne => absurd (List.eq_nil_of_length_eq_zero h0) hne⟩
 ·simp only [Value.slice.injEq] at e
  obtain ⟨rfl, _, rfl⟩ := e
  refine ⟨rfl, hc, hl, (fun e => by cases e), fun hne => ?_⟩
  obtain ⟨g2, c2, hv2, h1, h2, h3, h4, h5, h6⟩ := h.cells bIs hne
  cases hv2
  exact ⟨_, 0, _, _, rfl, h1, hh, fun j y hj => by have := h5 j y hj 0 _ rfl; simpa [bE] using this⟩
theorem gr_app0 {α : Type} {e : EK α} {base : Nat} {W W' : World} {v v' : Value} {xs ys : List α} (h : AppN e base W v xs ys v' W') (h0 : v.ownBlock = none) : Gr W W' :=
 Gr.of ((Below.refl _ _).grown h.gb (Nat.le_refl _) (fun q hq => by rw [h0] at hq; cases hq))
/-! Plainly. -/
def waysK (d : Dev) (o : OpM) : List AnsM :=
 ansK d o 1024 :: if (ansK d o 1024).1 ≠ 0 ∨ o.k = 9 ∨ o.k = 8 then [] else if o.k = 5 ∨ o.k = 6 then (List.range (spans o.a.toNat (cntO o)).length).map (fun k : Nat => ((8, (k : Int), []) : AnsM)) else [(8, 0, [])]
theorem readK_len {d : Dev} (h : DevOk d) (o : OpM) : (readK d o).length ≤ 256 * (spans o.a.toNat o.c.toNat).length := by
 have hx := volD_ok h o.v
 unfold readK
 generalize spans o.a.toNat o.c.toNat = l
 induction l with
 | nil => simp
 | cons s l ih =>
  rw [List.flatMap_cons, List.length_append, List.length_cons]
  have h1 : (cutK (blkM (volD d o.v).2 s.b) s).length ≤ 256 := by
   have := blkM_len hx.sort hx.len s.b
   unfold cutK
   rw [List.length_take, List.length_drop]
   omega
  omega
theorem ansK_len {d : Dev} (h : DevOk d) (o : OpM) (most : Int) : (ansK d o most).2.2.length ≤ 262144 := by
 unfold ansK
 split
 ·rename_i he
  split
  ·simp
  ·split
   ·rename_i h9
    have hm : o.may = true := by
     cases hm : o.may with
     | true => rfl
     | false => rw [errK, if_pos hm] at he; cases he
    have hs := may_s hm
    have h1 := readK_len h o
    have h2 := spans_len o.a.toNat o.c.toNat
    have h3 := hs.cnt (by omega)
    simp only
    omega
   ·simp
 ·simp
theorem ansK_ok {d : Dev} {o : OpM} {most : Int} (h : (ansK d o most).1 = 0) : errK d o = 0 := by
 by_cases he : errK d o = 0
 ·exact he
 ·rw [ansK, if_neg he] at h
  exact absurd h he
theorem err_may {d : Dev} {o : OpM} (he : errK d o = 0) : o.may = true := by
 cases hm : o.may with
 | true => rfl
 | false => rw [errK, if_pos hm] at he; cases he
/-! The walks. -/
theorem writes_any (xk xv xt xs xa xc : Int) (xD : Option Addr) (xn xq : Nat) (w : World) : Calls Tryz.prog 25 #[(Value.agg #[.int .i64 xk, .int .u64 xv, .int .u64 xt, .int .i64 xs, .int .i64 xa, .int .i64 xc, .slice xD xn xq])] w fun e w' => e = .returned (.bool (decide (xk = 5 ∨ xk = 6))) ∧ Gr w w' := by
 by_cases h5 : xk = 5
 ·subst h5
  go_enter Tryz.func25, Tryz.ntmps25
  go_wp2
  go_ret
  exact ⟨rfl, gri⟩
 by_cases h6 : xk = 6
 ·subst h6
  go_enter Tryz.func25, Tryz.ntmps25
  go_wp2
  go_ret
  exact ⟨rfl, gri⟩
 have h5' : (xk == 5) = false := by simpa using h5
 have h6' : (xk == 6) = false := by simpa using h6
 have H5 := hd_ h5
 have H6 := hd_ h6
 clear h5 h6
 go_enter Tryz.func25, Tryz.ntmps25
 go_wp2
 go_ret
 exact ⟨by rw [decide_eq_false (fun h => h.elim H5.out H6.out)]; rfl, gri⟩
theorem looks_any (xk xv xt xs xa xc : Int) (xD : Option Addr) (xn xq : Nat) (w : World) : Calls Tryz.prog 24 #[(Value.agg #[.int .i64 xk, .int .u64 xv, .int .u64 xt, .int .i64 xs, .int .i64 xa, .int .i64 xc, .slice xD xn xq])] w fun e w' => e = .returned (.bool (decide (xk = 9 ∨ xk = 8))) ∧ Gr w w' := by
 by_cases h5 : xk = 9
 ·subst h5
  go_enter Tryz.func24, Tryz.ntmps24
  go_wp2
  go_ret
  exact ⟨rfl, gri⟩
 by_cases h6 : xk = 8
 ·subst h6
  go_enter Tryz.func24, Tryz.ntmps24
  go_wp2
  go_ret
  exact ⟨rfl, gri⟩
 have h5' : (xk == 9) = false := by simpa using h5
 have h6' : (xk == 8) = false := by simpa using h6
 have H5 := hd_ h5
 have H6 := hd_ h6
 clear h5 h6
 go_enter Tryz.func24, Tryz.ntmps24
 go_wp2
 go_ret
 exact ⟨by rw [decide_eq_false (fun h => h.elim H5.out H6.out)]; rfl, gri⟩
theorem touches_5 (xv xt xs xc : Int) (a c : Nat) (xD : Option Addr) (xn xq : Nat) (hc : xn / 64 = c) (ha : a ≤ 1048576) (h1 : 1 ≤ c) (h2 : c ≤ 1048576) (w : World) : Calls Tryz.prog 26 #[.agg #[.int .i64 5, .int .u64 xv, .int .u64 xt, .int .i64 xs, .int .i64 (a : Int), .int .i64 xc, .slice xD xn xq]] w fun e w' => e = .returned (.int .i64 ((spans a c).length : Int)) ∧ Gr w w' := by
 have e : (xn : Int) / 64 = (c : Int) := by omega
 have e2 : Int.tdiv (xn : Int) 64 = (c : Int) := by rw [Int.tdiv_eq_ediv_of_nonneg (by omega)]; exact e
 have HB := hd_ (fun W => blocks_any a c ha h1 h2 W)
 clear e
 go_enter Tryz.func26, Tryz.ntmps26
 go_wp2_with ((go_at_call 60; ((with_reducible refine (HB.out _).mono ?_); rintro _ _ ⟨rfl, g, rfl⟩)))
 go_ret
 exact ⟨rfl, gri⟩
theorem touches_6 (xk xv xt xs : Int) (hk : ¬ xk = 5) (a c : Nat) (xD : Option Addr) (xn xq : Nat) (ha : a ≤ 1048576) (h1 : 1 ≤ c) (h2 : c ≤ 1048576) (w : World) : Calls Tryz.prog 26 #[.agg #[.int .i64 xk, .int .u64 xv, .int .u64 xt, .int .i64 xs, .int .i64 (a : Int), .int .i64 (c : Int), .slice xD xn xq]] w fun e w' => e = .returned (.int .i64 ((spans a c).length : Int)) ∧ Gr w w' := by
 have hk' : (xk == 5) = false := by simpa using hk
 have HB := hd_ (fun W => blocks_any a c ha h1 h2 W)
 clear hk
 go_enter Tryz.func26, Tryz.ntmps26
 go_wp2_with ((go_at_call 60; ((with_reducible refine (HB.out _).mono ?_); rintro _ _ ⟨rfl, g, rfl⟩)))
 go_ret
 exact ⟨rfl, gri⟩
theorem copy_nil (w : World) : Calls Tryz.prog 23 #[.pointer none] w fun e w' => e = .returned (.pointer none) ∧ Gr w w' := by
 go_enter Tryz.func23, Tryz.ntmps23
 go_wp2_with ((go_at_call 19; ((with_reducible refine (there_no _).mono ?_); rintro _ _ ⟨rfl, g, rfl⟩)))
 go_ret
 exact ⟨rfl, gri⟩
theorem ways_nil (xk xv xt xs xa xc : Int) (xD : Option Addr) (xn xq : Nat) (w : World) : Calls Tryz.prog 11 #[.pointer none, (Value.agg #[.int .i64 xk, .int .u64 xv, .int .u64 xt, .int .i64 xs, .int .i64 xa, .int .i64 xc, .slice xD xn xq])] w fun e w' => e = .returned (.slice none 0 0) ∧ Gr w w' := by
 go_enter Tryz.func11, Tryz.ntmps11
 go_wp2_with ((go_at_call 23; ((with_reducible refine (copy_nil _).mono ?_); rintro _ _ ⟨rfl, g, rfl⟩)))
 go_ret
 exact ⟨rfl, gri⟩
def WaysPost (d : Dev) (o : OpM) (w : World) (e : Ending) (w' : World) : Prop :=
 ∃ v xs, e = .returned v ∧ OwnN ansE w.heap.size w' v xs ∧ xs.map AnsC.m = waysK d o ∧ (∀ x ∈ xs, AnsOk w.heap.size w' x) ∧ Gr w w'
def fullA (k : Nat) : AnsC := ⟨8, (k : Int), [], none, 0, 0⟩
theorem ways_any (xk xv xt xs xa xc : Int) (xD : Option Addr) (xn xq : Nat) (hq : xn ≤ xq) (lx : Byt) (hxn : lx.length = xn) (base D : Nat) (d : Dev) (w : World) (h : DevAt base w D d) (hr : Row bv w xD lx) (hn : xn ≤ 1000000) :
  Calls Tryz.prog 11 #[.pointer (some ⟨D, 0, none⟩), (Value.agg #[.int .i64 xk, .int .u64 xv, .int .u64 xt, .int .i64 xs, .int .i64 xa, .int .i64 xc, .slice xD xn xq])] w (WaysPost d ⟨xk, xv, xt, xs, xa, xc, lx⟩ w) := by
 have HC := hd_ (fun W (g : Gr w W) => copy_any base D d W (h.gr g))
 have hok : DevOk d := by obtain ⟨M, mb, h⟩ := h; exact h.ok
 have hlen := ansK_len hok ⟨xk, xv, xt, xs, xa, xc, lx⟩ 1024
 have HDo0 := fun W b D2 (h2 : DevAt b W D2 d) (g : Gr w W) => do_any xk xv xt xs xa xc xD xn xq hq lx hxn b D2 d W h2 (by obtain ⟨M, mb, h3⟩ := h2; exact Nat.le_trans h3.bD (Nat.le_of_lt h3.blk.lt)) (hr.gr g) hn
 obtain ⟨o, ho⟩ : ∃ o : OpM, o = ⟨xk, xv, xt, xs, xa, xc, lx⟩ := ⟨_, rfl⟩
 have ek : o.k = xk := by rw [ho]
 have ea : o.a = xa := by rw [ho]
 have ec : o.c = xc := by rw [ho]
 have el : o.l.length = xn := by rw [ho]; exact hxn
 rw [← ho] at hlen HDo0 ⊢
 clear ho
 have hw0 : waysK d o = ansK d o 1024 :: if (ansK d o 1024).1 ≠ 0 ∨ o.k = 9 ∨ o.k = 8 then [] else if o.k = 5 ∨ o.k = 6 then (List.range (spans o.a.toNat (cntO o)).length).map (fun k : Nat => ((8, (k : Int), []) : AnsM)) else [(8, 0, [])] := rfl
 have hz0 : (ansK d o 1024).1 = 0 → errK d o = 0 := ansK_ok
 generalize ansK d o 1024 = z at *
 obtain ⟨code, done, data⟩ := z
 simp only at hlen HDo0 hw0 hz0
 have HDo := hd_ HDo0
 have HLN : Hid (data.length ≤ 1000000) := hd_ (by omega)
 clear HDo0 hlen h hr
 have fin : ∀ (x0 : AnsC) (W' : World) v, x0.m = (code, done, data) → (waysK d o = [(code, done, data)]) → OwnN ansE w.heap.size W' v ([] ++ [x0]) → AnsOk w.heap.size W' x0 → Gr w W' → WaysPost d o w (.returned v) W' := fun x0 W' v e1 e2 ho hx hg =>
  ⟨v, [x0], rfl, ho, by rw [e2, List.map_singleton, e1], fun x hx' => by rw [List.mem_singleton] at hx'; subst hx'; exact hx, hg⟩
 have FIN := hd_ fin
 clear fin
 by_cases hc0 : code = 0
 rotate_left
 ·have hcb : (code != 0) = true := bne_iff_ne.2 hc0
  have HW := hd_ (show waysK d o = [(code, done, data)] by rw [hw0, if_pos (.inl hc0)])
  clear hw0 hc0 hz0
  go_enter Tryz.func11, Tryz.ntmps11
  go_wp2_with (first
   | (go_at_call 23; ((with_reducible refine (HC.out _ gri).mono ?_); rintro _ W2 ⟨D2, rfl, hd2, ⟨g2, rfl⟩⟩))
   | (go_at_call 8; ((with_reducible refine (HDo.out _ _ _ (hd2.gr gri) gri).mono ?_); rintro _ W3 ⟨A3, n3, c3, rfl, ho3, hd3, hb3, hk3⟩; have bO := hk3.block (inferInstance : BlockAt _ w.heap.size #[.int .i64 xk, .int .u64 xv, .int .u64 xt, .int .i64 xs, .int .i64 xa, .int .i64 xc, .slice xD xn xq] 27); have cO0 : W3.cell? ⟨w.heap.size, 0, none⟩ = some (.int .i64 xk) := (bc 0 bO).trans rfl; have cO1 : W3.cell? ⟨w.heap.size, 1, none⟩ = some (.int .u64 xv) := (bc 1 bO).trans rfl; have cO2 : W3.cell? ⟨w.heap.size, 2, none⟩ = some (.int .u64 xt) := (bc 2 bO).trans rfl; have cO3 : W3.cell? ⟨w.heap.size, 3, none⟩ = some (.int .i64 xs) := (bc 3 bO).trans rfl; have cO4 : W3.cell? ⟨w.heap.size, 4, none⟩ = some (.int .i64 xa) := (bc 4 bO).trans rfl; have cO5 : W3.cell? ⟨w.heap.size, 5, none⟩ = some (.int .i64 xc) := (bc 5 bO).trans rfl; have cO6 : W3.cell? ⟨w.heap.size, 6, none⟩ = some (.slice xD xn xq) := (bc 6 bO).trans rfl; haveI := bO.old; have hgw3 : Gr w W3 := Gr.of ((Gr.below (gri : Gr w _)).trans (hb3.mono (by simp))); haveI := grc_of hgw3; haveI := from_of hgw3; have HA3 := hd_ (ansOk_own (code := code) (done := done) (ho3.more (base := w.heap.size) (Gr.below (gri : Gr w _)).size) HLN.out); clear ho3 hd3 hb3 hk3 hgw3 bO))
   | (at_builtin; refine wp_append_n (base := w.heap.size) (v := .slice none 0 0) (xs := []) ansIs rfl _ _ rfl rfl (OwnN.nil _ _) _ 0 [⟨code, done, data, A3, n3, c3⟩] 1 1 rfl rfl (fun _ _ => trivial) (CellsN.block _ inferInstance rfl) (by simp) past (by simp) ?_; intro v1 W1 h1; obtain ⟨g5, rfl⟩ := gr_app0 h1 rfl; have H1 := hd_ h1; clear h1))
  refine bodyPost_ret (results_tmp rfl _ _ _) rfl ?_
  exact FIN.out _ _ _ rfl HW.out (H1.out.own.gr gri) (HA3.out.gr gri) gri
 subst hc0
 have he := hz0 rfl
 have hs := may_s (err_may he)
 by_cases h98 : xk = 9 ∨ xk = 8
 ·have HW := hd_ (show waysK d o = [(0, done, data)] by rw [hw0, if_pos (.inr (by rw [ek]; exact h98))])
  have HLK := hd_ (fun W => looks_any xk xv xt xs xa xc xD xn xq W)
  rw [decide_eq_true h98] at HLK
  clear hw0 hz0 h98 he hs
  go_enter Tryz.func11, Tryz.ntmps11
  go_wp2_with (first
   | (go_at_call 23; ((with_reducible refine (HC.out _ gri).mono ?_); rintro _ W2 ⟨D2, rfl, hd2, ⟨g2, rfl⟩⟩))
   | (go_at_call 8; ((with_reducible refine (HDo.out _ _ _ (hd2.gr gri) gri).mono ?_); rintro _ W3 ⟨A3, n3, c3, rfl, ho3, hd3, hb3, hk3⟩; have bO := hk3.block (inferInstance : BlockAt _ w.heap.size #[.int .i64 xk, .int .u64 xv, .int .u64 xt, .int .i64 xs, .int .i64 xa, .int .i64 xc, .slice xD xn xq] 27); have cO0 : W3.cell? ⟨w.heap.size, 0, none⟩ = some (.int .i64 xk) := (bc 0 bO).trans rfl; have cO1 : W3.cell? ⟨w.heap.size, 1, none⟩ = some (.int .u64 xv) := (bc 1 bO).trans rfl; have cO2 : W3.cell? ⟨w.heap.size, 2, none⟩ = some (.int .u64 xt) := (bc 2 bO).trans rfl; have cO3 : W3.cell? ⟨w.heap.size, 3, none⟩ = some (.int .i64 xs) := (bc 3 bO).trans rfl; have cO4 : W3.cell? ⟨w.heap.size, 4, none⟩ = some (.int .i64 xa) := (bc 4 bO).trans rfl; have cO5 : W3.cell? ⟨w.heap.size, 5, none⟩ = some (.int .i64 xc) := (bc 5 bO).trans rfl; have cO6 : W3.cell? ⟨w.heap.size, 6, none⟩ = some (.slice xD xn xq) := (bc 6 bO).trans rfl; haveI := bO.old; have hgw3 : Gr w W3 := Gr.of ((Gr.below (gri : Gr w _)).trans (hb3.mono (by simp))); haveI := grc_of hgw3; haveI := from_of hgw3; have HA3 := hd_ (ansOk_own (code := 0) (done := done) (ho3.more (base := w.heap.size) (Gr.below (gri : Gr w _)).size) HLN.out); clear ho3 hd3 hb3 hk3 hgw3 bO))
   | (at_builtin; refine wp_append_n (base := w.heap.size) (v := .slice none 0 0) (xs := []) ansIs rfl _ _ rfl rfl (OwnN.nil _ _) _ 0 [⟨0, done, data, A3, n3, c3⟩] 1 1 rfl rfl (fun _ _ => trivial) (CellsN.block _ inferInstance rfl) (by simp) past (by simp) ?_; intro v1 W1 h1; obtain ⟨g5, rfl⟩ := gr_app0 h1 rfl; have H1 := hd_ h1; clear h1)
   | (go_at_call 24; ((with_reducible refine (HLK.out _).mono ?_); rintro _ _ ⟨rfl, g6, rfl⟩)))
  refine bodyPost_ret (results_tmp rfl _ _ _) rfl ?_
  exact FIN.out _ _ _ rfl HW.out (H1.out.own.gr gri) (HA3.out.gr gri) gri
 have HLK := hd_ (fun W => looks_any xk xv xt xs xa xc xD xn xq W)
 rw [decide_eq_false h98] at HLK
 have HWR := hd_ (fun W => writes_any xk xv xt xs xa xc xD xn xq W)
 by_cases h56 : xk = 5 ∨ xk = 6
 rotate_left
 ·have HW := hd_ (show waysK d o = [(0, done, data), (8, 0, [])] by rw [hw0, if_neg (by rw [ek]; simpa using h98), if_neg (by rw [ek]; exact h56)])
  rw [decide_eq_false h56] at HWR
  clear hw0 hz0 h98 he hs h56
  go_enter Tryz.func11, Tryz.ntmps11
  go_wp2_with (first
   | (go_at_call 23; ((with_reducible refine (HC.out _ gri).mono ?_); rintro _ W2 ⟨D2, rfl, hd2, ⟨g2, rfl⟩⟩))
   | (go_at_call 8; ((with_reducible refine (HDo.out _ _ _ (hd2.gr gri) gri).mono ?_); rintro _ W3 ⟨A3, n3, c3, rfl, ho3, hd3, hb3, hk3⟩; have bO := hk3.block (inferInstance : BlockAt _ w.heap.size #[.int .i64 xk, .int .u64 xv, .int .u64 xt, .int .i64 xs, .int .i64 xa, .int .i64 xc, .slice xD xn xq] 27); have cO0 : W3.cell? ⟨w.heap.size, 0, none⟩ = some (.int .i64 xk) := (bc 0 bO).trans rfl; have cO1 : W3.cell? ⟨w.heap.size, 1, none⟩ = some (.int .u64 xv) := (bc 1 bO).trans rfl; have cO2 : W3.cell? ⟨w.heap.size, 2, none⟩ = some (.int .u64 xt) := (bc 2 bO).trans rfl; have cO3 : W3.cell? ⟨w.heap.size, 3, none⟩ = some (.int .i64 xs) := (bc 3 bO).trans rfl; have cO4 : W3.cell? ⟨w.heap.size, 4, none⟩ = some (.int .i64 xa) := (bc 4 bO).trans rfl; have cO5 : W3.cell? ⟨w.heap.size, 5, none⟩ = some (.int .i64 xc) := (bc 5 bO).trans rfl; have cO6 : W3.cell? ⟨w.heap.size, 6, none⟩ = some (.slice xD xn xq) := (bc 6 bO).trans rfl; haveI := bO.old; have hgw3 : Gr w W3 := Gr.of ((Gr.below (gri : Gr w _)).trans (hb3.mono (by simp))); haveI := grc_of hgw3; haveI := from_of hgw3; have HA3 := hd_ (ansOk_own (code := 0) (done := done) (ho3.more (base := w.heap.size) (Gr.below (gri : Gr w _)).size) HLN.out); clear ho3 hd3 hb3 hk3 hgw3 bO))
   | (at_builtin; refine wp_append_n (base := w.heap.size) (v := .slice none 0 0) (xs := []) ansIs rfl _ _ rfl rfl (OwnN.nil _ _) _ 0 [⟨0, done, data, A3, n3, c3⟩] 1 1 rfl rfl (fun _ _ => trivial) (CellsN.block _ inferInstance rfl) (by simp) past (by simp) ?_; intro v1 W1 h1; obtain ⟨g5, rfl⟩ := gr_app0 h1 rfl; have H1 := hd_ h1; clear h1)
   | (at_builtin; refine wp_append_n (v := v1) ansIs rfl _ _ rfl rfl (H1.out.own.gr gri) _ 0 [fullA 0] 1 1 rfl rfl (fun _ _ => trivial) (CellsN.block _ inferInstance rfl) (by simp) past (by simp) ?_; intro v2 W4 h2; have H2 := hd_ h2; clear h2; haveI := H2.out.grc w (Nat.le_refl _); haveI := H2.out.from_ w)
   | (go_at_call 24; ((with_reducible refine (HLK.out _).mono ?_); rintro _ _ ⟨rfl, g6, rfl⟩))
   | (go_at_call 25; ((with_reducible refine (HWR.out _).mono ?_); rintro _ _ ⟨rfl, g7, rfl⟩)))
  refine bodyPost_ret (results_tmp rfl _ _ _) rfl ?_
  exact ⟨v2, [⟨0, done, data, A3, n3, c3⟩, fullA 0], rfl, H2.out.own.gr gri, by rw [HW.out]; rfl, fun x hx => by
   simp only [List.mem_cons, List.mem_nil_iff, or_false] at hx
   rcases hx with rfl | rfl
   ·exact ((HA3.out.gr gri).bk (BK.app H2.out (by decide))).gr gri
   ·exact ansOk_nil _ _ _ _, gri⟩
 have ha := hs.at_ (by rw [ek]; omega)
 rw [ea] at ha
 obtain ⟨a, rfl⟩ : ∃ a : Nat, xa = (a : Int) := ⟨xa.toNat, by omega⟩
 obtain ⟨c, hcn⟩ : ∃ c, cntO o = c := ⟨_, rfl⟩
 have hc1 : 1 ≤ c ∧ c ≤ 1048576 := by
  rw [← hcn, cntO, ek]
  rcases h56 with h | h
  ·have h1 := hs.dat (by rw [ek]; exact h)
   rw [if_pos h]
   omega
  ·have h1 := hs.cnt (by rw [ek]; omega)
   rw [if_neg (by omega)]
   omega
 have hT : ∀ W, Calls Tryz.prog 26 #[.agg #[.int .i64 xk, .int .u64 xv, .int .u64 xt, .int .i64 xs, .int .i64 (a : Int), .int .i64 xc, .slice xD xn xq]] W fun e w' => e = .returned (.int .i64 ((spans a c).length : Int)) ∧ Gr W w' := fun W => by
  rw [cntO, ek] at hcn
  by_cases h5 : xk = 5
  ·rw [if_pos h5, el] at hcn
   subst h5
   exact touches_5 xv xt xs xc a c xD xn xq hcn (by omega) hc1.1 hc1.2 W
  ·rw [if_neg h5, ec] at hcn
   have h6 := hs.cnt (by rw [ek]; omega)
   rw [ec] at h6
   obtain rfl : xc = (c : Int) := by omega
   exact touches_6 xk xv xt xs h5 a c xD xn xq (by omega) hc1.1 hc1.2 W
 have HT := hd_ hT
 have hN := spans_len a c
 have hw1 : waysK d o = (0, done, data) :: (List.range (spans a c).length).map (fun k : Nat => ((8, (k : Int), []) : AnsM)) := by
  rw [hw0, if_neg (by rw [ek]; simpa using h98), if_pos (by rw [ek]; exact h56), ea, hcn]
  rfl
 rw [decide_eq_true h56] at HWR
 generalize (spans a c).length = N at *
 have HW := hd_ hw1
 have HN : Hid (N ≤ 1048576) := hd_ (by omega)
 clear hw0 hw1 hz0 h98 he hs h56 hT hN hc1 hcn ha
 go_enter Tryz.func11, Tryz.ntmps11
 go_wp2_with (first
  | (go_at_call 23; ((with_reducible refine (HC.out _ gri).mono ?_); rintro _ W2 ⟨D2, rfl, hd2, ⟨g2, rfl⟩⟩))
  | (go_at_call 8; ((with_reducible refine (HDo.out _ _ _ (hd2.gr gri) gri).mono ?_); rintro _ W3 ⟨A3, n3, c3, rfl, ho3, hd3, hb3, hk3⟩; have bO := hk3.block (inferInstance : BlockAt _ w.heap.size #[.int .i64 xk, .int .u64 xv, .int .u64 xt, .int .i64 xs, .int .i64 (a : Int), .int .i64 xc, .slice xD xn xq] 27); have cO0 : W3.cell? ⟨w.heap.size, 0, none⟩ = some (.int .i64 xk) := (bc 0 bO).trans rfl; have cO1 : W3.cell? ⟨w.heap.size, 1, none⟩ = some (.int .u64 xv) := (bc 1 bO).trans rfl; have cO2 : W3.cell? ⟨w.heap.size, 2, none⟩ = some (.int .u64 xt) := (bc 2 bO).trans rfl; have cO3 : W3.cell? ⟨w.heap.size, 3, none⟩ = some (.int .i64 xs) := (bc 3 bO).trans rfl; have cO4 : W3.cell? ⟨w.heap.size, 4, none⟩ = some (.int .i64 (a : Int)) := (bc 4 bO).trans rfl; have cO5 : W3.cell? ⟨w.heap.size, 5, none⟩ = some (.int .i64 xc) := (bc 5 bO).trans rfl; have cO6 : W3.cell? ⟨w.heap.size, 6, none⟩ = some (.slice xD xn xq) := (bc 6 bO).trans rfl; haveI := bO.old; have hgw3 : Gr w W3 := Gr.of ((Gr.below (gri : Gr w _)).trans (hb3.mono (by simp))); haveI := grc_of hgw3; haveI := from_of hgw3; have HA3 := hd_ (ansOk_own (code := 0) (done := done) (ho3.more (base := w.heap.size) (Gr.below (gri : Gr w _)).size) HLN.out); clear ho3 hd3 hb3 hk3 hgw3 bO))
  | (at_builtin; refine wp_append_n (base := w.heap.size) (v := .slice none 0 0) (xs := []) ansIs rfl _ _ rfl rfl (OwnN.nil _ _) _ 0 [⟨0, done, data, A3, n3, c3⟩] 1 1 rfl rfl (fun _ _ => trivial) (CellsN.block _ inferInstance rfl) (by simp) past (by simp) ?_; intro v1 W1 h1; obtain ⟨g5, rfl⟩ := gr_app0 h1 rfl; have H1 := hd_ h1; clear h1)
  | (go_at_call 24; ((with_reducible refine (HLK.out _).mono ?_); rintro _ _ ⟨rfl, g6, rfl⟩))
  | (go_at_call 25; ((with_reducible refine (HWR.out _).mono ?_); rintro _ _ ⟨rfl, g7, rfl⟩))
  | (go_at_call 26; ((with_reducible refine (HT.out _).mono ?_); rintro _ _ ⟨rfl, g8, rfl⟩)))
 have HO1 := hd_ (show OwnN ansE w.heap.size _ v1 ([(⟨0, done, data, A3, n3, c3⟩ : AnsC)] ++ (List.range 0).map fullA) from H1.out.own)
 go_loopw [4, 31] (fun v i wr => ∃ k : Nat, k ≤ N ∧ i = .int .i64 (k : Int) ∧ OwnN ansE w.heap.size wr v ([(⟨0, done, data, A3, n3, c3⟩ : AnsC)] ++ (List.range k).map fullA) ∧ AnsOk w.heap.size wr ⟨0, done, data, A3, n3, c3⟩ ∧ Gr w wr) (fun _ i _ => N - (intOf i).toNat)
 case atStart => exact ⟨0, Nat.zero_le _, rfl, HO1.out.gr gri, HA3.out.gr gri, gri⟩
 case round =>
  obtain ⟨k, hk, rfl, ho, hx, hg⟩ := hrel
  haveI := grc_of hg
  haveI := from_of hg
  have HO := hd_ ho
  have HX := hd_ hx
  have HG := hd_ hg
  clear ho hx hg
  by_cases hlt : k < N
  ·have HLT := hd_ hlt
   have hNN := HN.out
   go_wp2_with (first | (at_builtin; refine wp_append_n ansIs rfl _ _ rfl rfl (HO.out.gr gri) _ 0 [fullA k] 1 1 rfl rfl (fun _ _ => trivial) (CellsN.block _ inferInstance rfl) (by have := HN.out; simp; omega) past (by simp) ?_; intro v2 W4 h2; have H2 := hd_ h2; clear h2))
   go_roundw
   case rel => exact ⟨k + 1, HLT.out, by go_num, by rw [List.range_succ, List.map_append, ← List.append_assoc]; exact H2.out.own, (HX.out.gr gri).bk (BK.app H2.out (by decide)), by haveI := H2.out.grc w (Nat.le_refl _); exact gri⟩
   case measure => have := HN.out; have := HLT.out; simp [intOf]; omega
  ·have : k = N := by omega
   subst this
   go_wp2
   refine bodyPost_ret (results_tmp rfl _ _ _) rfl ?_
   refine ⟨_, _, rfl, HO.out, ?_, fun x hx => ?_, HG.out⟩
   ·rw [HW.out, List.map_append, List.map_map]
    rfl
   ·rcases List.mem_append.1 hx with hx | hx
    ·rw [List.mem_singleton] at hx
     subst hx
     exact HX.out
    ·obtain ⟨k', _, rfl⟩ := List.mem_map.1 hx
     exact ansOk_nil _ _ _ _
theorem waysK_len (d : Dev) (o : OpM) : (waysK d o).length ≤ 100000 := by
 unfold waysK
 rw [List.length_cons]
 split
 ·simp
 ·rename_i h
  split
  ·rename_i h5
   rw [List.length_map, List.length_range]
   have h1 := spans_len o.a.toNat (cntO o)
   simp only [not_or, ne_eq, Classical.not_not] at h
   have hs := may_s (err_may (ansK_ok h.1))
   have h2 : cntO o ≤ 1024 := by
    unfold cntO
    split
    ·have := hs.dat (by assumption)
     omega
    ·have := hs.cnt (by omega)
     omega
   omega
  ·simp
theorem ansCells {W : World} {b p : Nat} {l : List AnsC} {k : Nat} {x : AnsC} (h : CellsN ansE W b p l) (hx : l[k]? = some x) : W.cell? ⟨b, p + k * 3, none⟩ = some (.int .i64 x.code) ∧ W.cell? ⟨b, p + k * 3 + 1, none⟩ = some (.int .i64 x.done) ∧ W.cell? ⟨b, p + k * 3 + 2, none⟩ = some (.slice x.D x.n x.q) :=
 ⟨h k x hx 0 _ rfl, h k x hx 1 _ rfl, h k x hx 2 _ rfl⟩
theorem strOf_bytes (l : List UInt8) : strOfNums (l.map fun b => ((b.toNat : Nat) : Int)) = ⟨l.toArray⟩ := by
 unfold strOfNums
 congr 2
 rw [List.map_map]
 conv => rhs; rw [← List.map_id l]
 refine List.map_congr_left (fun b _ => ?_)
 show UInt8.ofNat b.toNat = b
 simp
theorem conv_row (A : Option Addr) (n q : Nat) (l : List UInt8) (W : World) (hl : l.length = n) (hr : Row bv W A l) : (convert 25 9 (.slice A n q)).run Tryz.prog W = .ok (.string ⟨l.toArray⟩) W := by
 by_cases h0 : l = []
 ·subst h0
  obtain rfl : n = 0 := by simpa using hl.symm
  cases A with
  | none => exact run_convert_bytes_nil W 25 5 Tryz.underlying25 Tryz.underlying5 0 q 9 Tryz.underlying9
  | some a =>
   rw [run_convert_bytes_string W 25 9 5 (some a) 0 q Tryz.underlying25 Tryz.underlying5 Tryz.underlying9]
   rw [run_bytesToString W a 0 q [] (by simpa using run_loadCells_list (P := Tryz.prog) W a [] (fun j v hj => by simp at hj))]
   rfl
 ·obtain ⟨b, o, rfl, hb, hc⟩ := hr.at_ h0
  rw [run_convert_bytes_arg W 25 5 Tryz.underlying25 Tryz.underlying5 b o n q (l.map fun b => ((b.toNat : Nat) : Int)) (by simpa using hl) (fun i hi => ?_) 9 Tryz.underlying9, strOf_bytes]
  have hil : i < l.length := by omega
  rw [hc i l[i] (List.getElem?_eq_getElem hil)]
  simp [bv, List.getD, List.getElem?_map, List.getElem?_eq_getElem hil]
def sameM (x y : AnsM) : Bool := x.1 == y.1 && (x.2.1 == y.2.1 && x.2.2 == y.2.2)
theorem sameM_iff {x y : AnsM} : sameM x y = true ↔ x = y := by
 obtain ⟨a, b, c⟩ := x
 obtain ⟨d, e, f⟩ := y
 simp [sameM]
theorem rsame_any (x y : AnsC) (b1 b2 : Nat) (w : World) (hx : AnsOk b1 w x) (hy : AnsOk b2 w y) : Calls Tryz.prog 13 #[.agg #[.int .i64 x.code, .int .i64 x.done, .slice x.D x.n x.q], .agg #[.int .i64 y.code, .int .i64 y.done, .slice y.D y.n y.q]] w fun e w' => e = .returned (.bool (sameM x.m y.m)) ∧ Gr w w' := by
 have HX := hd_ (fun W (g : Gr w W) => conv_row x.D x.n x.q x.l W hx.len (hx.gr g).rowb)
 have HY := hd_ (fun W (g : Gr w W) => conv_row y.D y.n y.q y.l W hy.len (hy.gr g).rowb)
 obtain ⟨c1, d1, l1, A1, n1, q1⟩ := x
 obtain ⟨c2, d2, l2, A2, n2, q2⟩ := y
 simp only [AnsC.m, sameM] at HX HY ⊢
 clear hx hy
 cases h1 : (c1 == c2)
 ·go_enter Tryz.func13, Tryz.ntmps13
  go_wp2
  go_ret
  exact ⟨rfl, gri⟩
 cases h2 : (d1 == d2)
 ·go_enter Tryz.func13, Tryz.ntmps13
  go_wp2
  go_ret
  exact ⟨rfl, gri⟩
 obtain ⟨W5, hW5⟩ : ∃ W5, W5 = (w.alloc (.cells #[.int .i64 c1, .int .i64 d1, .slice A1 n1 q1] 38)).alloc (.cells #[.int .i64 c2, .int .i64 d2, .slice A2 n2 q2] 38) := ⟨_, rfl⟩
 have v1 := HX.out W5 (by rw [hW5]; exact gri)
 have v2 := HY.out W5 (by rw [hW5]; exact gri)
 rw [hW5] at v1 v2
 clear HX HY hW5 W5
 go_enter Tryz.func13, Tryz.ntmps13
 go_wp2
 go_ret
 exact ⟨by simp, gri⟩
def doneK (d : Dev) (o : OpM) (a : AnsM) : Dev := if a.1 = 8 then (if o.k = 5 ∨ o.k = 6 then partK d o a.2.1 else d) else doK d o
theorem done_any (xk xv xt xs xa xc : Int) (xD : Option Addr) (xn xq : Nat) (hq : xn ≤ xq) (lx : Byt) (hxn : lx.length = xn) (base D : Nat) (d : Dev) (code dn : Int) (A : Option Addr) (n q : Nat) (la : Byt) (w : World) (h : DevAt base w D d) (hr : Row bv w xD lx) (hn : xn ≤ 1000000) :
  Calls Tryz.prog 96 #[.pointer (some ⟨D, 0, none⟩), (Value.agg #[.int .i64 xk, .int .u64 xv, .int .u64 xt, .int .i64 xs, .int .i64 xa, .int .i64 xc, .slice xD xn xq]), .agg #[.int .i64 code, .int .i64 dn, .slice A n q]] w fun e w' => ∃ D2, e = .returned (.pointer (some ⟨D2, 0, none⟩)) ∧ DevAt w.heap.size w' D2 (doneK d ⟨xk, xv, xt, xs, xa, xc, lx⟩ (code, dn, la)) ∧ Gr w w' := by
 have HC := hd_ (fun W (g : Gr w W) => copy_any base D d W (h.gr g))
 have HDo := hd_ (fun W b D2 (h2 : DevAt b W D2 d) (g : Gr w W) => do_any xk xv xt xs xa xc xD xn xq hq lx hxn b D2 d W h2 (by obtain ⟨M, mb, h3⟩ := h2; exact Nat.le_trans h3.bD (Nat.le_of_lt h3.blk.lt)) (hr.gr g) hn)
 have HPa := hd_ (fun W b D2 (h2 : DevAt b W D2 d) (g : Gr w W) => part_any xk xv xt xs xa xc dn xD xn xq hq lx hxn b D2 d W h2 (by obtain ⟨M, mb, h3⟩ := h2; exact Nat.le_trans h3.bD (Nat.le_of_lt h3.blk.lt)) (hr.gr g) hn)
 have HWR := hd_ (fun W => writes_any xk xv xt xs xa xc xD xn xq W)
 have hdef : doneK d ⟨xk, xv, xt, xs, xa, xc, lx⟩ (code, dn, la) = if code = 8 then (if xk = 5 ∨ xk = 6 then partK d ⟨xk, xv, xt, xs, xa, xc, lx⟩ dn else d) else doK d ⟨xk, xv, xt, xs, xa, xc, lx⟩ := rfl
 generalize doneK d ⟨xk, xv, xt, xs, xa, xc, lx⟩ (code, dn, la) = dz at *
 clear h hr
 by_cases h8 : code = 8
 ·rw [if_pos h8] at hdef
  subst h8
  by_cases h56 : xk = 5 ∨ xk = 6
  ·rw [if_pos h56] at hdef
   rw [decide_eq_true h56] at HWR
   have HZ := hd_ hdef
   clear h56 hdef
   go_enter Tryz.func96, Tryz.ntmps96
   go_wp2_with (first
    | (go_at_call 23; ((with_reducible refine (HC.out _ gri).mono ?_); rintro _ W2 ⟨D2, rfl, hd2, ⟨g2, rfl⟩⟩))
    | (go_at_call 25; ((with_reducible refine (HWR.out _).mono ?_); rintro _ _ ⟨rfl, g3, rfl⟩))
    | (go_at_call 17; ((with_reducible refine (HPa.out _ _ _ (hd2.gr gri) gri).mono ?_); rintro _ W3 ⟨A3, n3, c3, rfl, ho3, hd3, hb3, hk3⟩; have hgw3 : Gr w W3 := Gr.of ((Gr.below (gri : Gr w _)).trans (hb3.mono (by simp; omega))); haveI := grc_of hgw3; haveI := from_of hgw3; have cA0 := hk3.cell (show (World.cell? _ ⟨w.heap.size + 1, 0, none⟩) = some (.int .i64 8) from (by go_simp)); have HD3 := hd_ hd3; haveI : Old (w.heap.size + 1) W3 := old_of_cell cA0; clear ho3 hd3 hb3 hk3)))
   go_ret
   obtain ⟨M3, mb3, hd3⟩ := HD3.out
   exact ⟨D2, rfl, by rw [HZ.out]; exact DevAt.gr ⟨M3, mb3, hd3.lower (by simp; omega)⟩ gri, gri⟩
  ·rw [if_neg h56] at hdef
   rw [decide_eq_false h56] at HWR
   have HZ := hd_ hdef
   clear h56 hdef
   go_enter Tryz.func96, Tryz.ntmps96
   go_wp2_with (first
    | (go_at_call 23; ((with_reducible refine (HC.out _ gri).mono ?_); rintro _ W2 ⟨D2, rfl, hd2, ⟨g2, rfl⟩⟩))
    | (go_at_call 25; ((with_reducible refine (HWR.out _).mono ?_); rintro _ _ ⟨rfl, g3, rfl⟩)))
   go_ret
   obtain ⟨M3, mb3, hd3⟩ := hd2
   exact ⟨D2, rfl, by rw [HZ.out]; exact DevAt.gr ⟨M3, mb3, hd3.lower (by simp; omega)⟩ gri, gri⟩
 ·rw [if_neg h8] at hdef
  have hne : (code != 8) = true := bne_iff_ne.2 h8
  have heq : (code == 8) = false := by simpa using h8
  have HZ := hd_ hdef
  clear hdef h8
  go_enter Tryz.func96, Tryz.ntmps96
  go_wp2_with (first
   | (go_at_call 23; ((with_reducible refine (HC.out _ gri).mono ?_); rintro _ W2 ⟨D2, rfl, hd2, ⟨g2, rfl⟩⟩))
   | (go_at_call 8; ((with_reducible refine (HDo.out _ _ _ (hd2.gr gri) gri).mono ?_); rintro _ W3 ⟨A3, n3, c3, rfl, ho3, hd3, hb3, hk3⟩; have hgw3 : Gr w W3 := Gr.of ((Gr.below (gri : Gr w _)).trans (hb3.mono (by simp; omega))); haveI := grc_of hgw3; haveI := from_of hgw3; have HD3 := hd_ hd3; clear ho3 hd3 hb3 hk3)))
  go_ret
  obtain ⟨M3, mb3, hd3⟩ := HD3.out
  exact ⟨D2, rfl, by rw [HZ.out]; exact DevAt.gr ⟨M3, mb3, hd3.lower (by simp; omega)⟩ gri, gri⟩
theorem bequal_any (A B : Option Addr) (n m q r : Nat) (l k : Byt) (w : World) (hl : l.length = n) (hk : k.length = m) (h1 : Row bv w A l) (h2 : Row bv w B k) : Calls Tryz.prog 98 #[.slice A n q, .slice B m r] w fun e w' => e = .returned (.bool (l == k)) ∧ Gr w w' := by
 have v1 := conv_row A n q l w hl h1
 have v2 := conv_row B m r k w hk h2
 clear h1 h2
 go_enter Tryz.func98, Tryz.ntmps98
 go_wp2
 go_ret
 exact ⟨by simp, gri⟩
theorem same_any24 (x y : AnsC) (b1 b2 : Nat) (w : World) (hx : AnsOk b1 w x) (hy : AnsOk b2 w y) : Calls Tryz.prog 67 #[.agg #[.int .i64 x.code, .int .i64 x.done, .slice x.D x.n x.q], .agg #[.int .i64 y.code, .int .i64 y.done, .slice y.D y.n y.q]] w fun e w' => e = .returned (.bool (sameM x.m y.m)) ∧ Gr w w' := by
 have HE := hd_ (fun W (g : Gr w W) => bequal_any x.D y.D x.n y.n x.q y.q x.l y.l W hx.len hy.len (hx.gr g).rowb (hy.gr g).rowb)
 obtain ⟨c1, d1, l1, A1, n1, q1⟩ := x
 obtain ⟨c2, d2, l2, A2, n2, q2⟩ := y
 simp only [AnsC.m, sameM] at HE ⊢
 clear hx hy
 cases h1 : (c1 == c2)
 ·go_enter Tryz.func67, Tryz.ntmps67
  go_wp2
  go_ret
  exact ⟨rfl, gri⟩
 cases h2 : (d1 == d2)
 ·go_enter Tryz.func67, Tryz.ntmps67
  go_wp2
  go_ret
  exact ⟨rfl, gri⟩
 go_enter Tryz.func67, Tryz.ntmps67
 go_wp2_with ((go_at_call 98; ((with_reducible refine (HE.out _ gri).mono ?_); rintro _ _ ⟨rfl, g3, rfl⟩)))
 go_ret
 exact ⟨by simp, gri⟩
theorem never_any (code dn : Int) (A : Option Addr) (n q : Nat) (w : World) (h : (code == 11 || code == 13 || code == 10) = false) : Calls Tryz.prog 31 #[.agg #[.int .i64 code, .int .i64 dn, .slice A n q]] w fun e w' => e = .returned (.bool false) ∧ Gr w w' := by
 simp only [Bool.or_eq_false_iff] at h
 obtain ⟨⟨h1, h2⟩, h3⟩ := h
 go_enter Tryz.func31, Tryz.ntmps31
 go_wp2
 go_ret
 exact ⟨rfl, gri⟩
@[go_sem] theorem eqMapA (m : Option Nat) (w : World) : (binOp .eql 77 (.map m) (.map none)).run Tryz.prog w = .ok (.bool m.isNone) w := by
 have := run_eql_map_nil (P := Tryz.prog) w 77 _ _ m Tryz.underlying77
 simpa using this
@[go_sem] theorem taMapA (m : Option Nat) (w : World) : (Instr.typeAssert (.iface 77 (.map m)) 20 77 false).run Tryz.prog w = .ok (.map m) w := by kernel_rfl
theorem cloneMapA (b : Nat) (L : List (Int × Value)) (w : World) (h : MapAt .u64 w b L) : Calls Tryz.prog 97 #[.map (some b)] w fun e w' => e = .returned (.map (some w.heap.size)) ∧ MapAt .u64 w' w.heap.size L ∧ Gr w w' := by
 obtain ⟨h1, h2⟩ := map_clone (P := Tryz.prog) h 77
 have hc := run_callFunc_extern Tryz.func90 (by kernel_rfl) (by kernel_rfl) (by kernel_rfl) (e := Extern.MapsClone.clone) (by kernel_rfl) #[.iface 77 (.map (some b))] w
 rw [h1] at hc
 simp only [Result.andThen] at hc
 have hg : Gr w (w.alloc (w.heap[b]?.getD default)) := Gr.of (below_alloc (Below.refl _ _) _)
 generalize w.alloc (w.heap[b]?.getD default) = W2 at *
 have H := hd_ h2
 have HG := hd_ hg
 clear h1 h2 hg
 go_enter Tryz.func97, Tryz.ntmps97
 go_wp2
 go_ret
 exact ⟨rfl, H.out, HG.out⟩
end Go.Proofs.YtddckdhnolmjoaaGreat
namespace Go.Proofs.YtddckdhnolmjoaaGreat
open Go.RowKit Go.MapKept
section
variable {F : Fence} {n : Nat} {P : Program} {W : World} {ops : Array Oper} {rest : List Oper} {o : Oper} {a : Act} {Q : Exit → Act → World → Prop} {q : IntKind} {b r : Nat} {L : List (Int × Value)} {left : Int → Bool} {cnt : Nat} {t kt et : TypeId}
theorem wpListIn_rangeK (hgd : o.guard = none) (m : Operand) (ho : o.op = .range t m) (ht : P.underlying t = some (.map kt et)) (hm : MapAt q W b L) (hm2 : a.eval m = .map (some b))
  (h : ∀ W' cnt, RangeAt q W' b W.heap.size L (fun _ => true) cnt → Gr W W' → wpListIn F n P ops Q rest (a.put o.dst (.pointer (some ⟨W.heap.size, 0, none⟩))) W') : wpListIn F n P ops Q (o :: rest) a W := by
 refine wpListIn_plain hgd fun K hK => ?_
 obtain ⟨W', cnt, hrun, h1, h2⟩ := range_start (P := P) ht hm
 unfold Oper.wpIn
 refine ⟨?_, ?_⟩
 ·simp [Oper.about, ho]
 ·rw [Oper.semAt_plain F _ _ (by rw [ho]; intro c hc; cases hc)]
  simp [execOp, ho, hm2, hrun, Result.andThen]
  exact hK _ _ (h W' cnt h1 h2)
theorem wpListIn_nextK (hgd : o.guard = none) (it : Operand) (ho : o.op = .next it false) (hit : a.eval it = .pointer (some ⟨r, 0, none⟩)) (h : RangeAt q W b r L left cnt)
  (hDone : cnt = 0 → (∀ p ∈ L, left p.1 = false) → wpListIn F n P ops Q rest (a.put o.dst (.tuple #[.bool false])) W)
  (hMore : ∀ (k : Int) (v : Value) (W' : World) (cnt' : Nat), (k, v) ∈ L → left k = true → RangeAt q W' b r L (fun z => left z && z != k) cnt' → cnt' < cnt → OnlyB W W' r → (Instr.entry (.pointer (some ⟨r, 0, none⟩))).run P W' = .ok (.tuple #[.int q k, v]) W' → wpListIn F n P ops Q rest (a.put o.dst (.tuple #[.bool true, .int q k, v])) W') : wpListIn F n P ops Q (o :: rest) a W := by
 refine wpListIn_plain hgd fun K hK => ?_
 unfold Oper.wpIn
 refine ⟨?_, ?_⟩
 ·simp [Oper.about, ho]
 ·rw [Oper.semAt_plain F _ _ (by rw [ho]; intro c hc; cases hc)]
  rcases h.next (P := P) o.type with ⟨h0, hl, hrun⟩ | ⟨k, v, W', cnt', h1, h2, hrun, h3, h4, h5, h6⟩
  ·simp [execOp, ho, hit, hrun, Result.andThen]
   exact hK _ _ (hDone h0 hl)
  ·simp [execOp, ho, hit, hrun, Result.andThen]
   exact hK _ _ (hMore k v W' cnt' h1 h2 h3 h4 h5 h6)
end
end Go.Proofs.YtddckdhnolmjoaaGreat
namespace Go.Proofs.YtddckdhnolmjoaaGreat
open Go.RowKit Go.Shelf Go.MapKept
attribute [local go_sem] Oper.semAt_some
theorem RangeAt.walks {q : IntKind} {W W' : World} {b r : Nat} {L : List (Int × Value)} {left : Int → Bool} {cnt : Nat} (h : RangeAt q W b r L left cnt) (k : KeepsWalks W W') : RangeAt q W' b r L left cnt := by
 obtain ⟨es, clock, since, seen, c0, hb, a1, a2, a3, a4, hr, rest⟩ := h
 exact ⟨es, clock, since, seen, c0, k.same b _ hb rfl, a1, a2, a3, a4, k.same r _ hr rfl, rest⟩
theorem RangeAt.walk {q : IntKind} {W : World} {b r : Nat} {L : List (Int × Value)} {left : Int → Bool} {cnt : Nat} (h : RangeAt q W b r L left cnt) : ∃ o : Obj, W.heap[r]? = some o ∧ o.isWalk = true := by
 obtain ⟨es, clock, since, seen, c0, hb, a1, a2, a3, a4, hr, rest⟩ := h
 exact ⟨_, hr, rfl⟩
theorem gr_grown {W W' : World} (g : Gr W W') : W.grownBy W' none := ⟨g.below.os, g.below.tape, g.below.output, g.below.size, fun k hk _ => g.below.block k hk⟩
structure Col (L : List (Int × Value)) (left : Int → Bool) (ss : List Int) : Prop where
 nd : ss.Nodup
 mem : ∀ k, k ∈ ss ↔ (∃ v, (k, v) ∈ L) ∧ left k = false
theorem Col.start (L : List (Int × Value)) : Col L (fun _ => true) [] := ⟨List.nodup_nil, fun k => by simp⟩
theorem Col.step {L : List (Int × Value)} {left : Int → Bool} {ss : List Int} (h : Col L left ss) {k : Int} {v : Value} (hk : (k, v) ∈ L) (hl : left k = true) : Col L (fun z => left z && z != k) (ss ++ [k]) where
 nd := by
  rw [List.nodup_append]
  refine ⟨h.nd, by simp, fun a ha b hb => ?_⟩
  rw [List.mem_singleton] at hb
  subst hb
  rintro rfl
  have := ((h.mem a).1 ha).2
  rw [hl] at this
  cases this
 mem := fun z => by
  rw [List.mem_append, List.mem_singleton, h.mem z]
  by_cases e : z = k
  ·subst e
   simp
   exact ⟨v, hk⟩
  ·simp [e]
theorem nodup_le : ∀ (a b : List Int), a.Nodup → (∀ x ∈ a, x ∈ b) → a.length ≤ b.length
 | [], b, _, _ => Nat.zero_le _
 | x :: a, b, hn, hs => by
  have h1 := List.nodup_cons.1 hn
  have hx := hs x mcs
  have := nodup_le a (b.erase x) h1.2 (fun y hy => (List.mem_erase_of_ne (fun e => h1.1 (by rw [← e]; exact hy))).2 (hs y (List.mem_cons_of_mem _ hy)))
  rw [List.length_erase_of_mem hx] at this
  have := List.length_pos_of_mem hx
  simp only [List.length_cons]
  omega
theorem keys_nodup {L : List (Int × Value)} (h : SortK L) : (L.map (·.1)).Nodup := by
 rw [List.nodup_iff_pairwise_ne, List.pairwise_map]
 exact h.imp fun h e => by omega
theorem Col.len {L : List (Int × Value)} {left : Int → Bool} {ss : List Int} (h : Col L left ss) : ss.length ≤ L.length := by
 have := nodup_le ss (L.map (·.1)) h.nd fun x hx => by
  obtain ⟨v, hv⟩ := ((h.mem x).1 hx).1
  exact List.mem_map.2 ⟨(x, v), hv, rfl⟩
 rwa [List.length_map] at this
theorem Col.perm {L : List (Int × Value)} {left : Int → Bool} {ss : List Int} (h : Col L left ss) (hs : SortK L) (h0 : ∀ p ∈ L, left p.1 = false) : ss.Perm (L.map (·.1)) := by
 rw [List.perm_ext_iff_of_nodup h.nd (keys_nodup hs)]
 intro k
 rw [h.mem k]
 constructor
 ·rintro ⟨⟨v, hv⟩, _⟩
  exact List.mem_map.2 ⟨(k, v), hv, rfl⟩
 ·intro hk
  obtain ⟨⟨k', v⟩, hp, rfl⟩ := List.mem_map.1 hk
  exact ⟨⟨v, hp⟩, h0 _ hp⟩
theorem keysu_stops (n : Nat) (hn : 1 ≤ n) (Bm b : Nat) (L : List (Int × Value)) (w0 : World) (h1 : BlockAt w0 Bm #[.map (some b)] 53) (hm : MapAt .u64 w0 b L) :
  SeqStopsK Fence.wide n Tryz.prog 83 #[.pointer (some ⟨Bm, 0, none⟩)] (fun k : Int => #[.int .u64 k]) KeepsWalks (fun xs => xs.Perm (L.map (·.1))) (fun _ => True) L.length w0 := fun l J Jx W hW hJ hJx hY h0 => by
 have hb1 : BlockAt W Bm #[.map (some b)] 53 := ⟨(hW.block Bm h1.lt).trans h1.eq⟩
 have hmW : MapAt .u64 W b L := hm.below hW hm.lt
 have y1 : W.cell? ⟨Bm, 0, none⟩ = some (.map (some b)) := (bc 0 hb1).trans rfl
 have hsort := hm.sort
 clear h1 hm
 refine callsIn_of_wp Tryz.func83 rfl trivial ?_ rfl
 simp only [Tryz.ntmps83, List.size_toArray, List.length_cons, List.length_nil, Nat.reduceAdd, Nat.reduceSub, Array.replicate_succ, Array.replicate_zero, List.push_toArray, List.append_toArray, List.nil_append, List.cons_append]
 gi_wp2_with (first
  | (gi_at_range; refine wpListIn_rangeK rfl _ rfl Tryz.underlying53 hmW rfl ?_; intro w1 cnt0 hrg0 hg0)
  | gi_in)
 gi_loopw [3] (fun _ wr => ∃ (left : Int → Bool) (cnt : Nat) (ss : List Int), RangeAt .u64 wr b W.heap.size L left cnt ∧ Col L left ss ∧ J ss wr)
  (fun _ wr => wr.rangeLeft b W.heap.size)
 case atStart =>
  exact ⟨_, _, [], hrg0, Col.start L, hJ [] W w1 none h0 (gr_grown hg0) (fun r e => by cases e)⟩
 case round =>
  obtain ⟨left, cnt, ss, hrg, hC, hJs⟩ := hrel
  gi_wp2_with (first
   | (gi_at_next; refine wpListIn_nextK rfl _ rfl rfl hrg ?_ ?_)
   | gi_in)
  ·intro hc0 hl0
   gi_wp2
   go_end0
   exact ⟨⟨_, rfl⟩, .inl ⟨ss, hC.perm hsort (fun p hp => hl0 p.1 p.2 hp), hJs⟩⟩
  ·intro k v w2 cnt2 hmem hleft hrg2 hlt hob hen
   have hJ2 : J ss w2 := hJ ss wr w2 (some W.heap.size) hJs hob.1 (fun r e => by cases e; exact ⟨Nat.le_refl _, hrg.walk⟩)
   have hC2 := hC.step hmem hleft
   have hlen : ss.length < L.length := by
    have := hC2.len
    simp only [List.length_append, List.length_cons, List.length_nil] at this
    omega
   obtain ⟨fn, tmps, assign, body, hy, hR⟩ := hY ss k w2 hJ2 hlen
   gi_wp2
   refine hR.mono ?_
   rintro e W3 (⟨rfl, hJ3, hk3⟩ | ⟨rfl, hJx3⟩)
   ·gi_wp2
    have hrg3 := hrg2.walks hk3
    go_roundw
    case rel => exact ⟨_, cnt2, ss ++ [k], hrg3, hC2, hJ3⟩
    case measure => rw [hrg3.left_eq, hrg.left_eq]; exact hlt
   ·gi_wp2
    refine bodyPost_ret (results_none rfl _ _ _) rfl ⟨⟨_, rfl⟩, .inr ⟨_, trivial, hJx3⟩⟩
end Go.Proofs.YtddckdhnolmjoaaGreat
namespace Go.Proofs.YtddckdhnolmjoaaGreat.A
open Go.RowKit Go.Shelf Go.MapKept
attribute [local go_sem] Oper.semAt_some
theorem keysu_stops (n : Nat) (hn : 1 ≤ n) (Bm b : Nat) (L : List (Int × Value)) (w0 : World) (h1 : BlockAt w0 Bm #[.map (some b)] 77) (hm : MapAt .u64 w0 b L) :
  SeqStopsK Fence.wide n Tryz.prog 143 #[.pointer (some ⟨Bm, 0, none⟩)] (fun k : Int => #[.int .u64 k]) KeepsWalks (fun xs => xs.Perm (L.map (·.1))) (fun _ => True) L.length w0 := fun l J Jx W hW hJ hJx hY h0 => by
 have hb1 : BlockAt W Bm #[.map (some b)] 77 := ⟨(hW.block Bm h1.lt).trans h1.eq⟩
 have hmW : MapAt .u64 W b L := hm.below hW hm.lt
 have y1 : W.cell? ⟨Bm, 0, none⟩ = some (.map (some b)) := (bc 0 hb1).trans rfl
 have hsort := hm.sort
 clear h1 hm
 refine callsIn_of_wp Tryz.func143 rfl trivial ?_ rfl
 simp only [Tryz.ntmps143, List.size_toArray, List.length_cons, List.length_nil, Nat.reduceAdd, Nat.reduceSub, Array.replicate_succ, Array.replicate_zero, List.push_toArray, List.append_toArray, List.nil_append, List.cons_append]
 gi_wp2_with (first
  | (gi_at_range; refine wpListIn_rangeK rfl _ rfl Tryz.underlying77 hmW rfl ?_; intro w1 cnt0 hrg0 hg0)
  | gi_in)
 gi_loopw [3] (fun _ wr => ∃ (left : Int → Bool) (cnt : Nat) (ss : List Int), RangeAt .u64 wr b W.heap.size L left cnt ∧ Col L left ss ∧ J ss wr)
  (fun _ wr => wr.rangeLeft b W.heap.size)
 case atStart =>
  exact ⟨_, _, [], hrg0, Col.start L, hJ [] W w1 none h0 (gr_grown hg0) (fun r e => by cases e)⟩
 case round =>
  obtain ⟨left, cnt, ss, hrg, hC, hJs⟩ := hrel
  gi_wp2_with (first
   | (gi_at_next; refine wpListIn_nextK rfl _ rfl rfl hrg ?_ ?_)
   | gi_in)
  ·intro hc0 hl0
   gi_wp2
   go_end0
   exact ⟨⟨_, rfl⟩, .inl ⟨ss, hC.perm hsort (fun p hp => hl0 p.1 p.2 hp), hJs⟩⟩
  ·intro k v w2 cnt2 hmem hleft hrg2 hlt hob hen
   have hJ2 : J ss w2 := hJ ss wr w2 (some W.heap.size) hJs hob.1 (fun r e => by cases e; exact ⟨Nat.le_refl _, hrg.walk⟩)
   have hC2 := hC.step hmem hleft
   have hlen : ss.length < L.length := by
    have := hC2.len
    simp only [List.length_append, List.length_cons, List.length_nil] at this
    omega
   obtain ⟨fn, tmps, assign, body, hy, hR⟩ := hY ss k w2 hJ2 hlen
   gi_wp2
   refine hR.mono ?_
   rintro e W3 (⟨rfl, hJ3, hk3⟩ | ⟨rfl, hJx3⟩)
   ·gi_wp2
    have hrg3 := hrg2.walks hk3
    go_roundw
    case rel => exact ⟨_, cnt2, ss ++ [k], hrg3, hC2, hJ3⟩
    case measure => rw [hrg3.left_eq, hrg.left_eq]; exact hlt
   ·gi_wp2
    refine bodyPost_ret (results_none rfl _ _ _) rfl ⟨⟨_, rfl⟩, .inr ⟨_, trivial, hJx3⟩⟩
end Go.Proofs.YtddckdhnolmjoaaGreat.A
