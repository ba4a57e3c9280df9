/- A region that draws its order, one of whose operations may turn what is old, and waits, through others, for all that is calm. Conditions: none. The reference's device: Part of read. Conditions: as XRDo0. The reference's device: Do, whatever the operation; Device: all operations. Conditions: the operations stand in memory. Device.Do. Conditions: as Device.Part. Operations in memory; the reference's Device; made. Conditions: the operations stand in memory. What delta makes of blocks, and a zero block built. Conditions: none. The reference of layer 29: one (an operation that makes a block as it is there). Conditions: a block of 256 bytes. -/
import Derived.Test.YtipeblmgochdfaaGreatS09
import Derived.Test.YtipeblmgochdfaaGreatS10
import Derived.Test.YtipeblmgochdfaaGreatS03
import Derived.LoopTactic
import Derived.Test.YtipeblmgochdfaaGreatS11
import Derived.Test.YtipeblmgochdfaaGreatS07
namespace Go.Proofs.YtipeblmgochdfaaGreat
open Go.RowKit
set_option linter.unusedVariables false
set_option linter.unusedSimpArgs false
set_option linter.unnecessarySimpa false
def waitsK (md : Region.Mode) (ops : Array Oper) : Nat → Nat → Nat → Bool
 | 0, _, _ => false
 | f + 1, n, i => waitsB md ops n i || (List.range ops.size).any fun p => waitsB md ops n p && waitsK md ops f p i
def Closed (md : Region.Mode) (ops : Array Oper) (listed : Array Bool) : Prop := ∀ (k : Nat) (o : Oper), ops[k]? = some o → listed.getD k false = true → ∀ e ∈ o.after, Region.binds md e = true → listed.getD e.on false = true
section
variable {P : Program} {md : Region.Mode} {ops : Array Oper} {W : World}
theorem closed_waits {listed : Array Bool} (hc : Closed md ops listed) : ∀ (f n i : Nat) (o : Oper), ops[n]? = some o → (∀ e ∈ o.after, Region.binds md e = true → listed.getD e.on false = true) → waitsK md ops f n i = true → listed.getD i false = true
 | 0, n, i, o, ho, hp, h => by cases h
 | f + 1, n, i, o, ho, hp, h => by
  have hw : ∀ p, waitsB md ops n p = true → listed.getD p false = true := fun p hb => by
   unfold waitsB at hb
   rw [ho] at hb
   obtain ⟨e, he, hb⟩ := Array.any_eq_true'.1 hb
   simp only [Bool.and_eq_true, beq_iff_eq] at hb
   rw [← hb.2]
   exact hp e he hb.1
  unfold waitsK at h
  rw [Bool.or_eq_true] at h
  rcases h with h | h
  ·exact hw i h
  ·obtain ⟨p, hpr, h⟩ := List.any_eq_true.1 h
   simp only [Bool.and_eq_true] at h
   have hlp := hw p h.1
   have hps : p < ops.size := List.mem_range.1 hpr
   exact closed_waits hc f p i ops[p] (Array.getElem?_eq_getElem hps) (fun e he hb => hc p ops[p] (Array.getElem?_eq_getElem hps) hlp e he hb) h.2
theorem closed_set {listed : Array Bool} (hc : Closed md ops listed) {j : Nat} {oj : Oper} (hoj : ops[j]? = some oj) (hp : ∀ e ∈ oj.after, Region.binds md e = true → listed.getD e.on false = true) (hj : j < listed.size) : Closed md ops (listed.setIfInBounds j true) := by
 have hmono : ∀ p, listed.getD p false = true → (listed.setIfInBounds j true).getD p false = true := fun p h => by
  by_cases hpj : j = p
  ·subst hpj
   simp [Array.getD, hj]
  ·rw [getD_set_ne false hpj]; exact h
 intro k o ho hk e he hb
 by_cases hkj : j = k
 ·subst hkj
  rw [hoj] at ho
  cases ho
  exact hmono _ (hp e he hb)
 ·rw [getD_set_ne false hkj] at hk
  exact hmono _ (hc k o ho hk e he hb)
theorem feG_firstT {n i fu : Nat} {oi : Oper} {v : Value} {L : StG W → Act → Prop} (hi : ops[i]? = some oi) (hsel : ∀ (j : Nat) (o : Oper) cs b, ops[j]? = some o → o.op ≠ .select cs b) (hw : waitsK md ops fu n i = true) :
  ∀ (f : Nat) (listed : Array Bool) (s : StG W) (a : Act), s.c = true → Closed md ops listed →
   (∀ j oj, ops[j]? = some oj → j ≠ i → listed.getD j true = false → (∀ e ∈ oj.after, Region.binds md e = true → e.on ≠ i) → oi.apart ops oj = true) →
   i ∈ Region.ready md ops listed → CalmOp P ops W oi v a →
   feG P md ops W n L f (listed.setIfInBounds i true) s (a.put oi.dst v) → feG P md ops W n L (f + 1) listed s a := by
 intro f
 induction f with
 | zero =>
  intro listed s a hsc hcl _ hr hy H
  refine ⟨(fun h => by rw [h] at hr; cases hr), fun j hj => ?_⟩
  by_cases hji : j = i
  ·subst hji; exact .inl ⟨hsc, oi, hi, v, hy, H⟩
  ·have := ready_mono hj hji
   rw [H.1] at this
   cases this
 | succ f ih =>
  intro listed s a hsc hcl hfree hr hy H
  have hun := (mem_ready.1 hr).1
  refine ⟨(fun h => by rw [h] at hr; cases hr), fun j hj => ?_⟩
  by_cases hji : j = i
  ·subst hji; exact .inl ⟨hsc, oi, hi, v, hy, H⟩
  have h1 := H.2 j (ready_mono hj hji)
  obtain ⟨hjun, oj, hoj, hall⟩ := mem_ready.1 hj
  have hnot : ∀ e ∈ oj.after, Region.binds md e = true → e.on ≠ i := fun e he hb heq => by
   have h1 := hall e he hb
   rw [heq, getD_both hun] at h1
   cases h1
  have hjn : j ≠ n := by
   rintro rfl
   have := closed_waits hcl fu j i oj hoj hall hw
   rw [getD_both hun] at this
   cases this
  have hjs : j < listed.size := by
   rcases Nat.lt_or_ge j listed.size with h | h
   ·exact h
   ·simp [Array.getD, Nat.not_lt.2 h] at hjun
  have h2 := feOpG_put hoj hjn (hfree j oj hoj hji hjun hnot) (fun cs b => hsel i oi cs b hi) (fun cs b => hsel j oj cs b hoj) hsc hy h1
  have hfree' : ∀ k ok, ops[k]? = some ok → k ≠ i → (listed.setIfInBounds j true).getD k true = false →
    (∀ e ∈ ok.after, Region.binds md e = true → e.on ≠ i) → oi.apart ops ok = true := fun k ok hk hki hu hno => by
   refine hfree k ok hk hki ?_ hno
   by_cases hjk : j = k
   ·subst hjk; exact hjun
   ·rw [getD_set_ne true hjk] at hu; exact hu
  refine feOpG_mono (fun s' a' h3 => ih (listed.setIfInBounds j true) s' a' h3.1 (closed_set hcl hoj hall hjs) hfree' (ready_mono hr (Ne.symm hji)) h3.2.1 ?_) h2
  rw [Array.setIfInBounds_comm _ _ hji]
  exact h3.2.2
end
section
variable {P : Program} {md : Region.Mode} {W : World} {l : List Oper} {L : StG W → Act → Prop}
theorem feG_lexT {n fu : Nat} (hsel : Region.noSelect l.toArray = true) (m : Nat) :
  ∀ (qs : List Nat) (listed : Array Bool) (s : StG W) (a : Act), s.c = true → Closed md l.toArray listed → qs.all (waitsK md l.toArray fu n) = true → freeAll md l.toArray qs listed = true → wpCalm P l.toArray W (fun a' => feG P md l.toArray W n L m (listAll qs listed) s a') (pick l qs) a →
   feG P md l.toArray W n L (qs.length + m) listed s a
 | [], listed, s, a, _, _, _, hB, h => by
  rw [List.length_nil, Nat.zero_add]
  exact h
 | k :: r, listed, s, a, hsc, hcl, hq, hB, h => by
  simp only [freeAll, Bool.and_eq_true] at hB
  obtain ⟨⟨hr, hf⟩, hB'⟩ := hB
  simp only [List.all_cons, Bool.and_eq_true] at hq
  have hr' : k ∈ Region.ready md l.toArray listed := by simpa using hr
  obtain ⟨hun, o, ho, hall⟩ := mem_ready.1 hr'
  have ho' : l[k]? = some o := by simpa using ho
  have hks : k < listed.size := by
   rcases Nat.lt_or_ge k listed.size with h | h
   ·exact h
   ·simp [Array.getD, Nat.not_lt.2 h] at hun
  have hcl' := closed_set hcl ho hall hks
  rw [pick_cons ho'] at h
  rw [show (k :: r).length + m = (r.length + m) + 1 by simp; omega]
  unfold wpCalm at h
  by_cases hw : Region.wanted o (yielded l.toArray a.tmps) = true
  ·simp only [hw, if_true] at h
   obtain ⟨v, hv, hk⟩ := h
   exact feG_firstT ho (Region.noSelect_spec hsel) hq.1 _ listed s a hsc hcl (Region.free_spec ho hf) hr' (.inl ⟨hw, hv⟩) (feG_lexT hsel m r _ _ _ hsc hcl' hq.2 hB' hk)
  ·simp only [hw] at h
   exact feG_firstT ho (Region.noSelect_spec hsel) hq.1 _ listed s a hsc hcl (Region.free_spec ho hf) hr' (.inr ⟨by simpa using hw, rfl⟩) (feG_lexT hsel m r _ _ _ hsc hcl' hq.2 hB' h)
def treeHB (md : Region.Mode) (ops : Array Oper) (qs : List Nat) (m n : Nat) : Bool :=
 Region.noSelect ops && decide (qs.length + m = ops.size) && qs.all (waitsK md ops 6 n) && freeAll md ops qs (Array.replicate ops.size false)
theorem wp_region_treeH {id : Nat} {Q : Exit → Act → World → Prop} {a : Act} {w : World} (s : StG W) (hsc : s.c = true) (hw : s.e w.drew) (qs : List Nat) (m n : Nat) (hm : P.follows .mixedOrders = true) (hB : treeHB .any l.toArray qs m n = true)
  (h : wpCalm P l.toArray W (fun a' => feG P .any l.toArray W n (fun s a3 => ∀ w', s.e w' → Q .normal a3 w') m (listAll qs (Array.replicate l.toArray.size false)) s a') (pick l qs) a) : (Code.region id l.toArray true).wp P Q a w := by
 simp only [treeHB, Bool.and_eq_true, decide_eq_true_eq] at hB
 obtain ⟨⟨⟨hsel, hlen⟩, hq⟩, hfree⟩ := hB
 have hcl : Closed .any l.toArray (Array.replicate l.toArray.size false) := fun k o ho hk => by
  rw [getD_replicate_false] at hk
  cases hk
 have H := feG_lexT (md := .any) (P := P) (W := W) hsel m qs _ s a hsc hcl hq hfree h
 refine wp_region_any hm ?_
 have := feG_any (Q' := Q) (fun s a' w' hw' (hL : ∀ w', s.e w' → Q .normal a' w') => hL w' hw') _ _ _ _ _ hw H
 rw [hlen] at this
 exact this
end
set_option maxRecDepth 100000
set_option maxHeartbeats 4000000
theorem own_heap2 {α : Type} {e : EK α} {base : Nat} {W : World} {g n c : Nat} {xs : List α} (h : OwnN e base W (.slice (some ⟨g, 0, none⟩) n c) xs) : ∃ cs, W.heap[g]? = some (.cells cs e.E (0, 0)) := by
 rcases h.own.2 with ⟨e2, _⟩ | ⟨b, cap, cur, e2, _, hh, _⟩
 ·cases e2
 ·cases e2
  exact ⟨_, hh⟩
theorem rpart_9 (xv xt xs xa xc most : Int) (xD : Option Addr) (xn xq : Nat) (lx : Byt) (hxn : lx.length = xn) (base R : Nat) (d : Dev) (w : World) (h : RefAt base w R d) (hbase : base ≤ w.heap.size) (hl : d.length ≤ 1000000) (hn : xn ≤ 1000000) (v0 : 0 ≤ xv) (t0 : 0 ≤ xt) (he : errK d ⟨9, xv, xt, xs, xa, xc, lx⟩ = 0) (q0 : 1 ≤ xc) (q1 : xc ≤ 1024) (x : VolM) (hx : getK d xv = some x) (a0 : 0 ≤ xa) (a1 : xa ≤ 1048576) (hmost : 1024 ≤ most) (hfit : ¬ 4 * x.1 < xa + xc) :
  Calls Tryz.prog 98 #[.pointer (some ⟨R, 0, none⟩), .agg #[.int .i64 9, .int .u64 xv, .int .u64 xt, .int .i64 xs, .int .i64 xa, .int .i64 xc, .slice xD xn xq], .int .i64 most] w (RPost base R d 0 0 ((spans xa.toNat xc.toNat).flatMap fun s => cutK (blkM x.2 s.b) s) w) := by
 have HR := Lib.hid (fun W (g : Gr w W) => rrefused_any 9 xv xt xs xa xc xD xn xq lx hxn base R d W (h.gr g) hl hn v0 t0)
 have HF := Lib.hid (fun W (g : Gr w W) => rfind_any base R d xv W (h.gr g) hl)
 rw [he] at HR
 obtain ⟨v, vf, hI⟩ := h
 have HI := Lib.hid hI
 have HB := fun W (g : Gr w W) => Nat.le_trans hbase g.below.size
 have hok := hI.ok.vols _ ((getK_mem hI.ok.sort).1 hx)
 have hx0 := hok.s0
 have hx1 := hok.s1
 simp only at hx0 hx1
 have HOK := Lib.hid hok
 clear hok
 obtain ⟨an, rfl⟩ : ∃ n : Nat, xa = n := ⟨xa.toNat, by omega⟩
 rw [Int.toNat_natCast]
 obtain ⟨C, rfl⟩ : ∃ n : Nat, xc = n := ⟨xc.toNat, by omega⟩
 rw [Int.toNat_natCast]
 have HC1 : 1 ≤ C := by omega
 have HC2 : C ≤ 1024 := by omega
 have HSp := Lib.hid (fun W => rsplit_any an C (by omega) (by omega) (by omega) W)
 have HLNE := Lib.hid (spans_ne an C HC1)
 have hsl1 := spans_len an C
 have hall := fun s hs => (spans_all s hs : s.f < s.t ∧ s.t ≤ 4 ∧ an ≤ 4 * s.b + s.f ∧ 4 * s.b + s.t ≤ an + C)
 obtain ⟨L, hL⟩ : ∃ L, L = spans an C := ⟨_, rfl⟩
 rw [← hL] at HSp HLNE hsl1 hall ⊢
 have HALL := Lib.hid hall
 obtain ⟨F, hF⟩ : ∃ F : Spn → Byt, F = fun s => cutK (blkM x.2 s.b) s := ⟨_, rfl⟩
 rw [← hF]
 clear hL hall
 obtain ⟨i, hi, hdi, hil⟩ := idx_get hx
 rw [hi] at HF
 obtain ⟨g, c, rfl, hbg, hgl, hne, hc1, hc2, hty, hcl⟩ := hI.form (by rintro rfl; simp at hil)
 obtain ⟨c0, c1, c2⟩ := hcl i _ hdi
 simp only at c0 c1 c2
 rw [Nat.add_zero] at c0
 have x0 : w.cell? ⟨R, 0, none⟩ = some (.slice (some ⟨g, 0, none⟩) d.length c) := (@block_cells _ _ 0 _ _ hI.blk).trans rfl
 haveI := hI.blk
 haveI : Old R w := hI.blk.old
 haveI : Old g w := ⟨hgl⟩
 have HDI := Lib.hid hdi
 have HX := Lib.hid hx
 have HV := Lib.hid (hI.vol _ (List.mem_of_getElem? hdi))
 obtain ⟨N, hN⟩ : ∃ N, N = d.length := ⟨_, rfl⟩
 rw [← hN] at x0 hil hc1
 rw [← hN] at HI
 have HN := Lib.hid hN
 have HL := Lib.hid hl
 clear hcl hdi hi hI he hx hN hl
 have hN9 : N ≤ 1000000 := by have := HL.out; have := HN.out; omega
 go_enter Tryz.func98, Tryz.ntmps98
 go_wp2_with (first | (go_at_call 123; ((with_reducible refine (HR.out _ gri).mono ?_); rintro _ _ ⟨rfl, g1, rfl⟩)) | (go_at_call 24; ((with_reducible refine (HF.out _ gri).mono ?_); rintro _ _ ⟨rfl, g2, rfl⟩)) | (go_at_call 126; ((with_reducible refine (HSp.out _).mono ?_); rintro _ _ ⟨vS, rfl, hoS, ⟨gq, rfl⟩⟩; obtain ⟨gS, cS, rfl, hbS, hgS, hcS, hcmS, hclS, hzS⟩ := hoS.cells spIs HLNE.out; obtain ⟨curS, hhS⟩ := own_heap2 hoS)))
 obtain ⟨A0, hA0⟩ : ∃ A0, A0 = (grown _ g1).heap.size := ⟨_, rfl⟩
 have hA1 : w.heap.size + 1 < A0 := by
  rw [hA0]
  exact (inferInstance : Old (w.heap.size + 1) (grown _ g1)).lt
 obtain ⟨W5, hW5⟩ : ∃ W5, W5 = grown _ gq := ⟨_, rfl⟩
 have b8 : BlockAt W5 A0 #[.int .i64 0, .int .i64 0, .slice none 0 0] 97 := by
  rw [hW5, hA0]
  infer_instance
 have b6 : BlockAt W5 (w.heap.size + 1) #[.int .i64 0, .int .i64 0, .slice none 0 0] 97 := by
  rw [hW5]
  infer_instance
 have b4 : BlockAt W5 w.heap.size #[.int .i64 9, .int .u64 xv, .int .u64 xt, .int .i64 xs, .int .i64 (an : Int), .int .i64 (C : Int), .slice xD xn xq] 43 := by
  rw [hW5]
  infer_instance
 have g5 : Gr w W5 := by
  rw [hW5]
  exact gri
 rw [← hW5] at hgS hclS hhS
 rw [← hW5]
 try rw [← hA0]
 clear hW5 hA0 hoS hzS
 haveI := grc_of g5
 haveI := from_of g5
 have HS5 := Lib.hid (show CellsN spE W5 gS 0 L from hclS)
 have HH5 := Lib.hid hhS
 have HG5 := Lib.hid g5
 have HB8 := Lib.hid b8
 have HB6 := Lib.hid b6
 have HB4 := Lib.hid b4
 have hLn : L.length ≤ 1024 := by omega
 have hFl : ∀ s, (F s).length ≤ 256 := fun s => by
  rw [hF]
  simp only [cutK, List.length_take, List.length_drop, blkM_len HOK.out.sort HOK.out.len]
  omega
 have hDl : ∀ l : List Spn, (l.flatMap F).length ≤ 256 * l.length := fun l => by
  induction l with
  | nil => simp
  | cons s r ih => rw [List.flatMap_cons, List.length_append, List.length_cons]; have := hFl s; omega
 have HFe := Lib.hid hF
 have HDl := Lib.hid hDl
 clear hclS hhS hbS hcmS b8 b6 b4 hF hFl hDl
 go_loopw [16] (fun i9 wr => ∃ (k : Nat) (vA : Option Addr) (vn vc : Nat), k ≤ L.length ∧ i9 = .int .i64 (k : Int) ∧ OwnN bE w.heap.size wr (.slice vA vn vc) ((L.take k).flatMap F) ∧ BlockAt wr A0 #[.int .i64 0, .int .i64 0, .slice vA vn vc] 97 ∧ BlockAt wr (w.heap.size + 1) #[.int .i64 0, .int .i64 0, .slice none 0 0] 97 ∧ BlockAt wr w.heap.size #[.int .i64 9, .int .u64 xv, .int .u64 xt, .int .i64 xs, .int .i64 (an : Int), .int .i64 (C : Int), .slice xD xn xq] 43 ∧ wr.heap[gS]? = W5.heap[gS]? ∧ Gr w wr) (fun i9 _ => L.length - (intOf i9).toNat)
 case atStart => exact ⟨0, none, 0, 0, Nat.zero_le _, rfl, by rw [List.take_zero]; exact OwnN.nil _ _, HB8.out, HB6.out, HB4.out, rfl, HG5.out⟩
 case round =>
  obtain ⟨k, vA, vn, vc, hk, rfl, hown, k8, k6, k4, hgS9, hgw⟩ := hrel
  have hRk := HI.out.gr hgw
  have y0 : wr.cell? ⟨R, 0, none⟩ = some (.slice (some ⟨g, 0, none⟩) N c) := (@block_cells _ _ 0 _ _ hRk.blk).trans rfl
  haveI : Old R wr := hRk.blk.old
  haveI := k8
  haveI := k6
  haveI := k4
  haveI := k8.old
  haveI := k6.old
  haveI := k4.old
  haveI := grc_of hgw
  haveI := from_of hgw
  have p2 : wr.cell? ⟨A0, 2, none⟩ = some (.slice vA vn vc) := (@block_cells _ _ 2 _ _ k8).trans rfl
  have hvn : vn = ((L.take k).flatMap F).length := by
   rcases hown.own.2 with ⟨e, h0⟩ | ⟨b, cap, cur, e, _⟩
   ·simp only [Value.slice.injEq] at e; rw [e.2.1]; exact h0.symm
   ·simp only [Value.slice.injEq] at e; exact e.2.1
  have hDk : ((L.take k).flatMap F).length ≤ 262144 := by
   have h1 := HDl.out (L.take k)
   have h2 : (L.take k).length ≤ 1024 := by simp; omega
   omega
  by_cases hlt : k < L.length
  ·obtain ⟨⟨sb, sf, st⟩, hs⟩ : ∃ s, L[k]? = some s := ⟨_, List.getElem?_eq_getElem hlt⟩
   have hsa := HALL.out _ (List.mem_of_getElem? hs)
   simp only at hsa
   obtain ⟨hsf, hst, hslo, hshi⟩ := hsa
   have hcl9 : CellsN spE wr gS 0 L := fun j x hj i u hu => by
    rw [← HS5.out j x hj i u hu]
    simp [World.cell?, hgS9]
   have s0 : wr.cell? ⟨gS, k * 3, none⟩ = some (.int .i64 (sb : Int)) := by have := hcl9 k _ hs 0 _ rfl; rwa [Nat.zero_add] at this
   have s1 : wr.cell? ⟨gS, k * 3 + 1, none⟩ = some (.int .i64 (sf : Int)) := by have := hcl9 k _ hs 1 _ rfl; rwa [Nat.zero_add] at this
   have s2 : wr.cell? ⟨gS, k * 3 + 2, none⟩ = some (.int .i64 (st : Int)) := by have := hcl9 k _ hs 2 _ rfl; rwa [Nat.zero_add] at this
   haveI : Old gS wr := old_of_cell s0
   obtain ⟨m, hme⟩ : ∃ m, m = x.2 := ⟨_, rfl⟩
   have cM : wr.cell? ⟨g, i * 3 + 2, none⟩ = some (vf xv) := (hgw.below.cell (p := ⟨g, i * 3 + 2, none⟩) hgl).trans c2
   haveI : Old g wr := old_of_cell cM
   have hBM := HV.out.gr hgw
   rw [← hme] at hBM
   have HG := Lib.hid (fun W (hW : Gr wr W) => rget_any g (i * 3) (vf xv) m (sb : Int) W ((hW.below.cell (p := ⟨g, i * 3 + 2, none⟩) (old_of_cell cM).lt).trans cM) (hBM.gr hW))
   have hY : ((getK m (sb : Int)).getD zB).length = 256 := by rw [hme]; exact blkM_len HOK.out.sort HOK.out.len sb
   have HYe : Hid (F ⟨sb, sf, st⟩ = cutK ((getK m (sb : Int)).getD zB) ⟨sb, sf, st⟩) := Lib.hid (by rw [HFe.out, hme]; rfl)
   obtain ⟨Y, hYY⟩ : ∃ Y, Y = (getK m (sb : Int)).getD zB := ⟨_, rfl⟩
   rw [← hYY] at HG hY HYe
   obtain ⟨yi, hyi⟩ : ∃ yi, yi = (getK m (sb : Int)).isSome := ⟨_, rfl⟩
   rw [← hyi] at HG
   haveI := bkC_row hY
   have HYL := Lib.hid hY
   have HO := Lib.hid hown
   have HGS := Lib.hid hgS9
   have HGW := Lib.hid hgw
   have HS := Lib.hid hs
   have HVN := Lib.hid hvn
   have HDK := Lib.hid hDk
   clear hcl9 hme hBM hRk hYY hyi hY hs cM hown hgS9 hgw hvn hDk
   go_wp2
   refine wp_region_tree (mixw_ghost _) [] (mixw_nil _) [0, 1, 2, 3, 4, 5, 6, 7, 8, 9, 10, 11, 12, 13, 14] 3 (by kernel_rfl) (by kernel_rfl) ?_
   simp only [pick, List.drop, List.take, List.nil_append, List.cons_append]
   repeat (refine wpCalm_step (fun K hK => ?_); go_simp; first | (refine hK _ ?_; clear hK K) | (apply Exists.intro; refine ⟨fun _ => ?_, hK _ ?_⟩; ((go_at_call 55; exact HG.out _ gri)); clear hK K))
   refine wpCalm_nil ?_
   refine fe_mixAllocD 15 (by kernel_rfl) rfl rfl rfl rfl Tryz.zeroValue88 fun B1 hB1 nB1 => ?_
   simp only [Act.put, List.setIfInBounds_toArray, List.set]
   refine fe_mixStoreN 16 [(B1, bkC Y, 88)] (bkC Y) (by kernel_rfl) rfl rfl rfl rfl rfl List.mem_cons_self hB1 rfl (by rw [bkC_size, HYL.out]; exact infoBlk) (by rw [bkC_size, HYL.out]; kernel_rfl) (List.all_eq_true.2 (bkC_one Y)) (fun z hz => .inl (by simpa using hz)) ?_
   refine fe_mixCalmD 17 (.bool yi) (by kernel_rfl) rfl rfl rfl (fun g => by unfold calmAt; go_simp) ?_
   simp only [Act.put, List.setIfInBounds_toArray, List.set]
   refine fe_end (by kernel_rfl) ?_
   intro w1 hw1
   have bB : BlockAt w1 B1 (bkC Y) 88 := ⟨hw1.2 _ List.mem_cons_self⟩
   have g27 : Gr wr w1 := hw1.1
   clear hw1 nB1
   obtain ⟨gk, rfl⟩ := g27
   haveI := bB
   try simp only [Act.put, List.setIfInBounds_toArray, List.set]
   go_wp2
   refine wp_region_treeH ⟨fun w' => Gr (grown wr gk) w', true, fun _ _ h => h, fun _ _ _ h g => h.trans g⟩ rfl (Gr.of ((Below.refl _ _).drew)) [0, 1, 2, 3, 4, 5, 6] 4 8 (by kernel_rfl) (by kernel_rfl) ?_
   simp only [pick, List.drop, List.take, List.nil_append, List.cons_append]
   repeat (refine wpCalm_step (fun K hK => ?_); go_simp; first | (refine hK _ ?_; clear hK K) | (apply Exists.intro; refine ⟨fun _ => ?_, hK _ ?_⟩; (skip); clear hK K))
   refine wpCalm_load rfl rfl rfl bB Tryz.underlying88 rfl (by rw [bkC_size, HYL.out]; exact infoBlk) ?_
   simp only [Act.put, List.setIfInBounds_toArray, List.set]
   repeat (refine wpCalm_step (fun K hK => ?_); go_simp; first | (refine hK _ ?_; clear hK K) | (apply Exists.intro; refine ⟨fun _ => ?_, hK _ ?_⟩; (skip); clear hK K))
   refine wpCalm_nil ?_
   refine fg_one 7 (by kernel_rfl) ?_
   refine fg_effD rfl rfl rfl (fun w1 hw1 => effAt_call' 130 #[.agg (bkC Y), .agg #[.int .i64 (sb : Int), .int .i64 (sf : Int), .int .i64 (st : Int)]] (by go_simp) ((rcut_any Y sb sf st HYL.out hsf hst w1).mono fun e w2 hc => ?_))
   obtain ⟨v1, rfl, ho1, hg1⟩ := hc
   obtain ⟨A1, c1', rfl, hl1, hm1, hr1⟩ := ho1.form bIs
   have hnn : A1 = none → c1' = 0 := fun e => by
    subst e
    rcases ho1.own.2 with ⟨e, _⟩ | ⟨b, cap, cur, e, _⟩
    ·simp only [Value.slice.injEq] at e; exact e.2.2
    ·simp only [Value.slice.injEq] at e; cases e.1
   obtain ⟨Z, hZ⟩ : ∃ Z, Z = cutK Y ⟨sb, sf, st⟩ := ⟨_, rfl⟩
   rw [← hZ] at hr1 ⊢
   refine ⟨_, rfl, ⟨fun w2 => Gr (grown wr gk) w2 ∧ RowN bE w2 A1 Z, true, fun _ _ h => h.1, fun _ _ _ h g => ⟨h.1.trans g, h.2.gr g⟩⟩, ⟨Gr.trans hw1 hg1, hr1⟩, fun _ _ => rfl, ?_⟩
   have HZ := Lib.hid hZ
   have hZl : Z.length ≤ 256 := by rw [hZ, cutK]; have := HYL.out; simp; omega
   have HZl := Lib.hid hZl
   obtain ⟨zn, hzn⟩ : ∃ zn, zn = Z.length := ⟨_, rfl⟩
   rw [← hzn]
   have HZN := Lib.hid hzn
   have HNN := Lib.hid hnn
   clear ho1 hg1 hw1 hr1 hl1 hm1 w2 w1 hZ hZl hzn hnn
   simp only [Act.put, List.setIfInBounds_toArray, List.set]
   refine fg_one 8 (by kernel_rfl) ?_
   refine fg_effD rfl rfl rfl (fun w1 hw1 => effAt_append_x bIs _ _ rfl rfl (HO.out.gr (Gr.trans gri hw1.1)) A1 Z zn c1' HZN.out.symm rfl HNN.out hw1.2 (by have := HDK.out; have := HZl.out; omega) (Nat.le_trans HGW.out.below.size (Gr.below (Gr.trans (gri : Gr wr (grown wr gk)) hw1.1)).size) ?_)
   intro v2 W2 h2
   have ho2 := h2.own
   obtain ⟨A2, c2', rfl, -, -, -⟩ := ho2.form bIs
   obtain ⟨n2, hn2⟩ : ∃ n2, n2 = ((L.take k).flatMap F ++ Z).length := ⟨_, rfl⟩
   rw [← hn2] at ho2 ⊢
   have gw1 : Gr wr w1 := Gr.trans gri hw1.1
   refine ⟨⟨fun w2 => OwnN bE w.heap.size w2 (.slice A2 n2 c2') ((L.take k).flatMap F ++ Z) ∧ BlockAt w2 A0 #[.int .i64 0, .int .i64 0, .slice vA vn vc] 97 ∧ BlockAt w2 (w.heap.size + 1) #[.int .i64 0, .int .i64 0, .slice none 0 0] 97 ∧ BlockAt w2 w.heap.size #[.int .i64 9, .int .u64 xv, .int .u64 xt, .int .i64 xs, .int .i64 (an : Int), .int .i64 (C : Int), .slice xD xn xq] 43 ∧ w2.heap[gS]? = W5.heap[gS]? ∧ Gr w w2, false, fun e => Bool.noConfusion e, fun e => Bool.noConfusion e⟩, ⟨ho2, h2.keep _ _ _ (k8.gr gw1) (by decide), h2.keep _ _ _ (k6.gr gw1) (by decide), h2.keep _ _ _ (k4.gr gw1) (by decide), ?hgs, Gr.trans_below (HGW.out.trans gw1) h2.below⟩, fun e => absurd rfl e, ?_⟩
   case hgs =>
    have e1 : w1.heap[gS]? = W5.heap[gS]? := (gw1.below.block gS (Old.lt (b := gS) (W := wr))).trans HGS.out
    exact (h2.block gS (Nat.lt_of_lt_of_le (Old.lt (b := gS) (W := wr)) gw1.below.size) (fun cs f e => by rw [e1, HH5.out] at e; cases e)).trans e1
   have HN2 := Lib.hid hn2
   clear ho2 h2 gw1 hw1 hn2 W2 w1
   simp only [Act.put, List.setIfInBounds_toArray, List.set]
   refine fg_one 9 (by kernel_rfl) ?_
   refine fg_pure (.pointer (some ⟨A0, 2, none⟩)) rfl rfl rfl (fun w => by go_simp) ?_
   simp only [Act.put, List.setIfInBounds_toArray, List.set]
   refine fg_one 10 (by kernel_rfl) ?_
   refine fg_effN rfl rfl rfl (fun w1 hw1 => ?_)
   obtain ⟨ho9, m8, m6, m4, mS, mg⟩ := hw1
   have hneS : gS ≠ A0 := fun e => by
    have h9 := HB8.out.eq
    rw [← e, HH5.out] at h9
    cases h9
   have t0 : w1.cell? ⟨A0, 2, none⟩ = some (.slice vA vn vc) := (@block_cells _ _ 2 _ _ m8).trans rfl
   have t1 : w1.frozen? ⟨A0, 2, none⟩ = false := @block_frozen _ _ 2 _ _ m8
   haveI oA0 : Old A0 w1 := m8.old
   have hrun : (storeVar 41 ⟨A0, 2, none⟩ (.slice A2 n2 c2')).run Tryz.prog w1 = .ok () (w1.setCell ⟨A0, 2, none⟩ (.slice A2 n2 c2')) := by go_simp
   refine effAt_storeG rfl rfl rfl hrun ⟨⟨fun w2 => OwnN bE w.heap.size w2 (.slice A2 n2 c2') ((L.take k).flatMap F ++ Z) ∧ BlockAt w2 A0 #[.int .i64 0, .int .i64 0, .slice A2 n2 c2'] 97 ∧ BlockAt w2 (w.heap.size + 1) #[.int .i64 0, .int .i64 0, .slice none 0 0] 97 ∧ BlockAt w2 w.heap.size #[.int .i64 9, .int .u64 xv, .int .u64 xt, .int .i64 xs, .int .i64 (an : Int), .int .i64 (C : Int), .slice xD xn xq] 43 ∧ w2.heap[gS]? = W5.heap[gS]? ∧ Gr w w2, false, fun e => Bool.noConfusion e, fun e => Bool.noConfusion e⟩, ⟨ho9.set_ A0 2 _ (by decide), ?h8, ?h6, ?h4, (Below.heap_setCell w1 ⟨A0, 2, none⟩ _ gS hneS).trans mS, Gr.of (mg.below.setCell (p := ⟨A0, 2, none⟩) (by show w.heap.size ≤ A0; omega) _)⟩, fun _ e => Bool.noConfusion e, ?_⟩
   case h8 =>
    show BlockAt _ A0 (#[.int .i64 0, .int .i64 0, .slice vA vn vc].setIfInBounds 2 (.slice A2 n2 c2')) _
    infer_instance
   case h6 => exact ⟨(Below.heap_setCell w1 ⟨A0, 2, none⟩ _ (w.heap.size + 1) (by show w.heap.size + 1 ≠ A0; omega)).trans m6.eq⟩
   case h4 => exact ⟨(Below.heap_setCell w1 ⟨A0, 2, none⟩ _ w.heap.size (by show w.heap.size ≠ A0; omega)).trans m4.eq⟩
   clear ho9 m8 m6 m4 mS mg t0 t1 hrun oA0 w1
   refine fg_end (by kernel_rfl) (fun w5 hw5 => ?_)
   obtain ⟨ho9, m8, m6, m4, mS, mg⟩ := hw5
   have HFIN := Lib.hid (show OwnN bE w.heap.size w5 (.slice A2 n2 c2') ((L.take (k + 1)).flatMap F) ∧ w5.heap[gS]? = W5.heap[gS]? ∧ Gr w w5 from ⟨by rw [List.take_add_one, HS.out, List.flatMap_append, Option.toList_some, List.flatMap_cons, List.flatMap_nil, List.append_nil, HYe.out, ← HZ.out]; exact ho9, mS, mg⟩)
   clear ho9 mS mg
   try simp only [Act.put]
   go_wp2
   go_roundw
   case rel => exact ⟨k + 1, A2, n2, c2', hlt, by go_num, HFIN.out.1, m8, m6, m4, HFIN.out.2.1, HFIN.out.2.2⟩
   case measure => simp [intOf]; omega
  ·have hkk : k = L.length := by omega
   rw [hkk, List.take_length] at hown
   have p0 : wr.cell? ⟨A0, 0, none⟩ = some (.int .i64 0) := (@block_cells _ _ 0 _ _ k8).trans rfl
   have p1 : wr.cell? ⟨A0, 1, none⟩ = some (.int .i64 0) := (@block_cells _ _ 1 _ _ k8).trans rfl
   have q0 : wr.cell? ⟨w.heap.size + 1, 0, none⟩ = some (.int .i64 0) := (@block_cells _ _ 0 _ _ k6).trans rfl
   have q1 : wr.cell? ⟨w.heap.size + 1, 1, none⟩ = some (.int .i64 0) := (@block_cells _ _ 1 _ _ k6).trans rfl
   have q2 : wr.cell? ⟨w.heap.size + 1, 2, none⟩ = some (.slice none 0 0) := (@block_cells _ _ 2 _ _ k6).trans rfl
   have fz : ∀ o, wr.frozen? ⟨w.heap.size + 1, o, none⟩ = false := fun o => @block_frozen _ _ o _ _ k6
   have HRk := Lib.hid hRk
   have HO := Lib.hid hown
   have HGW := Lib.hid hgw
   clear hRk hown hgw hgS9 hvn hDk
   go_wp2
   exact bodyPost_ret (run_resCell1 rfl _ _ _ _ rfl (ans_block k6 _ _ _) Tryz.underlying97 rfl (by kernel_rfl)) rfl ⟨vA, vn, vc, rfl, ((HO.out.set_ (w.heap.size + 1) 0 _ (by decide)).set_ (w.heap.size + 1) 1 _ (by decide)).set_ (w.heap.size + 1) 2 _ (by decide), ans_ref (by rw [← HN.out] at *; exact HRk.out) k6 _ _ _, ans_below (HGW.out.below.mono hbase) (by omega) _ _ _, ans_rk (RK.gr HGW.out) (by omega) _ _ _⟩
set_option maxRecDepth 100000
set_option maxHeartbeats 4000000
theorem rpart_any (xk xv xt xs xa xc most : Int) (xD : Option Addr) (xn xq : Nat) (hq : xn ≤ xq) (lx : Byt) (hxn : lx.length = xn) (base R : Nat) (d : Dev) (w W0 : World) (h0 : Gr W0 w) (hb0 : base = W0.heap.size) (h : RefAt base w R d) (hl : d.length ≤ 1000000) (hr : Row bv W0 xD lx) (hn : xn ≤ 1000000) (v0 : 0 ≤ xv) (t0 : 0 ≤ xt) (hmost : 1024 ≤ most) :
  Calls Tryz.prog 98 #[.pointer (some ⟨R, 0, none⟩), .agg #[.int .i64 xk, .int .u64 xv, .int .u64 xt, .int .i64 xs, .int .i64 xa, .int .i64 xc, .slice xD xn xq], .int .i64 most] w
   (RPost base R (doK d ⟨xk, xv, xt, xs, xa, xc, lx⟩) (ansK d ⟨xk, xv, xt, xs, xa, xc, lx⟩ 1024).1 (ansK d ⟨xk, xv, xt, xs, xa, xc, lx⟩ 1024).2.1 (ansK d ⟨xk, xv, xt, xs, xa, xc, lx⟩ 1024).2.2 w) := by
 have hbase : base ≤ w.heap.size := by rw [hb0]; exact h0.below.size
 by_cases he : errK d ⟨xk, xv, xt, xs, xa, xc, lx⟩ = 0
 rotate_left
 ·have e1 : doK d ⟨xk, xv, xt, xs, xa, xc, lx⟩ = d := by rw [doK, partK, if_neg he]
  have e2 : ansK d ⟨xk, xv, xt, xs, xa, xc, lx⟩ 1024 = (errK d ⟨xk, xv, xt, xs, xa, xc, lx⟩, 0, []) := by rw [ansK, if_neg he]
  rw [e1, e2]
  exact rpart_ref xk xv xt xs xa xc most xD xn xq lx hxn base R d w h hbase hl hn v0 t0 _ rfl (errK_val d _ he)
 have hm := errK_may he
 have hs := may_s hm
 have hkk := may_kind hm
 have hok := part_ok (by obtain ⟨v, vf, h⟩ := h; exact h.ok : DevOk d) ⟨xk, xv, xt, xs, xa, xc, lx⟩ 1024
 have e1 : doK d ⟨xk, xv, xt, xs, xa, xc, lx⟩ = didK d ⟨xk, xv, xt, xs, xa, xc, lx⟩ 1024 := by rw [doK, partK, if_pos he]
 have h9 : xk = 1 ∨ xk = 2 ∨ xk = 3 ∨ xk = 4 ∨ xk = 5 ∨ xk = 6 ∨ xk = 7 ∨ xk = 8 ∨ xk = 9 := by simp only at hkk; omega
 rw [partK, if_pos he] at hok
 rw [e1]
 clear e1 hkk
 rcases h9 with rfl | rfl | rfl | rfl | rfl | rfl | rfl | rfl | rfl
 ·have e2 : ansK d ⟨1, xv, xt, xs, xa, xc, lx⟩ 1024 = (0, 0, []) := by simp [ansK, he]
  have e3 : didK d ⟨1, xv, xt, xs, xa, xc, lx⟩ 1024 = putK d xv (xs, []) := by simp [didK]
  have hg : getK d xv = none := by
   cases hx : getK d xv with
   | none => rfl
   | some x => rw [errK, if_neg (by rw [hm]; simp)] at he; simp [hx] at he
  rw [e3] at hok
  rw [e2, e3]
  exact rpart_1 xv xt xs xa xc most xD xn xq lx hxn base R d w h hbase hl hn v0 t0 he hg hok
 ·obtain ⟨x, hv⟩ := errK_vol he (by simp) (by simp)
  have e2 : ansK d ⟨2, xv, xt, xs, xa, xc, lx⟩ 1024 = (0, 0, []) := by simp [ansK, he]
  have e3 : didK d ⟨2, xv, xt, xs, xa, xc, lx⟩ 1024 = delK d xv := by simp [didK]
  rw [e2, e3]
  exact rpart_2 xv xt xs xa xc most xD xn xq lx hxn base R d w h hbase hl hn v0 t0 he x hv
 ·obtain ⟨x, hv⟩ := errK_vol he (by simp) (by simp)
  simp only at hv
  have e2 : ansK d ⟨3, xv, xt, xs, xa, xc, lx⟩ 1024 = (0, 0, []) := by simp [ansK, he]
  have e3 : didK d ⟨3, xv, xt, xs, xa, xc, lx⟩ 1024 = putK d xv (xs, x.2.filter fun p => decide (p.1 < xs)) := by simp [didK, volD, hv]
  rw [e2, e3]
  exact rpart_3 xv xt xs xa xc most xD xn xq lx hxn base R d w h hbase hl hn v0 t0 he x hv (hs.size (by simp))
 ·obtain ⟨x, hv⟩ := errK_vol he (by simp) (by simp)
  simp only at hv
  have e2 : ansK d ⟨4, xv, xt, xs, xa, xc, lx⟩ 1024 = (0, 0, []) := by simp [ansK, he]
  have e3 : didK d ⟨4, xv, xt, xs, xa, xc, lx⟩ 1024 = putK d xt x := by simp [didK, volD, hv]
  have hg : getK d xt = none := by
   cases hx : getK d xt with
   | none => rfl
   | some y => rw [errK, if_neg (by rw [hm]; simp)] at he; simp [hv, hx] at he
  rw [e3] at hok
  rw [e2, e3]
  exact rpart_4 xv xt xs xa xc most xD xn xq lx hxn base R d w h hbase hl hn v0 t0 he x hv hg hok
 ·obtain ⟨x, hv⟩ := errK_vol he (by simp) (by simp)
  simp only at hv
  have ha := hs.at_ (by simp)
  have hd := hs.dat rfl
  simp only at ha hd
  rw [hxn] at hd
  have hfit : ¬ 4 * x.1 < xa + ((xn / 64 : Nat) : Int) := fun hlt => by
   rw [errK, if_neg (by rw [hm]; simp)] at he
   simp [hv, hxn] at he
   omega
  have hsp := spans_len xa.toNat (xn / 64)
  have e2 : ansK d ⟨5, xv, xt, xs, xa, xc, lx⟩ 1024 = (0, 0, []) := by
   have : ¬ (1024 : Int) < ((spans xa.toNat (xn / 64)).length : Int) := by omega
   simp [ansK, he, cntO, hxn]
   omega
  have e3 : didK d ⟨5, xv, xt, xs, xa, xc, lx⟩ 1024 = putK d xv (x.1, putL xa.toNat lx x.2 (spans xa.toNat (xn / 64))) := by
   have : (spans xa.toNat (xn / 64)).take (1024 : Int).toNat = spans xa.toNat (xn / 64) := List.take_of_length_le (by show _ ≤ 1024; omega)
   simp only [didK, volD, hv, dataO, cntO, hxn]
   simp
   rw [List.take_of_length_le (by omega)]
  rw [e2, e3]
  exact rpart_5 xv xt xs xa xc most xD xn xq lx hxn base R d w h hbase hl hn v0 t0 he W0 h0 hb0 hr hq hd.1 hd.2.1 hd.2.2 x hv ha.1 ha.2 hmost hfit
 ·obtain ⟨x, hv⟩ := errK_vol he (by simp) (by simp)
  simp only at hv
  have ha := hs.at_ (by simp)
  have hc := hs.cnt (by simp)
  simp only at ha hc
  have hfit : ¬ 4 * x.1 < xa + xc := fun hlt => by
   rw [errK, if_neg (by rw [hm]; simp)] at he
   simp [hv] at he
   omega
  have hsp := spans_len xa.toNat xc.toNat
  have e2 : ansK d ⟨6, xv, xt, xs, xa, xc, lx⟩ 1024 = (0, 0, []) := by
   simp [ansK, he, cntO]
   omega
  have e3 : didK d ⟨6, xv, xt, xs, xa, xc, lx⟩ 1024 = putK d xv (x.1, putL xa.toNat (List.replicate (64 * xc.toNat) 0) x.2 (spans xa.toNat xc.toNat)) := by
   simp only [didK, volD, hv, dataO, cntO]
   simp
   rw [List.take_of_length_le (by omega)]
  rw [e2, e3]
  exact rpart_6 xv xt xs xa xc most xD xn xq lx hxn base R d w h hbase hl hn v0 t0 he hc.1 hc.2 x hv ha.1 ha.2 hmost hfit
 ·obtain ⟨x, hv⟩ := errK_vol he (by simp) (by simp)
  simp only at hv
  have ha := hs.at_ (by simp)
  have hc := hs.cnt (by simp)
  simp only at ha hc
  have e2 : ansK d ⟨7, xv, xt, xs, xa, xc, lx⟩ 1024 = (0, 0, []) := by simp [ansK, he]
  have e3 : didK d ⟨7, xv, xt, xs, xa, xc, lx⟩ 1024 = putK d xv (x.1, x.2.filter fun p => decide (p.1 < xa ∨ xa + xc ≤ p.1)) := by simp [didK, volD, hv]
  rw [e2, e3]
  exact rpart_7 xv xt xs xa xc most xD xn xq lx hxn base R d w h hbase hl hn v0 t0 he x hv ha hc
 ·have e2 : ansK d ⟨8, xv, xt, xs, xa, xc, lx⟩ 1024 = (0, 0, []) := by simp [ansK, he]
  have e3 : didK d ⟨8, xv, xt, xs, xa, xc, lx⟩ 1024 = d := by simp [didK]
  rw [e2, e3]
  exact rpart_8 xv xt xs xa xc most xD xn xq lx hxn base R d w h hbase hl hn v0 t0 he
 ·obtain ⟨x, hv⟩ := errK_vol he (by simp) (by simp)
  simp only at hv
  have ha := hs.at_ (by simp)
  have hc := hs.cnt (by simp)
  simp only at ha hc
  have hfit : ¬ 4 * x.1 < xa + xc := fun hlt => by
   rw [errK, if_neg (by rw [hm]; simp)] at he
   simp [hv] at he
   omega
  have e2 : ansK d ⟨9, xv, xt, xs, xa, xc, lx⟩ 1024 = (0, 0, (spans xa.toNat xc.toNat).flatMap fun s => cutK (blkM x.2 s.b) s) := by simp [ansK, he, readK, volD, hv]
  have e3 : didK d ⟨9, xv, xt, xs, xa, xc, lx⟩ 1024 = d := by simp [didK]
  rw [e2, e3]
  exact rpart_9 xv xt xs xa xc most xD xn xq lx hxn base R d w h hbase hl hn v0 t0 he hc.1 hc.2 x hv ha.1 ha.2 hmost hfit
theorem rdo_any (xk xv xt xs xa xc : Int) (xD : Option Addr) (xn xq : Nat) (hq : xn ≤ xq) (lx : Byt) (hxn : lx.length = xn) (base R : Nat) (d : Dev) (w W0 : World) (h0 : Gr W0 w) (hb0 : base = W0.heap.size) (h : RefAt base w R d) (hl : d.length ≤ 1000000) (hr : Row bv W0 xD lx) (hn : xn ≤ 1000000) (v0 : 0 ≤ xv) (t0 : 0 ≤ xt) :
  Calls Tryz.prog 72 #[.pointer (some ⟨R, 0, none⟩), .agg #[.int .i64 xk, .int .u64 xv, .int .u64 xt, .int .i64 xs, .int .i64 xa, .int .i64 xc, .slice xD xn xq]] w
   (RPost base R (doK d ⟨xk, xv, xt, xs, xa, xc, lx⟩) (ansK d ⟨xk, xv, xt, xs, xa, xc, lx⟩ 1024).1 (ansK d ⟨xk, xv, xt, xs, xa, xc, lx⟩ 1024).2.1 (ansK d ⟨xk, xv, xt, xs, xa, xc, lx⟩ 1024).2.2 w) := by
 have HC := Lib.hid fun W (g : Gr w W) => rpart_any xk xv xt xs xa xc 1073741824 xD xn xq hq lx hxn base R d W W0 (h0.trans g) hb0 (h.gr g) hl hr hn v0 t0 (by decide)
 generalize doK d ⟨xk, xv, xt, xs, xa, xc, lx⟩ = d' at *
 generalize ansK d ⟨xk, xv, xt, xs, xa, xc, lx⟩ 1024 = z at *
 obtain ⟨code, done, data⟩ := z
 have hbase : base ≤ w.heap.size := by rw [hb0]; exact h0.below.size
 simp only at HC ⊢
 clear h hr
 go_enter Tryz.func72, Tryz.ntmps72
 go_wp2_with (first
  | (go_at_call 98; ((with_reducible refine (HC.out _ gri).mono ?_); rintro _ W3 ⟨A3, n3, c3, rfl, ho3, hd3, hb3, hk3⟩; have bA3 := hk3.block (inferInstance : BlockAt _ (w.heap.size + 1) #[.int .i64 0, .int .i64 0, .slice none 0 0] 97) (by unfold refT; decide); have cA0 : W3.cell? ⟨w.heap.size + 1, 0, none⟩ = some (.int .i64 0) := (@block_cells _ _ 0 _ _ bA3).trans rfl; have cA1 : W3.cell? ⟨w.heap.size + 1, 1, none⟩ = some (.int .i64 0) := (@block_cells _ _ 1 _ _ bA3).trans rfl; have cA2 : W3.cell? ⟨w.heap.size + 1, 2, none⟩ = some (.slice none 0 0) := (@block_cells _ _ 2 _ _ bA3).trans rfl; have fA : ∀ o, W3.frozen? ⟨w.heap.size + 1, o, none⟩ = false := fun o => @block_frozen _ _ o _ _ bA3)))
 have gW : Gr w ((w.alloc (.cells #[.int .i64 xk, .int .u64 xv, .int .u64 xt, .int .i64 xs, .int .i64 xa, .int .i64 xc, .slice xD xn xq] 43)).alloc (.cells #[.int .i64 0, .int .i64 0, .slice none 0 0] 97)) := gri
 obtain ⟨v3, vf3, hd3⟩ := hd3
 have ho4 : OwnN bE w.heap.size W3 (.slice A3 n3 c3) data := ⟨ho3.ok, OwnsRow_mono ho3.own gW.below.size⟩
 have ho5 := ((ho4.set_ (w.heap.size + 1) 0 (.int .i64 code) (by decide)).set_ (w.heap.size + 1) 1 (.int .i64 done) (by decide)).set_ (w.heap.size + 1) 2 (.slice A3 n3 c3) (by decide)
 exact bodyPost_ret (run_resCell1 rfl _ _ _ _ rfl (ans_block bA3 _ _ _) Tryz.underlying97 rfl (by kernel_rfl)) rfl ⟨A3, n3, c3, rfl, ho5, ans_ref hd3 bA3 _ _ _, ans_below ((gW.below.mono hbase).trans hb3) (by omega) _ _ _, ans_rk ((RK.gr gW).trans hk3) (by omega) _ _ _⟩
set_option maxRecDepth 100000
set_option maxHeartbeats 4000000 in
theorem do_any (xk xv xt xs xa xc : Int) (xD : Option Addr) (xn xq : Nat) (hq : xn ≤ xq) (lx : Byt) (hxn : lx.length = xn) (base D : Nat) (d : Dev) (w : World) (h : DevAt base w D d) (hbase : base ≤ w.heap.size) (hr : Row bv w xD lx) (hn : xn ≤ 1000000) :
  Calls Tryz.prog 43 #[.pointer (some ⟨D, 0, none⟩), .agg #[.int .i64 xk, .int .u64 xv, .int .u64 xt, .int .i64 xs, .int .i64 xa, .int .i64 xc, .slice xD xn xq]] w
   (PartPost base D (doK d ⟨xk, xv, xt, xs, xa, xc, lx⟩) (ansK d ⟨xk, xv, xt, xs, xa, xc, lx⟩ 1024).1 (ansK d ⟨xk, xv, xt, xs, xa, xc, lx⟩ 1024).2.1 (ansK d ⟨xk, xv, xt, xs, xa, xc, lx⟩ 1024).2.2 w) := by
 have HC := Lib.hid fun W (g : Gr w W) => part_any xk xv xt xs xa xc 1024 xD xn xq hq lx hxn base D d W (h.gr g) (Nat.le_trans hbase g.below.size) (hr.gr g) hn
 unfold doK
 generalize partK d ⟨xk, xv, xt, xs, xa, xc, lx⟩ 1024 = d' at *
 generalize ansK d ⟨xk, xv, xt, xs, xa, xc, lx⟩ 1024 = z at *
 obtain ⟨code, done, data⟩ := z
 simp only at HC ⊢
 clear h hr
 go_enter Tryz.func43, Tryz.ntmps43
 go_wp2_with (first
  | (go_at_call 71; ((with_reducible refine (HC.out _ gri).mono ?_); rintro _ W3 ⟨A3, n3, c3, rfl, ho3, hd3, hb3, hk3⟩; have bA3 := hk3.block (inferInstance : BlockAt _ (w.heap.size + 1) #[.int .i64 0, .int .i64 0, .slice none 0 0] 97); have cA0 : W3.cell? ⟨w.heap.size + 1, 0, none⟩ = some (.int .i64 0) := (@block_cells _ _ 0 _ _ bA3).trans rfl; have cA1 : W3.cell? ⟨w.heap.size + 1, 1, none⟩ = some (.int .i64 0) := (@block_cells _ _ 1 _ _ bA3).trans rfl; have cA2 : W3.cell? ⟨w.heap.size + 1, 2, none⟩ = some (.slice none 0 0) := (@block_cells _ _ 2 _ _ bA3).trans rfl; have fA : ∀ o, W3.frozen? ⟨w.heap.size + 1, o, none⟩ = false := fun o => @block_frozen _ _ o _ _ bA3)))
 have gW : Gr w ((w.alloc (.cells #[.int .i64 xk, .int .u64 xv, .int .u64 xt, .int .i64 xs, .int .i64 xa, .int .i64 xc, .slice xD xn xq] 43)).alloc (.cells #[.int .i64 0, .int .i64 0, .slice none 0 0] 97)) := gri
 obtain ⟨M3, mb3, hd3⟩ := hd3
 have ho4 : OwnN bE w.heap.size W3 (.slice A3 n3 c3) data := ⟨ho3.ok, OwnsRow_mono ho3.own gW.below.size⟩
 have ho5 := ((ho4.set_ (w.heap.size + 1) 0 (.int .i64 code) (by decide)).set_ (w.heap.size + 1) 1 (.int .i64 done) (by decide)).set_ (w.heap.size + 1) 2 (.slice A3 n3 c3) (by decide)
 exact bodyPost_ret (run_resCell1 rfl _ _ _ _ rfl (ans_block bA3 _ _ _) Tryz.underlying97 rfl (by kernel_rfl)) rfl ⟨A3, n3, c3, rfl, ho5, ans_dev hd3 bA3 (by decide) _ _ _, ans_below ((gW.below.mono hbase).trans hb3) (by omega) _ _ _, ck_ans ((CK.gr gW).trans hk3) (by omega) _ _ _⟩
set_option maxRecDepth 100000
set_option maxHeartbeats 4000000
structure OpC where
 o : OpM
 D : Option Addr
 n : Nat
 q : Nat
def opE : EK OpC := ⟨fun x => [.int .i64 x.o.k, .int .u64 x.o.v, .int .u64 x.o.t, .int .i64 x.o.s, .int .i64 x.o.a, .int .i64 x.o.c, .slice x.D x.n x.q], 7, 43, 31, 72, .agg #[.int .i64 0, .int .u64 0, .int .u64 0, .int .i64 0, .int .i64 0, .int .i64 0, .slice none 0 0], fun _ => True⟩
theorem opIs : opE.Is where
 len := fun _ _ => rfl
 one := fun x _ v hv => by
  simp only [opE, List.mem_cons, List.mem_nil_iff, or_false] at hv
  rcases hv with rfl | rfl | rfl | rfl | rfl | rfl | rfl <;> rfl
 pos := by decide
 hT := Tryz.underlying31
 hE := by kernel_rfl
 hz := rfl
 hb := by decide
structure OpOk (W : World) (x : OpC) : Prop where
 len : x.o.l.length = x.n
 cap : x.n ≤ x.q
 small : x.n ≤ 1000000
 row : Row bv W x.D x.o.l
 v0 : 0 ≤ x.o.v
 t0 : 0 ≤ x.o.t
theorem OpOk.gr {W W' : World} {x : OpC} (h : OpOk W x) (g : Gr W W') : OpOk W' x := ⟨h.len, h.cap, h.small, h.row.gr g, h.v0, h.t0⟩
theorem putK_len2 {β : Type} (m : List (Int × β)) (n : Int) (B : β) : (putK m n B).length ≤ m.length + 1 := by
 induction m with
 | nil => simp [putK]
 | cons p r ih =>
  obtain ⟨a, x⟩ := p
  unfold putK
  split
  ·simp
  split
  ·simp
  ·simp; exact ih
theorem doK_len (d : Dev) (o : OpM) : (doK d o).length ≤ d.length + 1 := by
 unfold doK partK
 split
 ·unfold didK
  repeat' split
  all_goals first | exact putK_len2 _ _ _ | (exact Nat.le_trans (List.length_filter_le _ _) (Nat.le_succ _)) | omega
 ·omega
theorem devOf_snoc (l : List OpM) (o : OpM) : devOf (l ++ [o]) = doK (devOf l) o := by simp [devOf]
theorem foldK_len : ∀ (l : List OpM) (d : Dev), (l.foldl doK d).length ≤ d.length + l.length
 | [], d => by simp
 | o :: l, d => by
  have h1 := foldK_len l (doK d o)
  have h2 := doK_len d o
  simp only [List.foldl_cons, List.length_cons]
  omega
theorem devOf_len (l : List OpM) : (devOf l).length ≤ l.length := by
 have := foldK_len l []
 simpa [devOf] using this
theorem devOf_take (l : List OpC) (k : Nat) (x : OpC) (h : l[k]? = some x) : devOf ((l.take (k + 1)).map (·.o)) = doK (devOf ((l.take k).map (·.o))) x.o := by
 rw [List.take_add_one, h, List.map_append]
 exact devOf_snoc _ _
theorem opCells {W : World} {b p : Nat} {l : List OpC} {k : Nat} {x : OpC} (h : CellsN opE W b p l) (hx : l[k]? = some x) :
  W.cell? ⟨b, p + k * 7, none⟩ = some (.int .i64 x.o.k) ∧ W.cell? ⟨b, p + k * 7 + 1, none⟩ = some (.int .u64 x.o.v) ∧ W.cell? ⟨b, p + k * 7 + 2, none⟩ = some (.int .u64 x.o.t) ∧ W.cell? ⟨b, p + k * 7 + 3, none⟩ = some (.int .i64 x.o.s) ∧ W.cell? ⟨b, p + k * 7 + 4, none⟩ = some (.int .i64 x.o.a) ∧ W.cell? ⟨b, p + k * 7 + 5, none⟩ = some (.int .i64 x.o.c) ∧ W.cell? ⟨b, p + k * 7 + 6, none⟩ = some (.slice x.D x.n x.q) :=
 ⟨h k x hx 0 _ rfl, h k x hx 1 _ rfl, h k x hx 2 _ rfl, h k x hx 3 _ rfl, h k x hx 4 _ rfl, h k x hx 5 _ rfl, h k x hx 6 _ rfl⟩
theorem refAt_new (W : World) (B : Nat) (base : Nat) (h : BlockAt W B #[.slice none 0 0] 67) (hb : base ≤ B) : RefAt base W B [] :=
 ⟨.slice none 0 0, fun _ => .slice none 0 0, h, OwnN.nil _ _, by simp, hb, ⟨List.Pairwise.nil, by simp, by simp⟩⟩
theorem rdevice_any (l : List OpC) (n : Nat) (hn : l.length = n) (hn9 : n ≤ 100000) (A : Option Addr) (c : Nat) (w : World) (hr : RowN opE w A l) (hok : ∀ x ∈ l, OpOk w x) :
  Calls Tryz.prog 46 #[.slice A n c] w fun e w' => ∃ R, e = .returned (.pointer (some ⟨R, 0, none⟩)) ∧ RefAt w.heap.size w' R (devOf (l.map (·.o))) ∧ Gr w w' := by
 have HR := Lib.hid hr
 have HOK := Lib.hid hok
 have HN := Lib.hid hn
 clear hr hok hn
 go_enter Tryz.func46, Tryz.ntmps46
 go_wp2
 go_loopw [4] (fun i wr => ∃ k : Nat, k ≤ n ∧ i = .int .i64 (k : Int) ∧ RefAt w.heap.size wr w.heap.size (devOf ((l.take k).map (·.o))) ∧ Gr w wr) (fun i _ => n - (intOf i).toNat)
 case atStart => exact ⟨0, Nat.zero_le _, rfl, refAt_new _ _ _ inferInstance (Nat.le_refl _), gri⟩
 case round =>
  obtain ⟨k, hk, rfl, hd, hg⟩ := hrel
  haveI := grc_of hg
  haveI := from_of hg
  have HD := Lib.hid hd
  have HG := Lib.hid hg
  clear hd hg
  by_cases hlt : k < n
  ·obtain ⟨x, hx⟩ : ∃ x, l[k]? = some x := ⟨_, List.getElem?_eq_getElem (by rw [HN.out]; exact hlt)⟩
   obtain ⟨b, p, rfl, hb, hcl⟩ := HR.out.at_ (by rintro rfl; have := HN.out; simp at this; omega)
   obtain ⟨c0, c1, c2, c3, c4, c5, c6⟩ := opCells hcl hx
   have hcell : ∀ (j : Nat) v, w.cell? ⟨b, j, none⟩ = some v → wr.cell? ⟨b, j, none⟩ = some v := fun j v h => (HG.out.below.cell (p := ⟨b, j, none⟩) hb).trans h
   have d0 := hcell _ _ c0
   have d1 := hcell _ _ c1
   have d2 := hcell _ _ c2
   have d3 := hcell _ _ c3
   have d4 := hcell _ _ c4
   have d5 := hcell _ _ c5
   have d6 := hcell _ _ c6
   haveI : Old b wr := old_of_cell d0
   have ho := HOK.out x (List.mem_of_getElem? hx)
   have hdl : (devOf ((l.take k).map (·.o))).length ≤ 1000000 := by have h1 := devOf_len ((l.take k).map (·.o)); have h2 := List.length_take_le k l; rw [List.length_map] at h1; omega
   have HDo := Lib.hid (fun W (hW : Gr wr W) => rdo_any x.o.k x.o.v x.o.t x.o.s x.o.a x.o.c x.D x.n x.q ho.cap x.o.l ho.len w.heap.size w.heap.size (devOf ((l.take k).map (·.o))) W w (HG.out.trans hW) rfl (HD.out.gr hW) hdl ho.row ho.small ho.v0 ho.t0)
   have HT := Lib.hid (devOf_take l k x hx)
   clear hcell c0 c1 c2 c3 c4 c5 c6 hcl hx ho hdl
   obtain ⟨⟨ok, ov, ot, os, oa, oc, ol⟩, oD, on, oq⟩ := x
   simp only at *
   go_wp2_with (first | (go_at_call 72; ((with_reducible refine (HDo.out _ gri).mono ?_); rintro _ W3 ⟨A3, n3, c3, rfl, ho3, hd3, hb3, hk3⟩)))
   go_roundw
   case rel => exact ⟨k + 1, hlt, by go_num, by rw [HT.out]; exact hd3, Gr.of ((show Gr w _ from gri).below.trans hb3)⟩
   case measure => simp [intOf]; omega
  ·have : k = n := by omega
   subst this
   have e : l.take k = l := List.take_of_length_le (by rw [HN.out]; omega)
   have HE := Lib.hid e
   clear e
   go_wp2
   go_ret
   exact ⟨_, rfl, by have := HD.out; rw [HE.out] at this; exact this, HG.out⟩
theorem made_any (l : List OpC) (n : Nat) (hn : l.length = n) (hn9 : n ≤ 100000) (A : Option Addr) (c : Nat) (w : World) (hr : RowN opE w A l) (hok : ∀ x ∈ l, OpOk w x) :
  Calls Tryz.prog 15 #[.slice A n c] w fun e w' => ∃ D R, e = .returned (.tuple #[.pointer (some ⟨D, 0, none⟩), .pointer (some ⟨R, 0, none⟩)]) ∧ DevAt w.heap.size w' D (devOf (l.map (·.o))) ∧ (∃ base, w.heap.size ≤ base ∧ RefAt base w' R (devOf (l.map (·.o)))) ∧ Gr w w' := by
 have HR := Lib.hid hr
 have HOK := Lib.hid hok
 have HN := Lib.hid hn
 have HDv := Lib.hid (fun W (hW : Gr w W) => rdevice_any l n hn hn9 A c W (hr.gr hW) (fun x hx => (hok x hx).gr hW))
 clear hr hok hn
 go_enter Tryz.func15, Tryz.ntmps15
 go_wp2_with (first | (go_at_call 11; ((with_reducible refine (new_any _).mono ?_); rintro _ W2 ⟨D2, rfl, hd2, hg2⟩)))
 go_loopw [5] (fun i wr => ∃ k : Nat, k ≤ n ∧ i = .int .i64 (k : Int) ∧ DevAt w.heap.size wr D2 (devOf ((l.take k).map (·.o))) ∧ Gr w wr) (fun i _ => n - (intOf i).toNat)
 case atStart => exact ⟨0, Nat.zero_le _, rfl, hd2, hg2⟩
 case round =>
  obtain ⟨k, hk, rfl, hd, hg⟩ := hrel
  haveI := grc_of hg
  haveI := from_of hg
  have HD := Lib.hid hd
  have HG := Lib.hid hg
  clear hd hg hd2 hg2
  by_cases hlt : k < n
  ·obtain ⟨x, hx⟩ : ∃ x, l[k]? = some x := ⟨_, List.getElem?_eq_getElem (by rw [HN.out]; exact hlt)⟩
   obtain ⟨b, p, rfl, hb, hcl⟩ := HR.out.at_ (by rintro rfl; have := HN.out; simp at this; omega)
   obtain ⟨c0, c1, c2, c3, c4, c5, c6⟩ := opCells hcl hx
   have hcell : ∀ (j : Nat) v, w.cell? ⟨b, j, none⟩ = some v → wr.cell? ⟨b, j, none⟩ = some v := fun j v h => (HG.out.below.cell (p := ⟨b, j, none⟩) hb).trans h
   have d0 := hcell _ _ c0
   have d1 := hcell _ _ c1
   have d2 := hcell _ _ c2
   have d3 := hcell _ _ c3
   have d4 := hcell _ _ c4
   have d5 := hcell _ _ c5
   have d6 := hcell _ _ c6
   haveI : Old b wr := old_of_cell d0
   have ho := HOK.out x (List.mem_of_getElem? hx)
   have HDo := Lib.hid (fun W (hW : Gr wr W) => do_any x.o.k x.o.v x.o.t x.o.s x.o.a x.o.c x.D x.n x.q ho.cap x.o.l ho.len w.heap.size D2 (devOf ((l.take k).map (·.o))) W (HD.out.gr hW) (HG.out.trans hW).below.size (ho.row.gr (HG.out.trans hW)) ho.small)
   have HT := Lib.hid (devOf_take l k x hx)
   clear hcell c0 c1 c2 c3 c4 c5 c6 hcl hx ho
   obtain ⟨⟨ok, ov, ot, os, oa, oc, ol⟩, oD, on, oq⟩ := x
   simp only at *
   go_wp2_with (first | (go_at_call 43; ((with_reducible refine (HDo.out _ gri).mono ?_); rintro _ W3 ⟨A3, n3, c3, rfl, ho3, hd3, hb3, hk3⟩)))
   go_roundw
   case rel => exact ⟨k + 1, hlt, by go_num, by rw [HT.out]; exact hd3, Gr.of ((show Gr w _ from gri).below.trans hb3)⟩
   case measure => simp [intOf]; omega
  ·have : k = n := by omega
   subst this
   have e : l.take k = l := List.take_of_length_le (by rw [HN.out]; omega)
   have HE := Lib.hid e
   clear e
   go_wp2_with (first | (go_at_call 46; ((with_reducible refine (HDv.out _ gri).mono ?_); rintro _ W3 ⟨R, rfl, hr3, hg3⟩)))
   go_ret2
   exact ⟨_, _, rfl, by have := HD.out.gr (Gr.trans gri hg3); rw [HE.out] at this; exact this, ⟨_, (Gr.below (gri : Gr w _)).size, hr3⟩, Gr.trans gri hg3⟩
set_option maxRecDepth 100000
set_option maxHeartbeats 4000000
def nextK (d : Dev) (as_ : Int) (need : Int → Bool × Bool) (i : Int) : Int := if (need i).1 = false then 0 else if (need i).2 = false then 7 else if ((blkK d as_ i).getD zB == zB) = true then 6 else 5
theorem buildZ (w : World) : (Instr.build 88 #[]).run Tryz.prog w = .ok (.agg (bkC zB)) w := by
 rw [← zC_bk]
 kernel_rfl
theorem wpBuildZ {W : World} {ops : Array Oper} {rest : List Oper} {o : Oper} {a : Act} {Q : Exit → Act → World → Prop} (hgd : o.guard = none) (ho : o.op = .build 88 #[]) (h : wpList Tryz.prog ops Q rest (a.put o.dst (.agg (bkC zB))) W) : wpList Tryz.prog ops Q (o :: rest) a W := by
 refine wpList_plain hgd fun K' hK' => ?_
 unfold Oper.wp execOp
 simp only [ho, List.map_toArray, List.map_nil, Sem.run_bind, buildZ, Result.andThen_ok]
 exact hK' _ _ h
set_option maxRecDepth 100000
set_option maxHeartbeats 4000000
def oneK (v : Int) (b : Nat) (B : Byt) (s : Bool) : OpM := if s = false then ⟨7, v, 0, 0, b, 1, []⟩ else if (B == zB) = true then ⟨6, v, 0, 0, 4 * (b : Int), 4, []⟩ else ⟨5, v, 0, 0, 4 * (b : Int), 0, B⟩
theorem sliceAll (K : Nat) (w : World) : (Instr.sliceAt 88 (.pointer (some ⟨K, 0, none⟩)) none none none).run Tryz.prog w = .ok (.slice (some ⟨K, 0, none⟩) 256 256) w := by
 have h := run_sliceAt_array_all (P := Tryz.prog) w 88 ⟨K, 0, none⟩ (by rw [alen, aelem]; exact Tryz.underlying88)
 rw [h, aelem, asize, alen]
 simp only [Result.andThen_ok, slicedAt]
 rw [if_neg (by omega), Go.WideShapes.add_plain, Nat.mul_one, Nat.zero_add]
structure OpOwn (base : Nat) (W : World) (x : OpC) : Prop where
 own : OwnN bE base W (.slice x.D x.n x.q) x.o.l
theorem setRow_other2 {base : Nat} {W : World} {B : Nat} {zs : Array Value} {T : TypeId} {v : Value} {xs : Byt} (cs : Array Value) (hB : BlockAt W B zs T) (ho : OwnN bE base W v xs) {k : Nat} (hk : v.ownBlock = some k) (hT : T ≠ 5 := by decide) : (W.setRow B cs).heap[k]? = W.heap[k]? := by
 rcases ho.own.2 with ⟨rfl, _⟩ | ⟨g, cap, cur, rfl, _, hh, _⟩
 ·cases hk
 ·have : g = k := by simpa [Value.ownBlock] using hk
  subst this
  have hne : g ≠ B := by
   rintro rfl
   have := hB.eq
   rw [hh] at this
   cases this
   exact hT rfl
  simp only [World.setRow, Array.getElem?_modify]
  rw [if_neg (fun e => hne e.symm)]
theorem rone_any (v : Int) (b : Nat) (hb : b ≤ 1000) (B : Byt) (hB : B.length = 256) (s : Bool) (w : World) : Calls Tryz.prog 57 #[.int .u64 v, .int .i64 (b : Int), .agg (bkC B), .bool s] w fun e w' => ∃ x : OpC, e = .returned (.agg (opE.cs x).toArray) ∧ x.o = oneK v b B s ∧ OpOwn w.heap.size w' x ∧ Gr w w' := by
 haveI := bkC_row hB
 have HB := Lib.hid hB
 have HE := fun W => eqBlk _ _ hB zB_len W
 obtain ⟨r, hr⟩ : ∃ r, r = oneK v b B s := ⟨_, rfl⟩
 rw [← hr]
 have HR := Lib.hid hr
 have hsl := sliceAll
 clear hB hr
 cases s with
 | false =>
  go_enter Tryz.func57, Tryz.ntmps57
  go_wp2
  refine bodyPost_ret (run_resCell1 rfl _ (w.heap.size + 1) #[.int .i64 7, .int .u64 v, .int .u64 0, .int .i64 0, .int .i64 (b : Int), .int .i64 1, .slice none 0 0] _ rfl ?_ Tryz.underlying43 rfl (by kernel_rfl)) rfl ⟨⟨⟨7, v, 0, 0, b, 1, []⟩, none, 0, 0⟩, rfl, by rw [HR.out]; rfl, ⟨OwnN.nil _ _⟩, gri⟩
  exact ⟨(BlockAt.eq (B := w.heap.size + 1)).trans rfl⟩
 | true =>
  rcases Bool.eq_false_or_eq_true (B == zB) with hq | hq
  ·have HQ := Lib.hid hq
   go_enter Tryz.func57, Tryz.ntmps57
   go_wp2_with (first | (refine wpLoadB rfl _ rfl _ _ rfl inferInstance inferInstance ?_) | (refine wpBuildZ rfl rfl ?_))
   refine bodyPost_ret (run_resCell1 rfl _ (w.heap.size + 1) #[.int .i64 6, .int .u64 v, .int .u64 0, .int .i64 0, .int .i64 (4 * (b : Int)), .int .i64 4, .slice none 0 0] _ rfl ?_ Tryz.underlying43 rfl (by kernel_rfl)) rfl ⟨⟨⟨6, v, 0, 0, 4 * (b : Int), 4, []⟩, none, 0, 0⟩, rfl, by rw [HR.out, oneK, if_neg (by decide), if_pos HQ.out], ⟨OwnN.nil _ _⟩, gri⟩
   exact ⟨(BlockAt.eq (B := w.heap.size + 1)).trans rfl⟩
  ·have HQ := Lib.hid hq
   have HCL : Hid (∀ W, BlockAt W w.heap.size (bkC B) 88 → CellsN bE W w.heap.size 0 B) := Lib.hid fun W h => cellsB fun j x hj => by rw [Nat.zero_add, @block_cells _ _ _ _ _ h]; exact bkC_at hj
   go_enter Tryz.func57, Tryz.ntmps57
   go_wp2_with (first | (refine wpLoadB rfl _ rfl _ _ rfl inferInstance inferInstance ?_) | (refine wpBuildZ rfl rfl ?_) | (at_builtin; refine wp_append_n bIs rfl _ _ rfl rfl (OwnN.nil w.heap.size _) w.heap.size 0 B 256 256 HB.out rfl (fun _ _ => trivial) (HCL.out _ inferInstance) (by rw [HB.out]; decide) past (by rw [HB.out]; decide) ?_; intro v1 W1 h1; have g1 : Gr w W1 := Gr.trans_below (gri : Gr w _) h1.below; have hb1 := h1.keep (w.heap.size + 1) _ _ (inferInstance : BlockAt _ (w.heap.size + 1) #[.int .i64 0, .int .u64 0, .int .u64 0, .int .i64 0, .int .i64 0, .int .i64 0, .slice none 0 0] 43) (by decide); have ho1 := h1.own; rw [List.nil_append] at ho1; obtain ⟨A1, c1, hv1, -, -, -⟩ := ho1.form bIs; rw [HB.out] at hv1; subst hv1; have HO1 := Lib.hid ho1; clear h1 ho1; obtain ⟨g8, rfl⟩ := g1; haveI := hb1) | (refine wpList_storeRow rfl 43 _ _ rfl (w.heap.size + 1) _ #[.int .i64 5, .int .u64 v, .int .u64 0, .int .i64 0, .int .i64 (4 * (b : Int)), .int .i64 0, .slice A1 256 c1] rfl rfl hb1 (by kernel_rfl) rfl (List.all_eq_true.1 rfl) ?_))
   exact bodyPost_ret (run_resCell1 rfl _ (w.heap.size + 1) #[.int .i64 5, .int .u64 v, .int .u64 0, .int .i64 0, .int .i64 (4 * (b : Int)), .int .i64 0, .slice A1 256 c1] _ rfl inferInstance Tryz.underlying43 rfl (by kernel_rfl)) rfl ⟨⟨⟨5, v, 0, 0, 4 * (b : Int), 0, B⟩, A1, 256, c1⟩, rfl, by rw [HR.out, oneK, if_neg (by decide), if_neg (by rw [HQ.out]; decide)], ⟨HO1.out.keep fun k hk => setRow_other2 _ hb1 HO1.out hk⟩, setRow_gr (Gr.of g8.below) (by omega)⟩
end Go.Proofs.YtipeblmgochdfaaGreat
