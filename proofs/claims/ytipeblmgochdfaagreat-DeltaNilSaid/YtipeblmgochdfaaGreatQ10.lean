/- Device.Part, Device.Do: what an operation does, and its answer. Conditions: the device and the operation's data stand in memory. The reference's device: Part, what it leaves; refused; of a kind that does nothing. Conditions: the device stands in memory. The reference's device: Part of create, delete, snap, resize, discard. Conditions: as XRDo0. -/
import Derived.Test.YtipeblmgochdfaaGreatQ08
import Derived.Test.YtipeblmgochdfaaGreatQ09
import Derived.Test.YtipeblmgochdfaaGreatQ06
import Derived.Test.YtipeblmgochdfaaGreatQ07
import Derived.Test.YtipeblmgochdfaaGreatQ03
namespace Go.Proofs.YtipeblmgochdfaaGreat
open Go.RowKit
set_option linter.unusedVariables false
set_option linter.unusedSimpArgs false
set_option linter.unnecessarySimpa false
set_option maxRecDepth 100000
theorem Row.bytes {w : World} {A : Option Addr} {l : List UInt8} (h : Row bv w A l) {W : World} (g : Gr w W) : Row bv W A l := h.gr g
theorem errK_may {d : Dev} {o : OpM} (he : errK d o = 0) : o.may = true := by
 cases hm : o.may with
 | true => rfl
 | false => rw [errK, if_pos hm] at he; cases he
theorem errK_vol {d : Dev} {o : OpM} (he : errK d o = 0) (h1 : o.k ≠ 1) (h8 : o.k ≠ 8) : ∃ x, getK d o.v = some x := by
 rw [errK, if_neg (by rw [errK_may he]; simp), if_neg h8] at he
 cases hx : getK d o.v with
 | some x => exact ⟨x, rfl⟩
 | none => rw [hx] at he; simp [h1] at he
theorem part_any (xk xv xt xs xa xc most : Int) (xD : Option Addr) (xn xq : Nat) (hq : xn ≤ xq) (lx : Byt) (hxn : lx.length = xn) (base D : Nat) (d : Dev) (w : World) (h : DevAt base w D d) (hbase : base ≤ w.heap.size) (hr : Row bv w xD lx) (hn : xn ≤ 1000000) :
  Calls Tryz.prog 71 #[.pointer (some ⟨D, 0, none⟩), .agg #[.int .i64 xk, .int .u64 xv, .int .u64 xt, .int .i64 xs, .int .i64 xa, .int .i64 xc, .slice xD xn xq], .int .i64 most] w
   (PartPost base D (partK d ⟨xk, xv, xt, xs, xa, xc, lx⟩ most) (ansK d ⟨xk, xv, xt, xs, xa, xc, lx⟩ most).1 (ansK d ⟨xk, xv, xt, xs, xa, xc, lx⟩ most).2.1 (ansK d ⟨xk, xv, xt, xs, xa, xc, lx⟩ most).2.2 w) := by
 by_cases he : errK d ⟨xk, xv, xt, xs, xa, xc, lx⟩ = 0
 rotate_left
 ·have e1 : partK d ⟨xk, xv, xt, xs, xa, xc, lx⟩ most = d := by rw [partK, if_neg he]
  have e2 : ansK d ⟨xk, xv, xt, xs, xa, xc, lx⟩ most = (errK d ⟨xk, xv, xt, xs, xa, xc, lx⟩, 0, []) := by rw [ansK, if_neg he]
  rw [e1, e2]
  exact part_ref xk xv xt xs xa xc most xD xn xq lx hxn base D d w h hbase hr hn _ rfl (errK_val d _ he)
 have hm := errK_may he
 have hs := may_s hm
 have hkk := may_kind hm
 have hok := part_ok (by obtain ⟨M, mb, h⟩ := h; exact h.ok : DevOk d) ⟨xk, xv, xt, xs, xa, xc, lx⟩ most
 have e1 : partK d ⟨xk, xv, xt, xs, xa, xc, lx⟩ most = didK d ⟨xk, xv, xt, xs, xa, xc, lx⟩ most := by rw [partK, if_pos he]
 have h9 : xk = 1 ∨ xk = 2 ∨ xk = 3 ∨ xk = 4 ∨ xk = 5 ∨ xk = 6 ∨ xk = 7 ∨ xk = 8 ∨ xk = 9 := by simp only at hkk; omega
 have hb := fun W (g : Gr w W) => Nat.le_trans hbase g.below.size
 rw [e1] at hok ⊢
 clear e1 hkk
 rcases h9 with rfl | rfl | rfl | rfl | rfl | rfl | rfl | rfl | rfl
 ·have e2 : ansK d ⟨1, xv, xt, xs, xa, xc, lx⟩ most = (0, 0, []) := by simp [ansK, he]
  have e3 : didK d ⟨1, xv, xt, xs, xa, xc, lx⟩ most = putK d xv (xs, []) := by simp [didK]
  rw [e3] at hok
  rw [e2, e3]
  exact part_call _ _ _ _ _ _ _ _ _ _ lx hxn base D d _ w h hbase hr hn he 91 rfl 0 0 [] (fun _ _ => rfl) fun W g => (create_any _ _ _ _ _ _ _ _ _ hn base D d W (h.gr g) (hb W g) hok).mono fun e w' hp => opPost_part hp
 ·have e2 : ansK d ⟨2, xv, xt, xs, xa, xc, lx⟩ most = (0, 0, []) := by simp [ansK, he]
  have e3 : didK d ⟨2, xv, xt, xs, xa, xc, lx⟩ most = delK d xv := by simp [didK]
  rw [e2, e3]
  exact part_call _ _ _ _ _ _ _ _ _ _ lx hxn base D d _ w h hbase hr hn he 92 rfl 0 0 [] (fun _ _ => rfl) fun W g => (drop_any _ _ _ _ _ _ _ _ _ hn base D d W (h.gr g) (hb W g)).mono fun e w' hp => opPost_part hp
 ·obtain ⟨x, hv⟩ := errK_vol he (by simp) (by simp)
  simp only at hv
  have e2 : ansK d ⟨3, xv, xt, xs, xa, xc, lx⟩ most = (0, 0, []) := by simp [ansK, he]
  have e3 : didK d ⟨3, xv, xt, xs, xa, xc, lx⟩ most = putK d xv (xs, x.2.filter fun p => decide (p.1 < xs)) := by simp [didK, volD, hv]
  rw [e3] at hok
  rw [e2, e3]
  exact part_call _ _ _ _ _ _ _ _ _ _ lx hxn base D d _ w h hbase hr hn he 93 rfl 0 0 [] (fun _ _ => rfl) fun W g => (resize_any _ _ _ _ _ _ _ _ _ hn base D d W (h.gr g) (hb W g) x hv hok).mono fun e w' hp => opPost_part hp
 ·obtain ⟨x, hv⟩ := errK_vol he (by simp) (by simp)
  simp only at hv
  have e2 : ansK d ⟨4, xv, xt, xs, xa, xc, lx⟩ most = (0, 0, []) := by simp [ansK, he]
  have e3 : didK d ⟨4, xv, xt, xs, xa, xc, lx⟩ most = putK d xt x := by simp [didK, volD, hv]
  rw [e3] at hok
  rw [e2, e3]
  exact part_call _ _ _ _ _ _ _ _ _ _ lx hxn base D d _ w h hbase hr hn he 94 rfl 0 0 [] (fun _ _ => rfl) fun W g => (snap_any _ _ _ _ _ _ _ _ _ hn base D d W (h.gr g) (hb W g) x hv hok).mono fun e w' hp => opPost_part hp
 ·obtain ⟨x, hv⟩ := errK_vol he (by simp) (by simp)
  simp only at hv
  have ha := hs.at_ (by simp)
  have hd := hs.dat rfl
  simp only at ha hd
  rw [hxn] at hd
  have hfit : ¬ 4 * x.1 < xa + (xn : Int) / 64 := fun hlt => by
   rw [errK, if_neg (by rw [hm]; simp)] at he
   simp [hv, hxn] at he
   omega
  have e2 : ansK d ⟨5, xv, xt, xs, xa, xc, lx⟩ most = (fullC most (spans xa.toNat (xn / 64)).length, fullD most (spans xa.toNat (xn / 64)).length, []) := by
   simp only [ansK, he, cntO, fullC, fullD, hxn]
   by_cases hml : most < ((spans xa.toNat (xn / 64)).length : Int) <;> simp [hml]
  have e3 : didK d ⟨5, xv, xt, xs, xa, xc, lx⟩ most = putK d xv (x.1, putL xa.toNat lx x.2 ((spans xa.toNat (xn / 64)).take most.toNat)) := by simp [didK, volD, hv, dataO, cntO, hxn]
  rw [e2, e3]
  exact part_call _ _ _ _ _ _ _ _ _ _ lx hxn base D d _ w h hbase hr hn he 95 rfl _ _ [] (fun _ _ => rfl) fun W g => (put_5 _ _ _ _ _ _ _ _ _ hn base D d W (h.gr g) (hb W g) x hv ha.1 ha.2 hq lx hxn (hr.gr g) hd.1 hd.2.1 hd.2.2 hfit).mono fun e w' hp => opPost_part hp
 ·obtain ⟨x, hv⟩ := errK_vol he (by simp) (by simp)
  simp only at hv
  have ha := hs.at_ (by simp)
  have hc := hs.cnt (by simp)
  simp only at ha hc
  have hfit : ¬ 4 * x.1 < xa + xc := fun hlt => by
   rw [errK, if_neg (by rw [hm]; simp)] at he
   simp [hv] at he
   omega
  have e2 : ansK d ⟨6, xv, xt, xs, xa, xc, lx⟩ most = (fullC most (spans xa.toNat xc.toNat).length, fullD most (spans xa.toNat xc.toNat).length, []) := by
   simp only [ansK, he, cntO, fullC, fullD]
   by_cases hml : most < ((spans xa.toNat xc.toNat).length : Int) <;> simp [hml]
  have e3 : didK d ⟨6, xv, xt, xs, xa, xc, lx⟩ most = putK d xv (x.1, putL xa.toNat (List.replicate (xc.toNat * 64) 0) x.2 ((spans xa.toNat xc.toNat).take most.toNat)) := by simp [didK, volD, hv, dataO, cntO, Nat.mul_comm]
  rw [e2, e3]
  exact part_call _ _ _ _ _ _ _ _ _ _ lx hxn base D d _ w h hbase hr hn he 95 rfl _ _ [] (fun _ _ => rfl) fun W g => (put_6 _ _ _ _ _ _ _ _ _ hn base D d W (h.gr g) (hb W g) x hv ha.1 ha.2 hc.1 hc.2 hfit).mono fun e w' hp => opPost_part hp
 ·obtain ⟨x, hv⟩ := errK_vol he (by simp) (by simp)
  simp only at hv
  have ha := hs.at_ (by simp)
  have hc := hs.cnt (by simp)
  simp only at ha hc
  have e2 : ansK d ⟨7, xv, xt, xs, xa, xc, lx⟩ most = (0, 0, []) := by simp [ansK, he]
  have e3 : didK d ⟨7, xv, xt, xs, xa, xc, lx⟩ most = putK d xv (x.1, dropF xa xc.toNat x.2) := by
   have e4 : ((xc.toNat : Nat) : Int) = xc := Int.toNat_of_nonneg (by omega)
   simp [didK, volD, hv, dropF, e4]
  rw [e2, e3]
  exact part_call _ _ _ _ _ _ _ _ _ _ lx hxn base D d _ w h hbase hr hn he 96 rfl 0 0 [] (fun _ _ => rfl) fun W g => (discard_any _ _ _ _ _ _ _ _ _ hn base D d W (h.gr g) (hb W g) x hv ha.1 ha.2 hc.1 hc.2).mono fun e w' hp => opPost_part hp
 ·have e2 : ansK d ⟨8, xv, xt, xs, xa, xc, lx⟩ most = (0, 0, []) := by simp [ansK, he]
  have e3 : didK d ⟨8, xv, xt, xs, xa, xc, lx⟩ most = d := by simp [didK]
  rw [e2, e3]
  exact part_none _ _ _ _ _ _ _ _ _ _ lx hxn base D d w h hbase hr hn he rfl
 ·obtain ⟨x, hv⟩ := errK_vol he (by simp) (by simp)
  simp only at hv
  have ha := hs.at_ (by simp)
  have hc := hs.cnt (by simp)
  simp only at ha hc
  have e2 : ansK d ⟨9, xv, xt, xs, xa, xc, lx⟩ most = (0, 0, (spans xa.toNat xc.toNat).flatMap fun s => cutK (blkM x.2 s.b) s) := by simp [ansK, he, readK, volD, hv]
  have e3 : didK d ⟨9, xv, xt, xs, xa, xc, lx⟩ most = d := by simp [didK]
  rw [e2, e3]
  exact part_call _ _ _ _ _ _ _ _ _ _ lx hxn base D d _ w h hbase hr hn he 97 rfl 0 0 _ (fun _ _ => rfl) fun W g => (read_any _ _ _ _ _ _ _ _ _ hn base D d W (h.gr g) x hv ha.1 ha.2 hc.1 hc.2).mono fun e w' hp => by
   obtain ⟨v, he', ho, hg⟩ := hp
   obtain ⟨A, c, rfl, _⟩ := ho.form bIs
   exact ⟨A, _, c, he', ho, (h.gr g).gr hg, hg.below.mono (hb W g), CK.gr hg⟩
set_option maxRecDepth 100000
set_option maxHeartbeats 4000000
def RPost (base R : Nat) (d : Dev) (code done : Int) (data : Byt) (w : World) (e : Ending) (w' : World) : Prop :=
 ∃ A n c, e = .returned (.agg #[.int .i64 code, .int .i64 done, .slice A n c]) ∧ OwnN bE w.heap.size w' (.slice A n c) data ∧ RefAt base w' R d ∧ Below base w w' ∧ RK w w'
theorem RefIn.setCell {base R : Nat} {W : World} {v : Value} {vf : Int → Value} {d : Dev} (h : RefIn base W R v vf d) (B o : Nat) (u : Value) {cs : Array Value} {t : TypeId} [hB : BlockAt W B cs t] (h1 : t ≠ 67) (h2 : t ≠ 64) (h3 : t ≠ 120) : RefIn base (W.setCell ⟨B, o, none⟩ u) R v vf d := by
 have hR : R ≠ B := fun e => by
  subst e
  have := h.blk.eq
  rw [hB.eq] at this
  cases this
  exact h1 rfl
 refine ⟨⟨(Below.heap_setCell W ⟨B, o, none⟩ u R hR).trans h.blk.eq⟩, h.own.set_ B o u h2, fun p hp => (h.vol p hp).keep fun b cs' f hb => Below.heap_setCell W ⟨B, o, none⟩ u b (fun e => ?_), h.bR, h.ok⟩
 subst e
 rw [hB.eq] at hb
 cases hb
 exact h3 rfl
theorem RK.new {w W : World} (k : RK w W) {B o : Nat} (hB : w.heap.size ≤ B) (u : Value) : RK w (W.setCell ⟨B, o, none⟩ u) := ⟨by have := k.size; simpa [World.setCell] using this, fun b ob hb hn => by
 have hl := (Array.getElem?_eq_some_iff.1 hb).1
 exact (Below.heap_setCell W ⟨B, o, none⟩ u b (by show b ≠ B; omega)).trans (k.keep b ob hb hn)⟩
theorem ans_ref {base : Nat} {W : World} {R : Nat} {v : Value} {vf : Int → Value} {d : Dev} (h : RefIn base W R v vf d) {B : Nat} {cs : Array Value} (hB : BlockAt W B cs 97) (c0 c1 c2 : Value) : RefAt base (((W.setCell ⟨B, 0, none⟩ c0).setCell ⟨B, 1, none⟩ c1).setCell ⟨B, 2, none⟩ c2) R d :=
 ⟨v, vf, ((h.setCell B 0 c0 (by decide) (by decide) (by decide)).setCell B 1 c1 (by decide) (by decide) (by decide)).setCell B 2 c2 (by decide) (by decide) (by decide)⟩
theorem ans_rk {w W : World} (h : RK w W) {B : Nat} (hB : w.heap.size ≤ B) (c0 c1 c2 : Value) : RK w (((W.setCell ⟨B, 0, none⟩ c0).setCell ⟨B, 1, none⟩ c1).setCell ⟨B, 2, none⟩ c2) := ((h.new hB c0).new hB c1).new hB c2
def RC (base R : Nat) (d : Dev) (W : World) (e : Ending) (w' : World) : Prop := e = .returned (.tuple #[]) ∧ RefAt base w' R d ∧ RK W w' ∧ Below base W w'
theorem RefIn.setSM {base R : Nat} {w W W2 : World} {g n c : Nat} {vf : Int → Value} {d : Dev} (h : RefIn base w R (.slice (some ⟨g, 0, none⟩) n c) vf d) (hg : Gr w W) {i : Nat} {p : Int × VolM} (hp : d[i]? = some p) (s : Int) (hg2 : Gr (W.setCell ⟨g, i * 3 + 1, none⟩ (.int .i64 s)) W2) (m : List (Int × Byt)) (u : Value) (hu : BlkS W2 u m) (hok : VolOk (s, m)) :
  RefIn base (W2.setCell ⟨g, i * 3 + 2, none⟩ u) R (.slice (some ⟨g, 0, none⟩) n c) (fun k => if k = p.1 then u else vf k) (putK d p.1 (s, m)) ∧ RK W (W2.setCell ⟨g, i * 3 + 2, none⟩ u) := by
 have H := h.gr hg
 obtain ⟨cs, hh⟩ : ∃ cs, W.heap[g]? = some (.cells cs 64 (0, 0)) := by
  rcases H.own.own.2 with ⟨e, _⟩ | ⟨b, cap, cur, e, _, hh, _⟩
  ·cases e
  ·cases e; exact ⟨_, hh⟩
 have hk := h.ok.keys p (List.mem_of_getElem? hp)
 have hset := putK_set h.ok.sort (y := (s, m)) (show d[i]? = some (p.1, p.2) from hp)
 have hrk1 : RK W (W.setCell ⟨g, i * 3 + 1, none⟩ (.int .i64 s)) := (RK.refl W).set_ g _ _ hh (.inl rfl)
 haveI : BlockAt W g cs 64 := ⟨hh⟩
 have hh2 : BlockAt W2 g (cs.setIfInBounds (i * 3 + 1) (.int .i64 s)) 64 := BlockAt.gr (inferInstance : BlockAt (W.setCell ⟨g, i * 3 + 1, none⟩ (.int .i64 s)) g _ _) hg2
 have hrk2 : RK W W2 := hrk1.trans (RK.gr hg2)
 have hrk : RK W (W2.setCell ⟨g, i * 3 + 2, none⟩ u) := hrk2.set_ g _ u hh2.eq (.inl rfl)
 have hrk3 : RK W2 (W2.setCell ⟨g, i * 3 + 2, none⟩ u) := (RK.refl W2).set_ g _ u hh2.eq (.inl rfl)
 have hil : i < d.length := (List.getElem?_eq_some_iff.1 hp).1
 refine ⟨⟨?_, ?_, fun q hq => ?_, h.bR, put_ok h.ok hk.1 hk.2 hok⟩, hrk⟩
 ·haveI := H.blk
  haveI : BNe R g := ⟨(H.neD rfl).symm⟩
  haveI : BlockAt W2 R _ _ := BlockAt.gr (inferInstance : BlockAt (W.setCell ⟨g, i * 3 + 1, none⟩ (.int .i64 s)) R _ _) hg2
  infer_instance
 ·have hs1 := H.own.store rvIs i 1 (rvF vf p) ⟨p.1, s, vf p.1⟩ (.int .i64 s) (by rw [List.getElem?_map, hp]; rfl) (by decide) rfl (h.vol p (List.mem_of_getElem? hp)).one
  have hs2 := (hs1.gr hg2).store rvIs i 2 ⟨p.1, s, vf p.1⟩ ⟨p.1, s, u⟩ u (by rw [List.getElem?_set_self (by rw [List.length_map]; exact hil)]) (by decide) rfl hu.one
  rw [List.set_set] at hs2
  have e : (d.map (rvF vf)).set i ⟨p.1, s, u⟩ = (putK d p.1 (s, m)).map (rvF fun k => if k = p.1 then u else vf k) := by
   rw [← hset]
   apply List.ext_getElem?
   intro j
   rw [List.getElem?_set, List.getElem?_map, List.getElem?_map, List.getElem?_set]
   by_cases hj : i = j
   ·subst hj
    simp [hil, rvF]
   ·simp only [hj, if_false]
    cases hq : d[j]? with
    | none => rfl
    | some q =>
     have hne : ¬ q.1 = p.1 := fun e => by
      have h1 := findN_at h.ok.sort (show d[i]? = some (p.1, p.2) from hp)
      have h2 := findN_at h.ok.sort (show d[j]? = some (q.1, q.2) from hq)
      rw [e, h1] at h2
      cases h2
      exact hj rfl
     simp [rvF, hne]
  rw [e] at hs2
  exact hs2
 ·rcases (mem_putK h.ok.sort q).1 hq with rfl | ⟨hq, hne⟩
  ·simp only [if_true]
   exact hrk3.blkS hu
  ·simp only [if_neg hne]
   exact hrk.blkS (H.vol q hq)
theorem stm_rc {base R : Nat} {W : World} {g n c : Nat} {vf : Int → Value} {d : Dev} (h : RefIn base W R (.slice (some ⟨g, 0, none⟩) n c) vf d) (hb : base ≤ g) {i : Nat} {p : Int × VolM} (hp : d[i]? = some p) (m : List (Int × Byt)) (hok : VolOk (p.2.1, m)) {e : Ending} {w' : World} (hst : StM W g (i * 3 + 2) m e w') (hbase : base ≤ W.heap.size) : RC base R (putK d p.1 (p.2.1, m)) W e w' := by
 obtain ⟨rfl, w1, u, hg, ho, rfl⟩ := hst
 have hr := h.setM hg hp m u ho.blkS hok
 refine ⟨rfl, ⟨_, _, hr⟩, ?_, (hg.below.mono hbase).setCell (p := ⟨g, i * 3 + 2, none⟩) hb u⟩
 have H := h.gr hg
 rcases H.own.own.2 with ⟨e, _⟩ | ⟨b, cap, cur, e, _, hh, _⟩
 ·cases e
 ·cases e
  exact (RK.gr hg).set_ g _ u hh (.inl rfl)
theorem vols_len {x : VolM} (h : VolOk x) : x.2.length ≤ 256 := by
 have h1 := h.s0
 have h2 := h.s1
 have hk : ∀ p ∈ x.2, 0 ≤ p.1 ∧ p.1 < 256 := fun p hp => by have := h.keys p hp; omega
 have hs := h.sort
 have : ∀ (l : List (Int × Byt)) (lo : Int), SortK l → (∀ p ∈ l, lo ≤ p.1 ∧ p.1 < 256) → lo ≤ 256 → (l.length : Int) ≤ 256 - lo := by
  intro l
  induction l with
  | nil => intro lo _ _ h; simp; omega
  | cons p r ih =>
   intro lo hs hk hlo
   have hp := hk p (.head _)
   have h9 := List.pairwise_cons.1 hs
   have := ih (p.1 + 1) h9.2 (fun q hq => ⟨by have := h9.1 q hq; omega, (hk q (.tail _ hq)).2⟩) (by omega)
   simp only [List.length_cons]
   omega
 have := this x.2 0 hs hk (by omega)
 omega
theorem wpStoreG {W : World} {ops : Array Oper} {rest : List Oper} {o : Oper} {a : Act} {Q : Exit → Act → World → Prop} {ty : TypeId} (hgd : o.guard = none) (x y : Operand) (ho : o.op = .store ty x y) (ad : Addr) (u : Value) (hx : a.eval x = .pointer (some ad)) (hy : a.eval y = u) (W' : World) (hrun : (storeVar ty ad u).run Tryz.prog W = .ok () W')
  (h : wpList Tryz.prog ops Q rest (a.put o.dst undef) W') : wpList Tryz.prog ops Q (o :: rest) a W := by
 refine wpList_plain hgd fun K' hK' => ?_
 unfold Oper.wp execOp
 simp only [ho, hx, hy, Instr.storeAt, Instr.sureAddr, Sem.run_bind, Sem.run_pure, Result.andThen_ok, hrun]
 exact hK' _ _ h
theorem wrapJ (n : Nat) (h : n < 9223372036854775808) : IntKind.i64.wrap (n : Int) = (n : Int) := by
 have hm : (n : Int) % 18446744073709551616 = n := by omega
 unfold IntKind.wrap
 simp [IntKind.bits, IntKind.signed, hm]
 omega
theorem froV {W : World} {g : Nat} (h : ∃ cs, W.heap[g]? = some (.cells cs 64 (0, 0))) (o : Nat) : W.frozen? ⟨g, o, none⟩ = false := by
 obtain ⟨cs, h⟩ := h
 simp [World.frozen?, h]
theorem del_rows (vf : Int → Value) (d : Dev) (n : Int) (i : Nat) (x : VolM) (j : Nat) (hs : SortK d) (h : d[i]? = some (n, x)) (hj : j = i + 1) : (delK d n).map (rvF vf) = (d.map (rvF vf)).take i ++ (d.map (rvF vf)).drop j := by
 subst hj
 rw [delK_at hs h, List.map_append, ← List.map_take, ← List.map_drop]
theorem add_rc {base R : Nat} {v : Value} {vf : Int → Value} {d : Dev} {n s : Int} {u : Value} {m : List (Int × Byt)} {W : World} (h : RefIn base W R v vf d) (hu : BlkS W u m) (hn : getK d n = none) (hl : d.length ≤ 1000000) (hbase : base ≤ W.heap.size) (hok : DevOk (putK d n (s, m))) :
  Calls Tryz.prog 124 #[.pointer (some ⟨R, 0, none⟩), .agg #[.int .u64 n, .int .i64 s, u]] W (RC base R (putK d n (s, m)) W) := by
 refine (radd_any base R v vf d n s u m W h hu hn hl).mono ?_
 rintro _ _ ⟨rfl, w1, v', hg, ho, rfl⟩
 obtain ⟨h1, h2⟩ := h.setV hg hbase ho (fun p hp => by
  rcases (mem_putK h.ok.sort p).1 hp with rfl | ⟨hp, hne⟩
  ·simp only [if_true]; exact hu.gr hg
  ·simp only [if_neg hne]; exact (h.vol p hp).gr hg) hok
 exact ⟨rfl, ⟨v', _, h1⟩, h2, (hg.below.mono hbase).setCell (p := ⟨R, 0, none⟩) h.bR v'⟩
theorem rpart_ref (xk xv xt xs xa xc most : Int) (xD : Option Addr) (xn xq : Nat) (lx : Byt) (hxn : lx.length = xn) (base R : Nat) (d : Dev) (w : World) (h : RefAt base w R d) (hbase : base ≤ w.heap.size) (hl : d.length ≤ 1000000) (hn : xn ≤ 1000000) (v0 : 0 ≤ xv) (t0 : 0 ≤ xt) (k : Int) (he : errK d ⟨xk, xv, xt, xs, xa, xc, lx⟩ = k) (hk : k = 2 ∨ k = 5 ∨ k = 6 ∨ k = 7) :
  Calls Tryz.prog 98 #[.pointer (some ⟨R, 0, none⟩), .agg #[.int .i64 xk, .int .u64 xv, .int .u64 xt, .int .i64 xs, .int .i64 xa, .int .i64 xc, .slice xD xn xq], .int .i64 most] w (RPost base R d k 0 [] w) := by
 have HR := Lib.hid (fun W (g : Gr w W) => rrefused_any xk xv xt xs xa xc xD xn xq lx hxn base R d W (h.gr g) hl hn v0 t0)
 rw [he] at HR
 have HH := Lib.hid h
 clear h he
 rcases hk with rfl | rfl | rfl | rfl
 all_goals
  go_enter Tryz.func98, Tryz.ntmps98
  go_wp2_with ((go_at_call 123; ((with_reducible refine (HR.out _ gri).mono ?_); rintro _ _ ⟨rfl, g1, rfl⟩)))
  obtain ⟨v, vf, hd3⟩ := HH.out
  have gW : Gr w (grown _ g1) := gri
  have bA := (inferInstance : BlockAt (grown _ g1) (w.heap.size + 1) #[.int .i64 0, .int .i64 0, .slice none 0 0] 97)
  exact bodyPost_ret (run_resCell1 rfl _ _ _ _ rfl (ans_block bA _ _ _) Tryz.underlying97 rfl (by kernel_rfl)) rfl ⟨none, 0, 0, rfl, OwnN.nil _ _, ans_ref (hd3.gr gW) bA _ _ _, ans_below (gW.below.mono hbase) (by omega) _ _ _, ans_rk (RK.gr gW) (by omega) _ _ _⟩
theorem rpart_8 (xv xt xs xa xc most : Int) (xD : Option Addr) (xn xq : Nat) (lx : Byt) (hxn : lx.length = xn) (base R : Nat) (d : Dev) (w : World) (h : RefAt base w R d) (hbase : base ≤ w.heap.size) (hl : d.length ≤ 1000000) (hn : xn ≤ 1000000) (v0 : 0 ≤ xv) (t0 : 0 ≤ xt) (he : errK d ⟨8, xv, xt, xs, xa, xc, lx⟩ = 0) :
  Calls Tryz.prog 98 #[.pointer (some ⟨R, 0, none⟩), .agg #[.int .i64 8, .int .u64 xv, .int .u64 xt, .int .i64 xs, .int .i64 xa, .int .i64 xc, .slice xD xn xq], .int .i64 most] w (RPost base R d 0 0 [] w) := by
 have HR := Lib.hid (fun W (g : Gr w W) => rrefused_any 8 xv xt xs xa xc xD xn xq lx hxn base R d W (h.gr g) hl hn v0 t0)
 have HF := Lib.hid (fun W (g : Gr w W) => rfind_any base R d xv W (h.gr g) hl)
 rw [he] at HR
 have HH := Lib.hid h
 clear h he
 generalize idxK d xv = ix at *
 go_enter Tryz.func98, Tryz.ntmps98
 go_wp2_with (first | (go_at_call 123; ((with_reducible refine (HR.out _ gri).mono ?_); rintro _ _ ⟨rfl, g1, rfl⟩)) | (go_at_call 24; ((with_reducible refine (HF.out _ gri).mono ?_); rintro _ _ ⟨rfl, g2, rfl⟩)))
 obtain ⟨v, vf, hd3⟩ := HH.out
 have gW : Gr w (grown _ g2) := gri
 have bA := (inferInstance : BlockAt (grown _ g2) (w.heap.size + 1) #[.int .i64 0, .int .i64 0, .slice none 0 0] 97)
 exact bodyPost_ret (run_resCell1 rfl _ _ _ _ rfl (ans_block bA _ _ _) Tryz.underlying97 rfl (by kernel_rfl)) rfl ⟨none, 0, 0, rfl, OwnN.nil _ _, ans_ref (hd3.gr gW) bA _ _ _, ans_below (gW.below.mono hbase) (by omega) _ _ _, ans_rk (RK.gr gW) (by omega) _ _ _⟩
section
variable {P : Program} {ops : Array Oper} {W : World} {Q : Act → Prop} {a : Act} {o : Oper} {rest : List Oper}
theorem wpCalm_load {ty : TypeId} {x : Operand} {B : Nat} {cs : Array Value} {t : TypeId} {d : TypeDesc} (hg : o.guard = none) (ho : o.op = .load ty x) (hx : a.eval x = .pointer (some ⟨B, 0, none⟩)) (hB : BlockAt W B cs t) (hu : P.underlying ty = some d) (hd : (match d with | .struct _ | .array _ _ => true | _ => false) = true) (hi : (P.info? ty).map (·.size) = some cs.size)
  (h : wpCalm P ops W Q rest (a.put o.dst (.agg cs))) : wpCalm P ops W Q (o :: rest) a := by
 unfold wpCalm
 rw [if_pos (by simp [Region.wanted, hg])]
 refine ⟨.agg cs, fun g => ?_, h⟩
 have hB2 : BlockAt (grown W g) B cs t := inferInstance
 unfold calmAt execOp
 simp only [ho, hx, Instr.loadAt, Instr.sureAddr, Sem.run_bind, Sem.run_pure, Result.andThen_ok, run_loadVar_row (grown W g) B t ty cs (0, 0) d hB2.eq hu hd hi]
 simp [calmUpon]
end
theorem run_storeB {W : World} {B : Nat} {zs cs : Array Value} (hB : BlockAt W B zs 88) (hz : zs.size = 256) (hc : CellRow 256 cs) : (storeVar 88 ⟨B, 0, none⟩ (.agg cs)).run Tryz.prog W = .ok () (W.setRow B cs) := by
 have := run_storeCells_from (P := Tryz.prog) B 88 cs.toList 0 zs W hB.eq (by simp [hz, hc.size]) hc.one
 have hi := infoBlk
 cases hq : Tryz.prog.info? 88 with
 | none => simp [hq] at hi
 | some i =>
  have hs : 256 = i.size := by simp [hq] at hi; omega
  have e : (Value.agg cs).cells = cs := rfl
  have hs2 := hc.size
  simp [storeVar, sizeOf, typeInfo, hq, e, ← hs, hs2, this]
theorem effAt_storeB {w : World} {o : Oper} {a : Act} {K : Value → World → Prop} {x y : Operand} {B : Nat} {zs cs : Array Value} (ho : o.op = .store 88 x y) (hx : a.eval x = .pointer (some ⟨B, 0, none⟩)) (hy : a.eval y = .agg cs) (hB : BlockAt w B zs 88) (hz : zs.size = 256) (hc : CellRow 256 cs) (h : K undef (w.setRow B cs)) : EffAt Tryz.prog o a w K := by
 unfold EffAt execOp
 simp only [ho, hx, hy, Instr.storeAt, Instr.sureAddr, Sem.run_bind, Sem.run_pure, Result.andThen_ok, run_storeB hB hz hc, effUpon]
 exact h
theorem setRow_gr {w0 W : World} {B : Nat} {cs : Array Value} (g : Gr w0 W) (hB : w0.heap.size ≤ B) : Gr w0 (W.setRow B cs) := by
 refine Gr.of (g.below.trans ⟨rfl, rfl, rfl, by simp [World.setRow], fun k hk => ?_⟩)
 simp only [World.setRow, Array.getElem?_modify]
 rw [if_neg (by omega)]
theorem setRow_block {W : World} {B : Nat} {zs cs : Array Value} {T : TypeId} (h : BlockAt W B zs T) : BlockAt (W.setRow B cs) B cs T := ⟨setRow_heap W B zs _ T _ h.eq⟩
section
variable {P : Program} {md : Region.Mode} {ops : Array Oper} {W : World} {L : Blocks → Act → Prop} {f : Nat} {listed : Array Bool} {bs : Blocks} {a : Act}
theorem fe_mixAllocD {o : Oper} {d : Tmp} {T : TypeId} {z : Value} (i : Nat) (hr : Region.ready md ops listed = [i]) (ho : ops[i]? = some o) (hg : o.guard = none) (hd : o.dst = some d) (hop : o.op = .alloc T) (hz : ∀ w, (zeroValue T).run P w = .ok z w)
  (h : ∀ b, W.heap.size ≤ b → (∀ x ∈ bs, x.1 ≠ b) → feAny P md ops W (MixWorld W) L f (listed.setIfInBounds i true) ((b, z.cells, T) :: bs) (a.put (some d) (.pointer (some ⟨b, 0, none⟩)))) : feAny P md ops W (MixWorld W) L (f + 1) listed bs a :=
 fe_mixAlloc i hr ho hg hop hz (by rw [hd]; exact h)
theorem fe_mixStoreN {o : Oper} {T ty : TypeId} {x y : Operand} {b : Nat} {zs : Array Value} (i : Nat) (bs' : Blocks) (cs : Array Value) (hr : Region.ready md ops listed = [i]) (ho : ops[i]? = some o) (hg : o.guard = none) (hd : o.dst = none) (hop : o.op = .store ty x y)
  (hx : a.eval x = .pointer (some ⟨b, 0, none⟩)) (hb : (b, zs, T) ∈ bs) (hW : W.heap.size ≤ b) (hy : (a.eval y).cells = cs) (hi : (P.info? ty).map (·.size) = some cs.size) (hold : zs.size = cs.size) (h1 : cs.toList.all (·.oneCell') = true)
  (hp : ∀ z ∈ bs', z = (b, cs, T) ∨ (z ∈ bs ∧ z.1 ≠ b))
  (h : feAny P md ops W (MixWorld W) L f (listed.setIfInBounds i true) bs' a) : feAny P md ops W (MixWorld W) L (f + 1) listed bs a :=
 fe_mixStore i bs' cs hr ho hg hop hx hb hW hy hi hold h1 hp (by rw [hd]; exact h)
theorem fe_mixCalmD {o : Oper} {d : Tmp} (i : Nat) (v : Value) (hr : Region.ready md ops listed = [i]) (ho : ops[i]? = some o) (hg : o.guard = none) (hd : o.dst = some d) (hc : ∀ g : Growth W, calmAt P o a (grown W g) v)
  (h : feAny P md ops W (MixWorld W) L f (listed.setIfInBounds i true) bs (a.put (some d) v)) : feAny P md ops W (MixWorld W) L (f + 1) listed bs a :=
 fe_mixCalm i v hr ho hg hc (by rw [hd]; exact h)
end
theorem CellsN.rk {α : Type} {e : EK α} {W W' : World} {g p : Nat} {xs : List α} {cs : Array Value} {t : TypeId} {f : Nat × Nat} (h : CellsN e W g p xs) (hh : W.heap[g]? = some (.cells cs t f)) (ht : ¬ refT t) (k : RK W W') : CellsN e W' g p xs := fun j x hj i u hu => by
 rw [← h j x hj i u hu]
 have := k.keep g _ hh (fun cs' t' f' e => by cases e; exact ht)
 simp [World.cell?, this, hh]
theorem makeQ (q : Nat) (hq : q ≤ 6400000) (W : World) : (Instr.makeSlice 41 (.int .i64 (q : Int)) (.int .i64 (q : Int))).run Tryz.prog W = .ok (.slice (some ⟨W.heap.size, 0, none⟩) q q) (W.alloc (.cells (bkC (List.replicate q 0)) 5)) := by
 obtain ⟨i0, hi, hz0, hz2, hz3⟩ := info_parts bIs.hE
 have hi2 : i0.size = 1 := hz2
 have hi3 : i0.bytes = 1 := hz3
 have h := run_makeSlice (P := Tryz.prog) W 41 5 i0 (.int .u8 0) Tryz.underlying41 hi hz0 .i64 .i64 (q : Int) (q : Int) (by omega) (Int.le_refl _) (by rw [hi2]; omega) (by rw [hi3]; omega) (by omega)
 rw [h, hi2, Int.toNat_natCast, Nat.mul_one, show (Value.int .u8 0).cells = #[.int .u8 0] from rfl, madeB]
set_option maxRecDepth 100000
set_option maxHeartbeats 4000000
theorem rpart_1 (xv xt xs xa xc most : Int) (xD : Option Addr) (xn xq : Nat) (lx : Byt) (hxn : lx.length = xn) (base R : Nat) (d : Dev) (w : World) (h : RefAt base w R d) (hbase : base ≤ w.heap.size) (hl : d.length ≤ 1000000) (hn : xn ≤ 1000000) (v0 : 0 ≤ xv) (t0 : 0 ≤ xt) (he : errK d ⟨1, xv, xt, xs, xa, xc, lx⟩ = 0) (hg : getK d xv = none) (hok : DevOk (putK d xv (xs, []))) :
  Calls Tryz.prog 98 #[.pointer (some ⟨R, 0, none⟩), .agg #[.int .i64 1, .int .u64 xv, .int .u64 xt, .int .i64 xs, .int .i64 xa, .int .i64 xc, .slice xD xn xq], .int .i64 most] w (RPost base R (putK d xv (xs, [])) 0 0 [] w) := by
 have HR := Lib.hid (fun W (g : Gr w W) => rrefused_any 1 xv xt xs xa xc xD xn xq lx hxn base R d W (h.gr g) hl hn v0 t0)
 have HF := Lib.hid (fun W (g : Gr w W) => rfind_any base R d xv W (h.gr g) hl)
 rw [he] at HR
 obtain ⟨v, vf, hI⟩ := h
 have HI := Lib.hid hI
 have HB := fun W (g : Gr w W) => Nat.le_trans hbase g.below.size
 have HA := Lib.hid (fun W (g : Gr w W) => add_rc (s := xs) (HI.out.gr g) (BlkS.nil W) hg hl (HB W g) hok)
 rw [idx_no hg] at HF
 clear hI he hg hok
 go_enter Tryz.func98, Tryz.ntmps98
 go_wp2_with (first | (go_at_call 123; ((with_reducible refine (HR.out _ gri).mono ?_); rintro _ _ ⟨rfl, g1, rfl⟩)) | (go_at_call 24; ((with_reducible refine (HF.out _ gri).mono ?_); rintro _ _ ⟨rfl, g2, rfl⟩)) | (go_at_call 124; ((with_reducible refine (HA.out _ gri).mono ?_); rintro _ W3 ⟨rfl, hr3, hk3, hb3⟩; have b8 := hk3.block (inferInstance : BlockAt _ (grown _ g1).heap.size #[.int .i64 0, .int .i64 0, .slice none 0 0] 97) (by unfold refT; decide); have b6 := hk3.block (inferInstance : BlockAt _ (w.heap.size + 1) #[.int .i64 0, .int .i64 0, .slice none 0 0] 97) (by unfold refT; decide); haveI := b8; haveI := b6; haveI := b8.old; haveI := b6.old; have p0 : W3.cell? ⟨(grown _ g1).heap.size, 0, none⟩ = some (.int .i64 0) := (@block_cells _ _ 0 _ _ b8).trans rfl; have p1 : W3.cell? ⟨(grown _ g1).heap.size, 1, none⟩ = some (.int .i64 0) := (@block_cells _ _ 1 _ _ b8).trans rfl; have p2 : W3.cell? ⟨(grown _ g1).heap.size, 2, none⟩ = some (.slice none 0 0) := (@block_cells _ _ 2 _ _ b8).trans rfl; have q0 : W3.cell? ⟨w.heap.size + 1, 0, none⟩ = some (.int .i64 0) := (@block_cells _ _ 0 _ _ b6).trans rfl; have q1 : W3.cell? ⟨w.heap.size + 1, 1, none⟩ = some (.int .i64 0) := (@block_cells _ _ 1 _ _ b6).trans rfl; have q2 : W3.cell? ⟨w.heap.size + 1, 2, none⟩ = some (.slice none 0 0) := (@block_cells _ _ 2 _ _ b6).trans rfl; have fz : ∀ o, W3.frozen? ⟨w.heap.size + 1, o, none⟩ = false := fun o => @block_frozen _ _ o _ _ b6; have hw3 : RK w W3 := (RK.gr gri).trans hk3; have hb4 : Below base w W3 := ((show Gr w _ from gri).below.mono hbase).trans hb3; have HW3 := Lib.hid hw3; have HB4 := Lib.hid hb4; have HR3 := Lib.hid hr3; clear hw3 hb4 hr3 hk3 hb3)))
 obtain ⟨v3, vf3, hd3⟩ := HR3.out
 exact bodyPost_ret (run_resCell1 rfl _ _ _ _ rfl (ans_block b6 _ _ _) Tryz.underlying97 rfl (by kernel_rfl)) rfl ⟨none, 0, 0, rfl, OwnN.nil _ _, ans_ref hd3 b6 _ _ _, ans_below HB4.out (by omega) _ _ _, ans_rk HW3.out (by omega) _ _ _⟩
theorem rpart_2 (xv xt xs xa xc most : Int) (xD : Option Addr) (xn xq : Nat) (lx : Byt) (hxn : lx.length = xn) (base R : Nat) (d : Dev) (w : World) (h : RefAt base w R d) (hbase : base ≤ w.heap.size) (hl : d.length ≤ 1000000) (hn : xn ≤ 1000000) (v0 : 0 ≤ xv) (t0 : 0 ≤ xt) (he : errK d ⟨2, xv, xt, xs, xa, xc, lx⟩ = 0) (x : VolM) (hx : getK d xv = some x) :
  Calls Tryz.prog 98 #[.pointer (some ⟨R, 0, none⟩), .agg #[.int .i64 2, .int .u64 xv, .int .u64 xt, .int .i64 xs, .int .i64 xa, .int .i64 xc, .slice xD xn xq], .int .i64 most] w (RPost base R (delK d xv) 0 0 [] w) := by
 have HR := Lib.hid (fun W (g : Gr w W) => rrefused_any 2 xv xt xs xa xc xD xn xq lx hxn base R d W (h.gr g) hl hn v0 t0)
 have HF := Lib.hid (fun W (g : Gr w W) => rfind_any base R d xv W (h.gr g) hl)
 rw [he] at HR
 obtain ⟨v, vf, hI⟩ := h
 have HI := Lib.hid hI
 have HB := fun W (g : Gr w W) => Nat.le_trans hbase g.below.size
 obtain ⟨i, hi, hdi, hil⟩ := idx_get hx
 rw [hi] at HF
 obtain ⟨g, c, rfl, hbg, hgl, hne, hc1, hc2, hty, hcl⟩ := hI.form (by rintro rfl; simp at hil)
 obtain ⟨c0, c1, c2⟩ := hcl i _ hdi
 simp only at c0 c1 c2
 rw [Nat.add_zero] at c0
 have x0 : w.cell? ⟨R, 0, none⟩ = some (.slice (some ⟨g, 0, none⟩) d.length c) := (@block_cells _ _ 0 _ _ hI.blk).trans rfl
 haveI := hI.blk
 haveI : Old R w := hI.blk.old
 haveI : Old g w := ⟨hgl⟩
 have HDI := Lib.hid hdi
 have HX := Lib.hid hx
 have HV := Lib.hid (hI.vol _ (List.mem_of_getElem? hdi))
 obtain ⟨N, hN⟩ : ∃ N, N = d.length := ⟨_, rfl⟩
 rw [← hN] at x0 hil hc1
 rw [← hN] at HI
 have HN := Lib.hid hN
 have HL := Lib.hid hl
 clear hcl hdi hi hI he hx hN hl
 go_enter Tryz.func98, Tryz.ntmps98
 go_wp2_with (first | (go_at_call 123; ((with_reducible refine (HR.out _ gri).mono ?_); rintro _ _ ⟨rfl, g1, rfl⟩)) | (go_at_call 24; ((with_reducible refine (HF.out _ gri).mono ?_); rintro _ _ ⟨rfl, g2, rfl⟩)))
 obtain ⟨A0, hA0⟩ : ∃ A0, A0 = (grown _ g1).heap.size := ⟨_, rfl⟩
 have hA1 : w.heap.size + 1 < A0 := by
  rw [hA0]
  exact (inferInstance : Old (w.heap.size + 1) (grown _ g1)).lt
 obtain ⟨W5, hW5⟩ : ∃ W5, W5 = grown _ g2 := ⟨_, rfl⟩
 have b8 : BlockAt W5 A0 #[.int .i64 0, .int .i64 0, .slice none 0 0] 97 := by
  rw [hW5, hA0]
  infer_instance
 have b6 : BlockAt W5 (w.heap.size + 1) #[.int .i64 0, .int .i64 0, .slice none 0 0] 97 := by
  rw [hW5]
  infer_instance
 have b4 : BlockAt W5 w.heap.size #[.int .i64 2, .int .u64 xv, .int .u64 xt, .int .i64 xs, .int .i64 xa, .int .i64 xc, .slice xD xn xq] 43 := by
  rw [hW5]
  infer_instance
 have g5 : Gr w W5 := by
  rw [hW5]
  exact gri
 rw [← hW5]
 try rw [← hA0]
 clear hW5 hA0
 haveI := grc_of g5
 haveI := from_of g5
 have y0 : W5.cell? ⟨R, 0, none⟩ = some (.slice (some ⟨g, 0, none⟩) N c) := (g5.below.cell (p := ⟨R, 0, none⟩) (Old.lt (b := R) (W := w))).trans x0
 have y1 : W5.frozen? ⟨R, 0, none⟩ = false := @block_frozen _ _ 0 _ _ (HI.out.blk.gr g5)
 have z0 : W5.cell? ⟨g, i * 3, none⟩ = some (.int .u64 xv) := (g5.below.cell (p := ⟨g, i * 3, none⟩) (Old.lt (b := g) (W := w))).trans c0
 have z1 : W5.cell? ⟨g, i * 3 + 1, none⟩ = some (.int .i64 x.1) := (g5.below.cell (p := ⟨g, i * 3 + 1, none⟩) (Old.lt (b := g) (W := w))).trans c1
 have z2 : W5.cell? ⟨g, i * 3 + 2, none⟩ = some (vf xv) := (g5.below.cell (p := ⟨g, i * 3 + 2, none⟩) (Old.lt (b := g) (W := w))).trans c2
 have zf : ∀ o, W5.frozen? ⟨g, o, none⟩ = false := fun o => gr_frozen g5 (Old.lt (b := g) (W := w)) (froV hty o)
 haveI : Old R W5 := old_of_cell y0
 haveI : Old g W5 := old_of_cell z0
 haveI := b4
 haveI := b4.old
 have o0 : W5.cell? ⟨w.heap.size, 0, none⟩ = some (.int .i64 2) := (@block_cells _ _ 0 _ _ b4).trans rfl
 have o1 : W5.cell? ⟨w.heap.size, 1, none⟩ = some (.int .u64 xv) := (@block_cells _ _ 1 _ _ b4).trans rfl
 have o2 : W5.cell? ⟨w.heap.size, 2, none⟩ = some (.int .u64 xt) := (@block_cells _ _ 2 _ _ b4).trans rfl
 have o3 : W5.cell? ⟨w.heap.size, 3, none⟩ = some (.int .i64 xs) := (@block_cells _ _ 3 _ _ b4).trans rfl
 have o4 : W5.cell? ⟨w.heap.size, 4, none⟩ = some (.int .i64 xa) := (@block_cells _ _ 4 _ _ b4).trans rfl
 have o5 : W5.cell? ⟨w.heap.size, 5, none⟩ = some (.int .i64 xc) := (@block_cells _ _ 5 _ _ b4).trans rfl
 have o6 : W5.cell? ⟨w.heap.size, 6, none⟩ = some (.slice xD xn xq) := (@block_cells _ _ 6 _ _ b4).trans rfl
 obtain ⟨j, hj⟩ : ∃ j, j = i + 1 := ⟨_, rfl⟩
 have e1 : (i : Int) + 1 = (j : Int) := by omega
 have hjN : j ≤ N := by omega
 have hN9 : N ≤ 1000000 := by have := HL.out; have := HN.out; omega
 have hsl := fun W => sliceTo (some ⟨g, 0, none⟩) N c i (by omega) hc1 W
 have hsf := fun W => sliceFrom (some ⟨g, 0, none⟩) N c j (by omega) hc1 W
 have HRW := Lib.hid (HI.out.row)
 have HTK : Hid (((d.map (rvF vf)).take i).length = i) := Lib.hid (by have := HN.out; simp; omega)
 have HDK : Hid (((d.map (rvF vf)).drop j).length = N - j) := Lib.hid (by have := HN.out; simp; omega)
 have hw1 : IntKind.i64.wrap (j : Int) = (j : Int) := wrapJ j (by omega)
 have HJ := Lib.hid hj
 clear hj
 refine wp_region_treeT (inCls_ghost _) (Cls.none _) ⟨Gr.of ((Below.refl _ _).drew), trivial⟩ [0, 1, 2, 3, 4, 5, 6, 8, 9, 10, 11, 12, 13, 14] 2 16 (by kernel_rfl) (by kernel_rfl) ?_
 simp only [pick, List.drop_succ_cons, List.drop_zero, List.take_succ_cons, List.take_zero, List.nil_append, List.cons_append]
 repeat (refine wpCalm_step (fun K hK => ?_); go_simp; first | (refine hK _ ?_; clear hK K) | (apply Exists.intro; refine ⟨fun _ => ?_, hK _ ?_⟩; (skip); clear hK K))
 refine wpCalm_nil ?_
 refine ft_effD 7 (by kernel_rfl) (by omega) rfl rfl rfl fun w4 hw4 => effAt_append_x rvIs _ _ rfl rfl (OwnN.nil W5.heap.size _) (some ⟨g, 0, none⟩) ((d.map (rvF vf)).take i) i c HTK.out rfl (fun e => by cases e) ((HRW.out.gr (g5.trans hw4.1)).take i) (by rw [HTK.out, List.length_nil]; omega) hw4.1.below.size fun v2 W2 h2 => ⟨⟨fun w' => OwnN rvE W5.heap.size w' v2 ((d.map (rvF vf)).take i), fun a b h g => h.gr g⟩, ⟨hw4.1.trans_below h2.below, by have := h2.own; rwa [List.nil_append] at this⟩, ?_⟩
 clear h2 W2 hw4 w4
 simp only [Act.put, List.setIfInBounds_toArray, List.set_cons_zero, List.set_cons_succ]
 refine ft_effD 15 (by kernel_rfl) (by omega) rfl rfl rfl fun w4 hw4 => effAt_append_x rvIs _ _ rfl rfl hw4.2 (fromV (some ⟨g, 0, none⟩) j c) ((d.map (rvF vf)).drop j) (N - j) (c - j) HDK.out rfl (fromV_none (fun e => by cases e)) ((HRW.out.fromV_ j c (by have := HN.out; simp; omega) (by have := HN.out; simp; omega)).gr (g5.trans hw4.1)) (by rw [HDK.out, HTK.out]; omega) hw4.1.below.size fun v3 W3 h3 => ⟨⟨fun w' => OwnN rvE W5.heap.size w' v3 ((d.map (rvF vf)).take i ++ (d.map (rvF vf)).drop j), fun a b h g => h.gr g⟩, ⟨hw4.1.trans_below h3.below, h3.own⟩, ?_⟩
 clear h3 W3 hw4 w4
 simp only [Act.put, List.setIfInBounds_toArray, List.set_cons_zero, List.set_cons_succ]
 refine ft_end ⟨by kernel_rfl, fun w9 hw9 => ?_⟩
 try simp only [List.drop_succ_cons, List.drop_zero]
 obtain ⟨hg9, ho9⟩ := hw9
 have hE := del_rows vf d xv i x j HI.out.ok.sort HDI.out HJ.out
 rw [← hE] at ho9
 obtain ⟨L9, hL9⟩ : ∃ L, L = (delK d xv).map (rvF vf) := ⟨_, rfl⟩
 rw [← hL9] at ho9
 obtain ⟨A6, c6, rfl, _, _, _⟩ := ho9.form rvIs
 have hS := (HI.out.gr g5).setV hg9 (HB W5 g5) (d' := delK d xv) (vf' := vf) (v' := .slice A6 L9.length c6) (show OwnN rvE W5.heap.size w9 (.slice A6 L9.length c6) ((delK d xv).map (rvF vf)) from by rw [← hL9]; exact ho9) (fun p hp => (HI.out.vol p (List.mem_filter.1 hp).1).gr (g5.trans hg9)) (del_ok HI.out.ok xv)
 have hb9 : Below base w (w9.setCell ⟨R, 0, none⟩ (.slice A6 L9.length c6)) := ((g5.trans hg9).below.mono hbase).setCell (p := ⟨R, 0, none⟩) HI.out.bR _
 obtain ⟨W8, hW8⟩ : ∃ W8, W8 = w9.setCell ⟨R, 0, none⟩ (.slice A6 L9.length c6) := ⟨_, rfl⟩
 rw [← hW8] at hS hb9
 have hr9 := (HI.out.blk.gr (g5.trans hg9))
 have r0 : w9.cell? ⟨R, 0, none⟩ = some (.slice (some ⟨g, 0, none⟩) N c) := (@block_cells _ _ 0 _ _ hr9).trans rfl
 have r1 : w9.frozen? ⟨R, 0, none⟩ = false := @block_frozen _ _ 0 _ _ hr9
 haveI : Old R w9 := hr9.old
 have k8 := hS.2.block b8 (by unfold refT; decide)
 have k6 := hS.2.block b6 (by unfold refT; decide)
 have HS := Lib.hid hS
 have HB9 := Lib.hid hb9
 have HG5 := Lib.hid g5
 have HRUN : Hid ((storeVar 65 ⟨R, 0, none⟩ (.slice A6 L9.length c6)).run Tryz.prog w9 = .ok () W8) := Lib.hid (by rw [hW8]; go_simp)
 clear hS hb9 hr9 ho9 hg9 hL9 hE y0 y1 z0 z1 z2 zf hW8
 haveI := k8
 haveI := k6
 haveI := k8.old
 haveI := k6.old
 have p0 : W8.cell? ⟨A0, 0, none⟩ = some (.int .i64 0) := (@block_cells _ _ 0 _ _ k8).trans rfl
 have p1 : W8.cell? ⟨A0, 1, none⟩ = some (.int .i64 0) := (@block_cells _ _ 1 _ _ k8).trans rfl
 have p2 : W8.cell? ⟨A0, 2, none⟩ = some (.slice none 0 0) := (@block_cells _ _ 2 _ _ k8).trans rfl
 have q0 : W8.cell? ⟨w.heap.size + 1, 0, none⟩ = some (.int .i64 0) := (@block_cells _ _ 0 _ _ k6).trans rfl
 have q1 : W8.cell? ⟨w.heap.size + 1, 1, none⟩ = some (.int .i64 0) := (@block_cells _ _ 1 _ _ k6).trans rfl
 have q2 : W8.cell? ⟨w.heap.size + 1, 2, none⟩ = some (.slice none 0 0) := (@block_cells _ _ 2 _ _ k6).trans rfl
 have fz : ∀ o, W8.frozen? ⟨w.heap.size + 1, o, none⟩ = false := fun o => @block_frozen _ _ o _ _ k6
 go_wp2_with (first | (refine wpStoreG rfl _ _ rfl ⟨R, 0, none⟩ _ rfl rfl W8 HRUN.out ?_))
 obtain ⟨v3, vf3, hd3⟩ : RefAt base W8 R (delK d xv) := ⟨_, _, HS.out.1⟩
 have hw3 : RK w W8 := (RK.gr HG5.out).trans HS.out.2
 exact bodyPost_ret (run_resCell1 rfl _ _ _ _ rfl (ans_block k6 _ _ _) Tryz.underlying97 rfl (by kernel_rfl)) rfl ⟨none, 0, 0, rfl, OwnN.nil _ _, ans_ref hd3 k6 _ _ _, ans_below HB9.out (by omega) _ _ _, ans_rk hw3 (by omega) _ _ _⟩
theorem rpart_7 (xv xt xs xa xc most : Int) (xD : Option Addr) (xn xq : Nat) (lx : Byt) (hxn : lx.length = xn) (base R : Nat) (d : Dev) (w : World) (h : RefAt base w R d) (hbase : base ≤ w.heap.size) (hl : d.length ≤ 1000000) (hn : xn ≤ 1000000) (v0 : 0 ≤ xv) (t0 : 0 ≤ xt) (he : errK d ⟨7, xv, xt, xs, xa, xc, lx⟩ = 0) (x : VolM) (hx : getK d xv = some x) (ha : 0 ≤ xa ∧ xa ≤ 1048576) (hc : 1 ≤ xc ∧ xc ≤ 1024) :
  Calls Tryz.prog 98 #[.pointer (some ⟨R, 0, none⟩), .agg #[.int .i64 7, .int .u64 xv, .int .u64 xt, .int .i64 xs, .int .i64 xa, .int .i64 xc, .slice xD xn xq], .int .i64 most] w (RPost base R (putK d xv (x.1, x.2.filter fun p => decide (p.1 < xa ∨ xa + xc ≤ p.1))) 0 0 [] w) := by
 have HR := Lib.hid (fun W (g : Gr w W) => rrefused_any 7 xv xt xs xa xc xD xn xq lx hxn base R d W (h.gr g) hl hn v0 t0)
 have HF := Lib.hid (fun W (g : Gr w W) => rfind_any base R d xv W (h.gr g) hl)
 rw [he] at HR
 obtain ⟨v, vf, hI⟩ := h
 have HI := Lib.hid hI
 have HB := fun W (g : Gr w W) => Nat.le_trans hbase g.below.size
 have hok := hI.ok.vols _ ((getK_mem hI.ok.sort).1 hx)
 obtain ⟨i, hi, hdi, hil⟩ := idx_get hx
 rw [hi] at HF
 obtain ⟨g, c, rfl, hbg, hgl, hne, hc1, hc2, hty, hcl⟩ := hI.form (by rintro rfl; simp at hil)
 obtain ⟨c0, c1, c2⟩ := hcl i _ hdi
 simp only at c0 c1 c2
 rw [Nat.add_zero] at c0
 have x0 : w.cell? ⟨R, 0, none⟩ = some (.slice (some ⟨g, 0, none⟩) d.length c) := (@block_cells _ _ 0 _ _ hI.blk).trans rfl
 haveI := hI.blk
 haveI : Old R w := hI.blk.old
 haveI : Old g w := ⟨hgl⟩
 have HDI := Lib.hid hdi
 have HX := Lib.hid hx
 have HV := Lib.hid (hI.vol _ (List.mem_of_getElem? hdi))
 obtain ⟨N, hN⟩ : ∃ N, N = d.length := ⟨_, rfl⟩
 rw [← hN] at x0 hil hc1
 rw [← hN] at HI
 have HN := Lib.hid hN
 have HL := Lib.hid hl
 clear hcl hdi hi hI he hx hN hl
 have HD : Hid (∀ W, Gr w W → Calls Tryz.prog 125 #[.pointer (some ⟨g, i * 3, none⟩), .int .i64 xa, .int .i64 (xa + xc)] W (RC base R (putK d xv (x.1, x.2.filter fun p => decide (p.1 < xa ∨ xa + xc ≤ p.1))) W)) := Lib.hid fun W hW => (rdrop_any g (i * 3) (vf xv) x.2 xa (xa + xc) W ((hW.below.cell (p := ⟨g, i * 3 + 2, none⟩) hgl).trans c2) (gr_frozen hW hgl (froV hty _)) (HV.out.gr hW) (Nat.le_trans (vols_len hok) (by omega))).mono fun e w' hst => stm_rc (p := (xv, x)) (HI.out.gr hW) hbg HDI.out _ (filter_ok hok _ _ hok.s0 hok.s1 fun p hp _ => (hok.keys p hp).2) hst (HB W hW)
 go_enter Tryz.func98, Tryz.ntmps98
 go_wp2_with (first | (go_at_call 123; ((with_reducible refine (HR.out _ gri).mono ?_); rintro _ _ ⟨rfl, g1, rfl⟩)) | (go_at_call 24; ((with_reducible refine (HF.out _ gri).mono ?_); rintro _ _ ⟨rfl, g2, rfl⟩)))
 obtain ⟨A0, hA0⟩ : ∃ A0, A0 = (grown _ g1).heap.size := ⟨_, rfl⟩
 have hA1 : w.heap.size + 1 < A0 := by
  rw [hA0]
  exact (inferInstance : Old (w.heap.size + 1) (grown _ g1)).lt
 obtain ⟨W5, hW5⟩ : ∃ W5, W5 = grown _ g2 := ⟨_, rfl⟩
 have b8 : BlockAt W5 A0 #[.int .i64 0, .int .i64 0, .slice none 0 0] 97 := by
  rw [hW5, hA0]
  infer_instance
 have b6 : BlockAt W5 (w.heap.size + 1) #[.int .i64 0, .int .i64 0, .slice none 0 0] 97 := by
  rw [hW5]
  infer_instance
 have b4 : BlockAt W5 w.heap.size #[.int .i64 7, .int .u64 xv, .int .u64 xt, .int .i64 xs, .int .i64 xa, .int .i64 xc, .slice xD xn xq] 43 := by
  rw [hW5]
  infer_instance
 have g5 : Gr w W5 := by
  rw [hW5]
  exact gri
 rw [← hW5]
 try rw [← hA0]
 clear hW5 hA0
 haveI := grc_of g5
 haveI := from_of g5
 haveI := b8
 haveI := b6
 haveI := b8.old
 haveI := b6.old
 have y0 : W5.cell? ⟨R, 0, none⟩ = some (.slice (some ⟨g, 0, none⟩) N c) := (g5.below.cell (p := ⟨R, 0, none⟩) (Old.lt (b := R) (W := w))).trans x0
 have y1 : W5.frozen? ⟨R, 0, none⟩ = false := @block_frozen _ _ 0 _ _ (HI.out.blk.gr g5)
 have z0 : W5.cell? ⟨g, i * 3, none⟩ = some (.int .u64 xv) := (g5.below.cell (p := ⟨g, i * 3, none⟩) (Old.lt (b := g) (W := w))).trans c0
 have z1 : W5.cell? ⟨g, i * 3 + 1, none⟩ = some (.int .i64 x.1) := (g5.below.cell (p := ⟨g, i * 3 + 1, none⟩) (Old.lt (b := g) (W := w))).trans c1
 have z2 : W5.cell? ⟨g, i * 3 + 2, none⟩ = some (vf xv) := (g5.below.cell (p := ⟨g, i * 3 + 2, none⟩) (Old.lt (b := g) (W := w))).trans c2
 have zf : ∀ o, W5.frozen? ⟨g, o, none⟩ = false := fun o => gr_frozen g5 (Old.lt (b := g) (W := w)) (froV hty o)
 haveI : Old R W5 := old_of_cell y0
 haveI : Old g W5 := old_of_cell z0
 haveI := b4
 haveI := b4.old
 have o0 : W5.cell? ⟨w.heap.size, 0, none⟩ = some (.int .i64 7) := (@block_cells _ _ 0 _ _ b4).trans rfl
 have o1 : W5.cell? ⟨w.heap.size, 1, none⟩ = some (.int .u64 xv) := (@block_cells _ _ 1 _ _ b4).trans rfl
 have o2 : W5.cell? ⟨w.heap.size, 2, none⟩ = some (.int .u64 xt) := (@block_cells _ _ 2 _ _ b4).trans rfl
 have o3 : W5.cell? ⟨w.heap.size, 3, none⟩ = some (.int .i64 xs) := (@block_cells _ _ 3 _ _ b4).trans rfl
 have o4 : W5.cell? ⟨w.heap.size, 4, none⟩ = some (.int .i64 xa) := (@block_cells _ _ 4 _ _ b4).trans rfl
 have o5 : W5.cell? ⟨w.heap.size, 5, none⟩ = some (.int .i64 xc) := (@block_cells _ _ 5 _ _ b4).trans rfl
 have o6 : W5.cell? ⟨w.heap.size, 6, none⟩ = some (.slice xD xn xq) := (@block_cells _ _ 6 _ _ b4).trans rfl
 refine wp_region_grow_tail 13 (by kernel_rfl) (by kernel_rfl) ?_
 simp only [List.take_succ_cons, List.take_zero, List.drop_succ_cons, List.drop_zero]
 repeat (go_big_quiet_step (fail))
 refine wpQuiet_nil ?_
 intro g6
 go_wp2_with (first | (go_at_call 125; ((with_reducible refine (HD.out _ gri).mono ?_); rintro _ W3 ⟨rfl, hr3, hk3, hb3⟩; have k8 := hk3.block (inferInstance : BlockAt _ A0 #[.int .i64 0, .int .i64 0, .slice none 0 0] 97) (by unfold refT; decide); have k6 := hk3.block (inferInstance : BlockAt _ (w.heap.size + 1) #[.int .i64 0, .int .i64 0, .slice none 0 0] 97) (by unfold refT; decide); haveI := k8; haveI := k6; haveI := k8.old; haveI := k6.old; have p0 : W3.cell? ⟨A0, 0, none⟩ = some (.int .i64 0) := (@block_cells _ _ 0 _ _ k8).trans rfl; have p1 : W3.cell? ⟨A0, 1, none⟩ = some (.int .i64 0) := (@block_cells _ _ 1 _ _ k8).trans rfl; have p2 : W3.cell? ⟨A0, 2, none⟩ = some (.slice none 0 0) := (@block_cells _ _ 2 _ _ k8).trans rfl; have q0 : W3.cell? ⟨w.heap.size + 1, 0, none⟩ = some (.int .i64 0) := (@block_cells _ _ 0 _ _ k6).trans rfl; have q1 : W3.cell? ⟨w.heap.size + 1, 1, none⟩ = some (.int .i64 0) := (@block_cells _ _ 1 _ _ k6).trans rfl; have q2 : W3.cell? ⟨w.heap.size + 1, 2, none⟩ = some (.slice none 0 0) := (@block_cells _ _ 2 _ _ k6).trans rfl; have fz : ∀ o, W3.frozen? ⟨w.heap.size + 1, o, none⟩ = false := fun o => @block_frozen _ _ o _ _ k6; have hw3 : RK w W3 := (RK.gr gri).trans hk3; have hb4 : Below base w W3 := ((show Gr w _ from gri).below.mono hbase).trans hb3; have HW3 := Lib.hid hw3; have HB4 := Lib.hid hb4; have HR3 := Lib.hid hr3; clear hw3 hb4 hr3 hk3 hb3)))
 obtain ⟨v3, vf3, hd3⟩ := HR3.out
 exact bodyPost_ret (run_resCell1 rfl _ _ _ _ rfl (ans_block k6 _ _ _) Tryz.underlying97 rfl (by kernel_rfl)) rfl ⟨none, 0, 0, rfl, OwnN.nil _ _, ans_ref hd3 k6 _ _ _, ans_below HB4.out (by omega) _ _ _, ans_rk HW3.out (by omega) _ _ _⟩
theorem rpart_3 (xv xt xs xa xc most : Int) (xD : Option Addr) (xn xq : Nat) (lx : Byt) (hxn : lx.length = xn) (base R : Nat) (d : Dev) (w : World) (h : RefAt base w R d) (hbase : base ≤ w.heap.size) (hl : d.length ≤ 1000000) (hn : xn ≤ 1000000) (v0 : 0 ≤ xv) (t0 : 0 ≤ xt) (he : errK d ⟨3, xv, xt, xs, xa, xc, lx⟩ = 0) (x : VolM) (hx : getK d xv = some x) (hs3 : 0 ≤ xs ∧ xs ≤ 256) :
  Calls Tryz.prog 98 #[.pointer (some ⟨R, 0, none⟩), .agg #[.int .i64 3, .int .u64 xv, .int .u64 xt, .int .i64 xs, .int .i64 xa, .int .i64 xc, .slice xD xn xq], .int .i64 most] w (RPost base R (putK d xv (xs, x.2.filter fun p => decide (p.1 < xs))) 0 0 [] w) := by
 have HR := Lib.hid (fun W (g : Gr w W) => rrefused_any 3 xv xt xs xa xc xD xn xq lx hxn base R d W (h.gr g) hl hn v0 t0)
 have HF := Lib.hid (fun W (g : Gr w W) => rfind_any base R d xv W (h.gr g) hl)
 rw [he] at HR
 obtain ⟨v, vf, hI⟩ := h
 have HI := Lib.hid hI
 have HB := fun W (g : Gr w W) => Nat.le_trans hbase g.below.size
 have hok := hI.ok.vols _ ((getK_mem hI.ok.sort).1 hx)
 obtain ⟨i, hi, hdi, hil⟩ := idx_get hx
 rw [hi] at HF
 obtain ⟨g, c, rfl, hbg, hgl, hne, hc1, hc2, hty, hcl⟩ := hI.form (by rintro rfl; simp at hil)
 obtain ⟨c0, c1, c2⟩ := hcl i _ hdi
 simp only at c0 c1 c2
 rw [Nat.add_zero] at c0
 have x0 : w.cell? ⟨R, 0, none⟩ = some (.slice (some ⟨g, 0, none⟩) d.length c) := (@block_cells _ _ 0 _ _ hI.blk).trans rfl
 haveI := hI.blk
 haveI : Old R w := hI.blk.old
 haveI : Old g w := ⟨hgl⟩
 have HDI := Lib.hid hdi
 have HX := Lib.hid hx
 have HV := Lib.hid (hI.vol _ (List.mem_of_getElem? hdi))
 obtain ⟨N, hN⟩ : ∃ N, N = d.length := ⟨_, rfl⟩
 rw [← hN] at x0 hil hc1
 rw [← hN] at HI
 have HN := Lib.hid hN
 have HL := Lib.hid hl
 clear hcl hdi hi hI he hx hN hl
 have HD : Hid (∀ W W1, Gr w W → Gr (W.setCell ⟨g, i * 3 + 1, none⟩ (.int .i64 xs)) W1 → Calls Tryz.prog 125 #[.pointer (some ⟨g, i * 3, none⟩), .int .i64 xs, .int .i64 1073741824] W1 (RC base R (putK d xv (xs, x.2.filter fun p => decide (p.1 < xs))) W)) := Lib.hid fun W W1 hW hW1 => by
  have hk1 : RK W (W.setCell ⟨g, i * 3 + 1, none⟩ (.int .i64 xs)) := by
   obtain ⟨cs, hh⟩ := hty
   exact (RK.refl W).set_ g _ _ (f := (0, 0)) (cs := cs) ((hW.below.block g hgl).trans hh) (.inl rfl)
  have hsz : W.heap.size = (W.setCell ⟨g, i * 3 + 1, none⟩ (.int .i64 xs)).heap.size := by simp [World.setCell]
  have hgl8 : g < (W.setCell ⟨g, i * 3 + 1, none⟩ (.int .i64 xs)).heap.size := by rw [← hsz]; exact Nat.lt_of_lt_of_le hgl hW.below.size
  have hc2 : W1.cell? ⟨g, i * 3 + 2, none⟩ = some (vf xv) := by
   refine (hW1.below.cell (p := ⟨g, i * 3 + 2, none⟩) hgl8).trans ?_
   obtain ⟨cs, hh⟩ := hty
   haveI hB : BlockAt W g cs 64 := ⟨(hW.below.block g hgl).trans hh⟩
   rw [@block_cells (W.setCell ⟨g, i * 3 + 1, none⟩ (.int .i64 xs)) g (i * 3 + 2) _ _ inferInstance, Array.getElem?_setIfInBounds_ne (by omega)]
   exact (@block_cells W g (i * 3 + 2) _ _ hB).symm.trans ((hW.below.cell (p := ⟨g, i * 3 + 2, none⟩) hgl).trans c2)
  have hf2 : W1.frozen? ⟨g, i * 3 + 2, none⟩ = false := by
   obtain ⟨cs, hh⟩ := hty
   haveI : BlockAt W g cs 64 := ⟨(hW.below.block g hgl).trans hh⟩
   exact gr_frozen hW1 hgl8 (block_frozen _ _ _ _ _)
  refine (rdrop_any g (i * 3) (vf xv) x.2 xs 1073741824 _ hc2 hf2 ((hk1.blkS (HV.out.gr hW)).gr hW1) (Nat.le_trans (vols_len hok) (by omega))).mono ?_
  rintro _ _ ⟨rfl, w1, u, hg1, ho1, rfl⟩
  rw [size_filter hok xs] at ho1
  obtain ⟨h1, h2⟩ := HI.out.setSM hW HDI.out xs (hW1.trans hg1) _ u ho1.blkS (filter_ok hok _ _ hs3.1 hs3.2 fun p _ hp => by simpa using hp)
  exact ⟨rfl, ⟨_, _, h1⟩, h2, (((Below.refl base W).setCell (p := ⟨g, i * 3 + 1, none⟩) hbg _).trans ((hW1.trans hg1).below.mono (by rw [← hsz]; exact HB W hW))).setCell (p := ⟨g, i * 3 + 2, none⟩) hbg u⟩
 go_enter Tryz.func98, Tryz.ntmps98
 go_wp2_with (first | (go_at_call 123; ((with_reducible refine (HR.out _ gri).mono ?_); rintro _ _ ⟨rfl, g1, rfl⟩)) | (go_at_call 24; ((with_reducible refine (HF.out _ gri).mono ?_); rintro _ _ ⟨rfl, g2, rfl⟩)))
 obtain ⟨A0, hA0⟩ : ∃ A0, A0 = (grown _ g1).heap.size := ⟨_, rfl⟩
 have hA1 : w.heap.size + 1 < A0 := by
  rw [hA0]
  exact (inferInstance : Old (w.heap.size + 1) (grown _ g1)).lt
 obtain ⟨W5, hW5⟩ : ∃ W5, W5 = grown _ g2 := ⟨_, rfl⟩
 have b8 : BlockAt W5 A0 #[.int .i64 0, .int .i64 0, .slice none 0 0] 97 := by
  rw [hW5, hA0]
  infer_instance
 have b6 : BlockAt W5 (w.heap.size + 1) #[.int .i64 0, .int .i64 0, .slice none 0 0] 97 := by
  rw [hW5]
  infer_instance
 have b4 : BlockAt W5 w.heap.size #[.int .i64 3, .int .u64 xv, .int .u64 xt, .int .i64 xs, .int .i64 xa, .int .i64 xc, .slice xD xn xq] 43 := by
  rw [hW5]
  infer_instance
 have g5 : Gr w W5 := by
  rw [hW5]
  exact gri
 rw [← hW5]
 try rw [← hA0]
 clear hW5 hA0
 haveI := grc_of g5
 haveI := from_of g5
 haveI := b8
 haveI := b6
 haveI := b8.old
 haveI := b6.old
 have y0 : W5.cell? ⟨R, 0, none⟩ = some (.slice (some ⟨g, 0, none⟩) N c) := (g5.below.cell (p := ⟨R, 0, none⟩) (Old.lt (b := R) (W := w))).trans x0
 have y1 : W5.frozen? ⟨R, 0, none⟩ = false := @block_frozen _ _ 0 _ _ (HI.out.blk.gr g5)
 have z0 : W5.cell? ⟨g, i * 3, none⟩ = some (.int .u64 xv) := (g5.below.cell (p := ⟨g, i * 3, none⟩) (Old.lt (b := g) (W := w))).trans c0
 have z1 : W5.cell? ⟨g, i * 3 + 1, none⟩ = some (.int .i64 x.1) := (g5.below.cell (p := ⟨g, i * 3 + 1, none⟩) (Old.lt (b := g) (W := w))).trans c1
 have z2 : W5.cell? ⟨g, i * 3 + 2, none⟩ = some (vf xv) := (g5.below.cell (p := ⟨g, i * 3 + 2, none⟩) (Old.lt (b := g) (W := w))).trans c2
 have zf : ∀ o, W5.frozen? ⟨g, o, none⟩ = false := fun o => gr_frozen g5 (Old.lt (b := g) (W := w)) (froV hty o)
 haveI : Old R W5 := old_of_cell y0
 haveI : Old g W5 := old_of_cell z0
 haveI := b4
 haveI := b4.old
 have o0 : W5.cell? ⟨w.heap.size, 0, none⟩ = some (.int .i64 3) := (@block_cells _ _ 0 _ _ b4).trans rfl
 have o1 : W5.cell? ⟨w.heap.size, 1, none⟩ = some (.int .u64 xv) := (@block_cells _ _ 1 _ _ b4).trans rfl
 have o2 : W5.cell? ⟨w.heap.size, 2, none⟩ = some (.int .u64 xt) := (@block_cells _ _ 2 _ _ b4).trans rfl
 have o3 : W5.cell? ⟨w.heap.size, 3, none⟩ = some (.int .i64 xs) := (@block_cells _ _ 3 _ _ b4).trans rfl
 have o4 : W5.cell? ⟨w.heap.size, 4, none⟩ = some (.int .i64 xa) := (@block_cells _ _ 4 _ _ b4).trans rfl
 have o5 : W5.cell? ⟨w.heap.size, 5, none⟩ = some (.int .i64 xc) := (@block_cells _ _ 5 _ _ b4).trans rfl
 have o6 : W5.cell? ⟨w.heap.size, 6, none⟩ = some (.slice xD xn xq) := (@block_cells _ _ 6 _ _ b4).trans rfl
 refine wp_region_grow_tail 9 (by kernel_rfl) (by kernel_rfl) ?_
 simp only [List.take_succ_cons, List.take_zero, List.drop_succ_cons, List.drop_zero]
 repeat (go_big_quiet_step (fail))
 refine wpQuiet_nil ?_
 intro g6
 obtain ⟨W6, hW6⟩ : ∃ W6, W6 = grown W5 g6 := ⟨_, rfl⟩
 rw [← hW6]
 have g56 : Gr W5 W6 := by
  rw [hW6]
  exact gri
 clear hW6
 have g06 := g5.trans g56
 have u0 : W6.cell? ⟨g, i * 3 + 1, none⟩ = some (.int .i64 x.1) := (g06.below.cell (p := ⟨g, i * 3 + 1, none⟩) hgl).trans c1
 have u1 : W6.frozen? ⟨g, i * 3 + 1, none⟩ = false := gr_frozen g06 hgl (froV hty _)
 haveI : Old g W6 := old_of_cell u0
 obtain ⟨W8, hW8⟩ : ∃ W8, W8 = W6.setCell ⟨g, i * 3 + 1, none⟩ (.int .i64 xs) := ⟨_, rfl⟩
 have HRUN : Hid ((storeVar 3 ⟨g, i * 3 + 1, none⟩ (.int .i64 xs)).run Tryz.prog W6 = .ok () W8) := Lib.hid (by rw [hW8]; go_simp)
 have hk8 : RK W6 W8 := by
  obtain ⟨cs, hh⟩ := hty
  rw [hW8]
  exact (RK.refl W6).set_ g _ _ (f := (0, 0)) (cs := cs) ((g06.below.block g hgl).trans hh) (.inl rfl)
 haveI m8 := hk8.block (b8.gr g56) (by unfold refT; decide)
 haveI m6 := hk8.block (b6.gr g56) (by unfold refT; decide)
 haveI m4 := hk8.block (b4.gr g56) (by unfold refT; decide)
 haveI := m4.old
 haveI := m8.old
 haveI := m6.old
 have v3 : W8.cell? ⟨w.heap.size, 3, none⟩ = some (.int .i64 xs) := (@block_cells _ _ 3 _ _ m4).trans rfl
 have vR : BlockAt W8 R #[.slice (some ⟨g, 0, none⟩) N c] 67 := ⟨by rw [hW8]; exact (Below.heap_setCell W6 ⟨g, i * 3 + 1, none⟩ _ R (by show R ≠ g; exact fun e => hne e.symm)).trans (HI.out.blk.gr g06).eq⟩
 have v0' : W8.cell? ⟨R, 0, none⟩ = some (.slice (some ⟨g, 0, none⟩) N c) := (@block_cells _ _ 0 _ _ vR).trans rfl
 haveI : Old R W8 := vR.old
 have HW8 := Lib.hid (show Gr (W6.setCell ⟨g, i * 3 + 1, none⟩ (.int .i64 xs)) W8 by rw [hW8]; exact Gr.refl _)
 have HK8 := Lib.hid hk8
 have HG06 := Lib.hid g06
 clear y0 y1 z0 z1 z2 zf o0 o1 o2 o3 o4 o5 o6 hW8 hk8 vR g06 u0 u1
 go_wp2_with (first | (refine wpStoreG rfl _ _ rfl ⟨g, i * 3 + 1, none⟩ _ rfl rfl W8 HRUN.out ?_))
 try simp only [Act.put]
 refine wp_region_grow_tail 8 (by kernel_rfl) (by kernel_rfl) ?_
 simp only [List.take_succ_cons, List.take_zero, List.drop_succ_cons, List.drop_zero]
 repeat (go_big_quiet_step (fail))
 refine wpQuiet_nil ?_
 intro g7
 go_wp2_with (first | (go_at_call 125; ((with_reducible refine (HD.out W6 _ HG06.out (HW8.out.trans gri)).mono ?_); rintro _ W3 ⟨rfl, hr3, hk3, hb3⟩; have k8 := hk3.block (b8.gr g56 : BlockAt _ A0 #[.int .i64 0, .int .i64 0, .slice none 0 0] 97) (by unfold refT; decide); have k6 := hk3.block (b6.gr g56 : BlockAt _ (w.heap.size + 1) #[.int .i64 0, .int .i64 0, .slice none 0 0] 97) (by unfold refT; decide); haveI := k8; haveI := k6; haveI := k8.old; haveI := k6.old; have p0 : W3.cell? ⟨A0, 0, none⟩ = some (.int .i64 0) := (@block_cells _ _ 0 _ _ k8).trans rfl; have p1 : W3.cell? ⟨A0, 1, none⟩ = some (.int .i64 0) := (@block_cells _ _ 1 _ _ k8).trans rfl; have p2 : W3.cell? ⟨A0, 2, none⟩ = some (.slice none 0 0) := (@block_cells _ _ 2 _ _ k8).trans rfl; have q0 : W3.cell? ⟨w.heap.size + 1, 0, none⟩ = some (.int .i64 0) := (@block_cells _ _ 0 _ _ k6).trans rfl; have q1 : W3.cell? ⟨w.heap.size + 1, 1, none⟩ = some (.int .i64 0) := (@block_cells _ _ 1 _ _ k6).trans rfl; have q2 : W3.cell? ⟨w.heap.size + 1, 2, none⟩ = some (.slice none 0 0) := (@block_cells _ _ 2 _ _ k6).trans rfl; have fz : ∀ o, W3.frozen? ⟨w.heap.size + 1, o, none⟩ = false := fun o => @block_frozen _ _ o _ _ k6; have hw3 : RK w W3 := (RK.gr HG06.out).trans hk3; have hb4 : Below base w W3 := (HG06.out.below.mono hbase).trans hb3; have HW3 := Lib.hid hw3; have HB4 := Lib.hid hb4; have HR3 := Lib.hid hr3; clear hw3 hb4 hr3 hk3 hb3)))
 obtain ⟨v3, vf3, hd3⟩ := HR3.out
 exact bodyPost_ret (run_resCell1 rfl _ _ _ _ rfl (ans_block k6 _ _ _) Tryz.underlying97 rfl (by kernel_rfl)) rfl ⟨none, 0, 0, rfl, OwnN.nil _ _, ans_ref hd3 k6 _ _ _, ans_below HB4.out (by omega) _ _ _, ans_rk HW3.out (by omega) _ _ _⟩
theorem rpart_4 (xv xt xs xa xc most : Int) (xD : Option Addr) (xn xq : Nat) (lx : Byt) (hxn : lx.length = xn) (base R : Nat) (d : Dev) (w : World) (h : RefAt base w R d) (hbase : base ≤ w.heap.size) (hl : d.length ≤ 1000000) (hn : xn ≤ 1000000) (v0 : 0 ≤ xv) (t0 : 0 ≤ xt) (he : errK d ⟨4, xv, xt, xs, xa, xc, lx⟩ = 0) (x : VolM) (hx : getK d xv = some x) (hg4 : getK d xt = none) (hok : DevOk (putK d xt x)) :
  Calls Tryz.prog 98 #[.pointer (some ⟨R, 0, none⟩), .agg #[.int .i64 4, .int .u64 xv, .int .u64 xt, .int .i64 xs, .int .i64 xa, .int .i64 xc, .slice xD xn xq], .int .i64 most] w (RPost base R (putK d xt x) 0 0 [] w) := by
 have HR := Lib.hid (fun W (g : Gr w W) => rrefused_any 4 xv xt xs xa xc xD xn xq lx hxn base R d W (h.gr g) hl hn v0 t0)
 have HF := Lib.hid (fun W (g : Gr w W) => rfind_any base R d xv W (h.gr g) hl)
 rw [he] at HR
 obtain ⟨v, vf, hI⟩ := h
 have HI := Lib.hid hI
 have HB := fun W (g : Gr w W) => Nat.le_trans hbase g.below.size
 obtain ⟨i, hi, hdi, hil⟩ := idx_get hx
 rw [hi] at HF
 obtain ⟨g, c, rfl, hbg, hgl, hne, hc1, hc2, hty, hcl⟩ := hI.form (by rintro rfl; simp at hil)
 obtain ⟨c0, c1, c2⟩ := hcl i _ hdi
 simp only at c0 c1 c2
 rw [Nat.add_zero] at c0
 have x0 : w.cell? ⟨R, 0, none⟩ = some (.slice (some ⟨g, 0, none⟩) d.length c) := (@block_cells _ _ 0 _ _ hI.blk).trans rfl
 haveI := hI.blk
 haveI : Old R w := hI.blk.old
 haveI : Old g w := ⟨hgl⟩
 have HDI := Lib.hid hdi
 have HX := Lib.hid hx
 have HV := Lib.hid (hI.vol _ (List.mem_of_getElem? hdi))
 obtain ⟨N, hN⟩ : ∃ N, N = d.length := ⟨_, rfl⟩
 rw [← hN] at x0 hil hc1
 rw [← hN] at HI
 have HN := Lib.hid hN
 have HL := Lib.hid hl
 clear hcl hdi hi hI he hx hN hl
 have HA := Lib.hid (fun W (g : Gr w W) u (hu : BlkS W u x.2) => add_rc (s := x.1) (HI.out.gr g) hu hg4 HL.out (HB W g) hok)
 obtain ⟨MA, mc, hvf, hm1, hm2, hm3, hrow⟩ := HV.out.row
 obtain ⟨ML, hML⟩ : ∃ M, M = x.2.length := ⟨_, rfl⟩
 rw [← hML] at hvf hm1
 have hxo := HI.out.ok.vols _ (List.mem_of_getElem? HDI.out)
 have hMl : ML ≤ 256 := by rw [hML]; exact vols_len hxo
 have HML := Lib.hid hML.symm
 have HRM := Lib.hid hrow
 clear hML hrow hg4 hok
 go_enter Tryz.func98, Tryz.ntmps98
 go_wp2_with (first | (go_at_call 123; ((with_reducible refine (HR.out _ gri).mono ?_); rintro _ _ ⟨rfl, g1, rfl⟩)) | (go_at_call 24; ((with_reducible refine (HF.out _ gri).mono ?_); rintro _ _ ⟨rfl, g2, rfl⟩)))
 obtain ⟨A0, hA0⟩ : ∃ A0, A0 = (grown _ g1).heap.size := ⟨_, rfl⟩
 have hA1 : w.heap.size + 1 < A0 := by
  rw [hA0]
  exact (inferInstance : Old (w.heap.size + 1) (grown _ g1)).lt
 obtain ⟨W5, hW5⟩ : ∃ W5, W5 = grown _ g2 := ⟨_, rfl⟩
 have b8 : BlockAt W5 A0 #[.int .i64 0, .int .i64 0, .slice none 0 0] 97 := by
  rw [hW5, hA0]
  infer_instance
 have b6 : BlockAt W5 (w.heap.size + 1) #[.int .i64 0, .int .i64 0, .slice none 0 0] 97 := by
  rw [hW5]
  infer_instance
 have b4 : BlockAt W5 w.heap.size #[.int .i64 4, .int .u64 xv, .int .u64 xt, .int .i64 xs, .int .i64 xa, .int .i64 xc, .slice xD xn xq] 43 := by
  rw [hW5]
  infer_instance
 have g5 : Gr w W5 := by
  rw [hW5]
  exact gri
 rw [← hW5]
 try rw [← hA0]
 clear hW5 hA0
 haveI := grc_of g5
 haveI := from_of g5
 have y0 : W5.cell? ⟨R, 0, none⟩ = some (.slice (some ⟨g, 0, none⟩) N c) := (g5.below.cell (p := ⟨R, 0, none⟩) (Old.lt (b := R) (W := w))).trans x0
 have y1 : W5.frozen? ⟨R, 0, none⟩ = false := @block_frozen _ _ 0 _ _ (HI.out.blk.gr g5)
 have z0 : W5.cell? ⟨g, i * 3, none⟩ = some (.int .u64 xv) := (g5.below.cell (p := ⟨g, i * 3, none⟩) (Old.lt (b := g) (W := w))).trans c0
 have z1 : W5.cell? ⟨g, i * 3 + 1, none⟩ = some (.int .i64 x.1) := (g5.below.cell (p := ⟨g, i * 3 + 1, none⟩) (Old.lt (b := g) (W := w))).trans c1
 have z2 : W5.cell? ⟨g, i * 3 + 2, none⟩ = some (vf xv) := (g5.below.cell (p := ⟨g, i * 3 + 2, none⟩) (Old.lt (b := g) (W := w))).trans c2
 have zf : ∀ o, W5.frozen? ⟨g, o, none⟩ = false := fun o => gr_frozen g5 (Old.lt (b := g) (W := w)) (froV hty o)
 haveI : Old R W5 := old_of_cell y0
 haveI : Old g W5 := old_of_cell z0
 haveI := b4
 haveI := b4.old
 have o0 : W5.cell? ⟨w.heap.size, 0, none⟩ = some (.int .i64 4) := (@block_cells _ _ 0 _ _ b4).trans rfl
 have o1 : W5.cell? ⟨w.heap.size, 1, none⟩ = some (.int .u64 xv) := (@block_cells _ _ 1 _ _ b4).trans rfl
 have o2 : W5.cell? ⟨w.heap.size, 2, none⟩ = some (.int .u64 xt) := (@block_cells _ _ 2 _ _ b4).trans rfl
 have o3 : W5.cell? ⟨w.heap.size, 3, none⟩ = some (.int .i64 xs) := (@block_cells _ _ 3 _ _ b4).trans rfl
 have o4 : W5.cell? ⟨w.heap.size, 4, none⟩ = some (.int .i64 xa) := (@block_cells _ _ 4 _ _ b4).trans rfl
 have o5 : W5.cell? ⟨w.heap.size, 5, none⟩ = some (.int .i64 xc) := (@block_cells _ _ 5 _ _ b4).trans rfl
 have o6 : W5.cell? ⟨w.heap.size, 6, none⟩ = some (.slice xD xn xq) := (@block_cells _ _ 6 _ _ b4).trans rfl
 rw [hvf] at z2
 have HB8 := Lib.hid b8
 have HB6 := Lib.hid b6
 have HG5 := Lib.hid g5
 refine wp_region_treeT (inCls_ghost _) (Cls.none _) ⟨Gr.of ((Below.refl _ _).drew), trivial⟩ [0, 1, 2, 3, 4, 5, 6, 7, 8, 9, 10, 11, 12, 13, 14, 15, 16, 17, 18] 2 21 (by kernel_rfl) (by kernel_rfl) ?_
 simp only [pick, List.drop_succ_cons, List.drop_zero, List.take_succ_cons, List.take_zero, List.nil_append, List.cons_append]
 repeat (refine wpCalm_step (fun K hK => ?_); go_simp; first | (refine hK _ ?_; clear hK K) | (apply Exists.intro; refine ⟨fun _ => ?_, hK _ ?_⟩; (skip); clear hK K))
 refine wpCalm_nil ?_
 refine ft_effD 19 (by kernel_rfl) (by omega) rfl rfl rfl fun w4 hw4 => effAt_append_x rbIs _ _ rfl rfl (OwnN.nil W5.heap.size _) MA x.2 ML mc HML.out rfl hm3 (HRM.out.gr (HG5.out.trans hw4.1)) (by rw [HML.out, List.length_nil]; omega) hw4.1.below.size ?_
 intro v2 W2 h2
 obtain ⟨A2, c2', rfl, -, -, -⟩ := h2.own.form rbIs
 obtain ⟨L2, hL2⟩ : ∃ L, L = ([] ++ x.2 : List (Int × Byt)).length := ⟨_, rfl⟩
 rw [← hL2]
 refine ⟨⟨fun w' => OwnN rbE W5.heap.size w' (.slice A2 L2 c2') x.2, fun a b h g => h.gr g⟩, ⟨hw4.1.trans_below h2.below, by have := h2.own; rw [hL2]; rwa [List.nil_append] at this ⊢⟩, ?_⟩
 clear h2 W2 hw4 w4 hL2
 simp only [Act.put, List.setIfInBounds_toArray, List.set_cons_zero, List.set_cons_succ]
 refine ft_calmD 20 (.agg #[.int .u64 xt, .int .i64 x.1, .slice A2 L2 c2']) (by kernel_rfl) (by omega) rfl rfl rfl (fun g => by unfold calmAt; go_simp) ?_
 simp only [Act.put, List.setIfInBounds_toArray, List.set_cons_zero, List.set_cons_succ]
 refine ft_end ⟨by kernel_rfl, fun w9 hw9 => ?_⟩
 try simp only [List.drop_succ_cons, List.drop_zero]
 obtain ⟨hg9, ho9⟩ := hw9
 haveI := b8.gr hg9
 haveI := b6.gr hg9
 have g9 := g5.trans hg9
 haveI := grc_of g9
 haveI := from_of g9
 have HO9 := Lib.hid ho9.blkS
 have HG9 := Lib.hid g9
 clear ho9 hg9 g9 y0 y1 z0 z1 z2 zf o0 o1 o2 o3 o4 o5 o6
 go_wp2_with (first | (go_at_call 124; ((with_reducible refine (HA.out _ HG9.out _ HO9.out).mono ?_); rintro _ W3 ⟨rfl, hr3, hk3, hb3⟩; have k8 := hk3.block (inferInstance : BlockAt _ A0 #[.int .i64 0, .int .i64 0, .slice none 0 0] 97) (by unfold refT; decide); have k6 := hk3.block (inferInstance : BlockAt _ (w.heap.size + 1) #[.int .i64 0, .int .i64 0, .slice none 0 0] 97) (by unfold refT; decide); haveI := k8; haveI := k6; haveI := k8.old; haveI := k6.old; have p0 : W3.cell? ⟨A0, 0, none⟩ = some (.int .i64 0) := (@block_cells _ _ 0 _ _ k8).trans rfl; have p1 : W3.cell? ⟨A0, 1, none⟩ = some (.int .i64 0) := (@block_cells _ _ 1 _ _ k8).trans rfl; have p2 : W3.cell? ⟨A0, 2, none⟩ = some (.slice none 0 0) := (@block_cells _ _ 2 _ _ k8).trans rfl; have q0 : W3.cell? ⟨w.heap.size + 1, 0, none⟩ = some (.int .i64 0) := (@block_cells _ _ 0 _ _ k6).trans rfl; have q1 : W3.cell? ⟨w.heap.size + 1, 1, none⟩ = some (.int .i64 0) := (@block_cells _ _ 1 _ _ k6).trans rfl; have q2 : W3.cell? ⟨w.heap.size + 1, 2, none⟩ = some (.slice none 0 0) := (@block_cells _ _ 2 _ _ k6).trans rfl; have fz : ∀ o, W3.frozen? ⟨w.heap.size + 1, o, none⟩ = false := fun o => @block_frozen _ _ o _ _ k6; have hw3 : RK w W3 := (RK.gr gri).trans hk3; have hb4 : Below base w W3 := ((show Gr w _ from gri).below.mono hbase).trans hb3; have HW3 := Lib.hid hw3; have HB4 := Lib.hid hb4; have HR3 := Lib.hid hr3; clear hw3 hb4 hr3 hk3 hb3)))
 obtain ⟨v3, vf3, hd3⟩ := HR3.out
 exact bodyPost_ret (run_resCell1 rfl _ _ _ _ rfl (ans_block k6 _ _ _) Tryz.underlying97 rfl (by kernel_rfl)) rfl ⟨none, 0, 0, rfl, OwnN.nil _ _, ans_ref hd3 k6 _ _ _, ans_below HB4.out (by omega) _ _ _, ans_rk HW3.out (by omega) _ _ _⟩
end Go.Proofs.YtipeblmgochdfaaGreat
