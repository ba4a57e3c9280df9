/- Device.Part, Device.Do: what an operation does, and its answer. Conditions: the device and the operation's data stand in memory. .. -/
import Derived.Test.YtddckdhnolmjoaaGreatV05
import Derived.Test.YtddckdhnolmjoaaGreatV06
import Derived.Test.YtddckdhnolmjoaaGreatV04
import Derived.Test.YtddckdhnolmjoaaGreatV02
import Derived.Laws.AppendOwnNone
import Derived.LoopTactic
import Derived.Test.YtddckdhnolmjoaaGreatV03
import Derived.Lib.Strings
import Derived.Great.BuildSlice
import Derived.Test.YtddckdhnolmjoaaGreatV01
import Derived.Laws.BytesArg
import Derived.Sort.MapsRangeIn
set_option linter.unusedVariables false
set_option linter.unusedSimpArgs false
set_option linter.unnecessarySimpa false
set_option maxRecDepth 100000
set_option maxHeartbeats 8000000
namespace Go.Proofs.YtddckdhnolmjoaaGreat
open Go.RowKit
theorem Row.bytes {w : World} {A : Option Addr} {l : List UInt8} (h : Row bv w A l) {W : World} (g : Gr w W) : Row bv W A l := h.gr g
theorem errK_may {d : Dev} {o : OpM} (he : errK d o = 0) : o.may = true := by
 cases hm : o.may with
 | true => rfl
 | false => rw [errK, if_pos hm] at he; cases he
theorem errK_vol {d : Dev} {o : OpM} (he : errK d o = 0) (h1 : o.k ≠ 1) (h8 : o.k ≠ 8) : ∃ x, getK d o.v = some x := by
 rw [errK, if_neg (by rw [errK_may he]; simp), if_neg h8] at he
 cases hx : getK d o.v with
 | some x => exact ⟨x, rfl⟩
 | none => rw [hx] at he; simp [h1] at he
theorem part_any (xk xv xt xs xa xc most : Int) (xD : Option Addr) (xn xq : Nat) (hq : xn ≤ xq) (lx : Byt) (hxn : lx.length = xn) (base D : Nat) (d : Dev) (w : World) (h : DevAt base w D d) (hbase : base ≤ w.heap.size) (hr : Row bv w xD lx) (hn : xn ≤ 1000000) :
  Calls Tryz.prog 17 #[.pointer (some ⟨D, 0, none⟩), .agg #[.int .i64 xk, .int .u64 xv, .int .u64 xt, .int .i64 xs, .int .i64 xa, .int .i64 xc, .slice xD xn xq], .int .i64 most] w
   (PartPost base D (partK d ⟨xk, xv, xt, xs, xa, xc, lx⟩ most) (ansK d ⟨xk, xv, xt, xs, xa, xc, lx⟩ most).1 (ansK d ⟨xk, xv, xt, xs, xa, xc, lx⟩ most).2.1 (ansK d ⟨xk, xv, xt, xs, xa, xc, lx⟩ most).2.2 w) := by
 by_cases he : errK d ⟨xk, xv, xt, xs, xa, xc, lx⟩ = 0
 rotate_left
 ·have e1 : partK d ⟨xk, xv, xt, xs, xa, xc, lx⟩ most = d := by rw [partK, if_neg he]
  have e2 : ansK d ⟨xk, xv, xt, xs, xa, xc, lx⟩ most = (errK d ⟨xk, xv, xt, xs, xa, xc, lx⟩, 0, []) := by rw [ansK, if_neg he]
  rw [e1, e2]
  exact part_ref xk xv xt xs xa xc most xD xn xq lx hxn base D d w h hbase hr hn _ rfl (errK_val d _ he)
 have hm := errK_may he
 have hs := may_s hm
 have hkk := may_kind hm
 have hok := part_ok (by obtain ⟨M, mb, h⟩ := h; exact h.ok : DevOk d) ⟨xk, xv, xt, xs, xa, xc, lx⟩ most
 have e1 : partK d ⟨xk, xv, xt, xs, xa, xc, lx⟩ most = didK d ⟨xk, xv, xt, xs, xa, xc, lx⟩ most := by rw [partK, if_pos he]
 have h9 : xk = 1 ∨ xk = 2 ∨ xk = 3 ∨ xk = 4 ∨ xk = 5 ∨ xk = 6 ∨ xk = 7 ∨ xk = 8 ∨ xk = 9 := by simp only at hkk; omega
 have hb := fun W (g : Gr w W) => Nat.le_trans hbase g.below.size
 rw [e1] at hok ⊢
 clear e1 hkk
 rcases h9 with rfl | rfl | rfl | rfl | rfl | rfl | rfl | rfl | rfl
 ·have e2 : ansK d ⟨1, xv, xt, xs, xa, xc, lx⟩ most = (0, 0, []) := by simp [ansK, he]
  have e3 : didK d ⟨1, xv, xt, xs, xa, xc, lx⟩ most = putK d xv (xs, []) := by simp [didK]
  rw [e3] at hok
  rw [e2, e3]
  exact part_call _ _ _ _ _ _ _ _ _ _ lx hxn base D d _ w h hbase hr hn he 38 rfl 0 0 [] (fun _ _ => rfl) fun W g => (create_any _ _ _ _ _ _ _ _ _ hn base D d W (h.gr g) (hb W g) hok).mono fun e w' hp => opPost_part hp
 ·have e2 : ansK d ⟨2, xv, xt, xs, xa, xc, lx⟩ most = (0, 0, []) := by simp [ansK, he]
  have e3 : didK d ⟨2, xv, xt, xs, xa, xc, lx⟩ most = delK d xv := by simp [didK]
  rw [e2, e3]
  exact part_call _ _ _ _ _ _ _ _ _ _ lx hxn base D d _ w h hbase hr hn he 39 rfl 0 0 [] (fun _ _ => rfl) fun W g => (drop_any _ _ _ _ _ _ _ _ _ hn base D d W (h.gr g) (hb W g)).mono fun e w' hp => opPost_part hp
 ·obtain ⟨x, hv⟩ := errK_vol he (by simp) (by simp)
  simp only at hv
  have e2 : ansK d ⟨3, xv, xt, xs, xa, xc, lx⟩ most = (0, 0, []) := by simp [ansK, he]
  have e3 : didK d ⟨3, xv, xt, xs, xa, xc, lx⟩ most = putK d xv (xs, x.2.filter fun p => decide (p.1 < xs)) := by simp [didK, volD, hv]
  rw [e3] at hok
  rw [e2, e3]
  exact part_call _ _ _ _ _ _ _ _ _ _ lx hxn base D d _ w h hbase hr hn he 40 rfl 0 0 [] (fun _ _ => rfl) fun W g => (resize_any _ _ _ _ _ _ _ _ _ hn base D d W (h.gr g) (hb W g) x hv hok).mono fun e w' hp => opPost_part hp
 ·obtain ⟨x, hv⟩ := errK_vol he (by simp) (by simp)
  simp only at hv
  have e2 : ansK d ⟨4, xv, xt, xs, xa, xc, lx⟩ most = (0, 0, []) := by simp [ansK, he]
  have e3 : didK d ⟨4, xv, xt, xs, xa, xc, lx⟩ most = putK d xt x := by simp [didK, volD, hv]
  rw [e3] at hok
  rw [e2, e3]
  exact part_call _ _ _ _ _ _ _ _ _ _ lx hxn base D d _ w h hbase hr hn he 41 rfl 0 0 [] (fun _ _ => rfl) fun W g => (snap_any _ _ _ _ _ _ _ _ _ hn base D d W (h.gr g) (hb W g) x hv hok).mono fun e w' hp => opPost_part hp
 ·obtain ⟨x, hv⟩ := errK_vol he (by simp) (by simp)
  simp only at hv
  have ha := hs.at_ (by simp)
  have hd := hs.dat rfl
  simp only at ha hd
  rw [hxn] at hd
  have hfit : ¬ 4 * x.1 < xa + (xn : Int) / 64 := fun hlt => by
   rw [errK, if_neg (by rw [hm]; simp)] at he
   simp [hv, hxn] at he
   omega
  have e2 : ansK d ⟨5, xv, xt, xs, xa, xc, lx⟩ most = (fullC most (spans xa.toNat (xn / 64)).length, fullD most (spans xa.toNat (xn / 64)).length, []) := by
   simp only [ansK, he, cntO, fullC, fullD, hxn]
   by_cases hml : most < ((spans xa.toNat (xn / 64)).length : Int) <;> simp [hml]
  have e3 : didK d ⟨5, xv, xt, xs, xa, xc, lx⟩ most = putK d xv (x.1, putL xa.toNat lx x.2 ((spans xa.toNat (xn / 64)).take most.toNat)) := by simp [didK, volD, hv, dataO, cntO, hxn]
  rw [e2, e3]
  exact part_call _ _ _ _ _ _ _ _ _ _ lx hxn base D d _ w h hbase hr hn he 42 rfl _ _ [] (fun _ _ => rfl) fun W g => (put_5 _ _ _ _ _ _ _ _ _ hn base D d W (h.gr g) (hb W g) x hv ha.1 ha.2 hq lx hxn (hr.gr g) hd.1 hd.2.1 hd.2.2 hfit).mono fun e w' hp => opPost_part hp
 ·obtain ⟨x, hv⟩ := errK_vol he (by simp) (by simp)
  simp only at hv
  have ha := hs.at_ (by simp)
  have hc := hs.cnt (by simp)
  simp only at ha hc
  have hfit : ¬ 4 * x.1 < xa + xc := fun hlt => by
   rw [errK, if_neg (by rw [hm]; simp)] at he
   simp [hv] at he
   omega
  have e2 : ansK d ⟨6, xv, xt, xs, xa, xc, lx⟩ most = (fullC most (spans xa.toNat xc.toNat).length, fullD most (spans xa.toNat xc.toNat).length, []) := by
   simp only [ansK, he, cntO, fullC, fullD]
   by_cases hml : most < ((spans xa.toNat xc.toNat).length : Int) <;> simp [hml]
  have e3 : didK d ⟨6, xv, xt, xs, xa, xc, lx⟩ most = putK d xv (x.1, putL xa.toNat (List.replicate (xc.toNat * 64) 0) x.2 ((spans xa.toNat xc.toNat).take most.toNat)) := by simp [didK, volD, hv, dataO, cntO, Nat.mul_comm]
  rw [e2, e3]
  exact part_call _ _ _ _ _ _ _ _ _ _ lx hxn base D d _ w h hbase hr hn he 42 rfl _ _ [] (fun _ _ => rfl) fun W g => (put_6 _ _ _ _ _ _ _ _ _ hn base D d W (h.gr g) (hb W g) x hv ha.1 ha.2 hc.1 hc.2 hfit).mono fun e w' hp => opPost_part hp
 ·obtain ⟨x, hv⟩ := errK_vol he (by simp) (by simp)
  simp only at hv
  have ha := hs.at_ (by simp)
  have hc := hs.cnt (by simp)
  simp only at ha hc
  have e2 : ansK d ⟨7, xv, xt, xs, xa, xc, lx⟩ most = (0, 0, []) := by simp [ansK, he]
  have e3 : didK d ⟨7, xv, xt, xs, xa, xc, lx⟩ most = putK d xv (x.1, dropF xa xc.toNat x.2) := by
   have e4 : ((xc.toNat : Nat) : Int) = xc := Int.toNat_of_nonneg (by omega)
   simp [didK, volD, hv, dropF, e4]
  rw [e2, e3]
  exact part_call _ _ _ _ _ _ _ _ _ _ lx hxn base D d _ w h hbase hr hn he 43 rfl 0 0 [] (fun _ _ => rfl) fun W g => (discard_any _ _ _ _ _ _ _ _ _ hn base D d W (h.gr g) (hb W g) x hv ha.1 ha.2 hc.1 hc.2).mono fun e w' hp => opPost_part hp
 ·have e2 : ansK d ⟨8, xv, xt, xs, xa, xc, lx⟩ most = (0, 0, []) := by simp [ansK, he]
  have e3 : didK d ⟨8, xv, xt, xs, xa, xc, lx⟩ most = d := by simp [didK]
  rw [e2, e3]
  exact part_none _ _ _ _ _ _ _ _ _ _ lx hxn base D d w h hbase hr hn he rfl
 ·obtain ⟨x, hv⟩ := errK_vol he (by simp) (by simp)
  simp only at hv
  have ha := hs.at_ (by simp)
  have hc := hs.cnt (by simp)
  simp only at ha hc
  have e2 : ansK d ⟨9, xv, xt, xs, xa, xc, lx⟩ most = (0, 0, (spans xa.toNat xc.toNat).flatMap fun s => cutK (blkM x.2 s.b) s) := by simp [ansK, he, readK, volD, hv]
  have e3 : didK d ⟨9, xv, xt, xs, xa, xc, lx⟩ most = d := by simp [didK]
  rw [e2, e3]
  exact part_call _ _ _ _ _ _ _ _ _ _ lx hxn base D d _ w h hbase hr hn he 44 rfl 0 0 _ (fun _ _ => rfl) fun W g => (read_any _ _ _ _ _ _ _ _ _ hn base D d W (h.gr g) x hv ha.1 ha.2 hc.1 hc.2).mono fun e w' hp => by
   obtain ⟨v, he', ho, hg⟩ := hp
   obtain ⟨A, c, rfl, _⟩ := ho.form bIs
   exact ⟨A, _, c, he', ho, (h.gr g).gr hg, hg.below.mono (hb W g), CK.gr hg⟩
theorem do_any (xk xv xt xs xa xc : Int) (xD : Option Addr) (xn xq : Nat) (hq : xn ≤ xq) (lx : Byt) (hxn : lx.length = xn) (base D : Nat) (d : Dev) (w : World) (h : DevAt base w D d) (hbase : base ≤ w.heap.size) (hr : Row bv w xD lx) (hn : xn ≤ 1000000) :
  Calls Tryz.prog 8 #[.pointer (some ⟨D, 0, none⟩), .agg #[.int .i64 xk, .int .u64 xv, .int .u64 xt, .int .i64 xs, .int .i64 xa, .int .i64 xc, .slice xD xn xq]] w
   (PartPost base D (doK d ⟨xk, xv, xt, xs, xa, xc, lx⟩) (ansK d ⟨xk, xv, xt, xs, xa, xc, lx⟩ 1024).1 (ansK d ⟨xk, xv, xt, xs, xa, xc, lx⟩ 1024).2.1 (ansK d ⟨xk, xv, xt, xs, xa, xc, lx⟩ 1024).2.2 w) := by
 have HC := hd_ fun W (g : Gr w W) => part_any xk xv xt xs xa xc 1024 xD xn xq hq lx hxn base D d W (h.gr g) (Nat.le_trans hbase g.below.size) (hr.gr g) hn
 unfold doK
 generalize partK d ⟨xk, xv, xt, xs, xa, xc, lx⟩ 1024 = d' at *
 generalize ansK d ⟨xk, xv, xt, xs, xa, xc, lx⟩ 1024 = z at *
 obtain ⟨code, done, data⟩ := z
 simp only at HC ⊢
 clear h hr
 go_enter Tryz.func8, Tryz.ntmps8
 go_wp2_with (first
  | (go_at_call 17; ((with_reducible refine (HC.out _ gri).mono ?_); rintro _ W3 ⟨A3, n3, c3, rfl, ho3, hd3, hb3, hk3⟩; have bA3 := hk3.block (inferInstance : BlockAt _ (w.heap.size + 1) #[.int .i64 0, .int .i64 0, .slice none 0 0] 38); have cA0 : W3.cell? ⟨w.heap.size + 1, 0, none⟩ = some (.int .i64 0) := (bc 0 bA3).trans rfl; have cA1 : W3.cell? ⟨w.heap.size + 1, 1, none⟩ = some (.int .i64 0) := (bc 1 bA3).trans rfl; have cA2 : W3.cell? ⟨w.heap.size + 1, 2, none⟩ = some (.slice none 0 0) := (bc 2 bA3).trans rfl; have fA : ∀ o, W3.frozen? ⟨w.heap.size + 1, o, none⟩ = false := fun o => @block_frozen _ _ o _ _ bA3)))
 have gW : Gr w ((w.alloc (.cells #[.int .i64 xk, .int .u64 xv, .int .u64 xt, .int .i64 xs, .int .i64 xa, .int .i64 xc, .slice xD xn xq] 27)).alloc (.cells #[.int .i64 0, .int .i64 0, .slice none 0 0] 38)) := gri
 obtain ⟨M3, mb3, hd3⟩ := hd3
 have ho4 : OwnN bE w.heap.size W3 (.slice A3 n3 c3) data := ⟨ho3.ok, OwnsRow_mono ho3.own gW.below.size⟩
 have ho5 := ((ho4.set_ (w.heap.size + 1) 0 (.int .i64 code) (by decide)).set_ (w.heap.size + 1) 1 (.int .i64 done) (by decide)).set_ (w.heap.size + 1) 2 (.slice A3 n3 c3) (by decide)
 exact bodyPost_ret (run_resCell1 rfl _ _ _ _ rfl (ans_block bA3 _ _ _) Tryz.underlying38 rfl (by kernel_rfl)) rfl ⟨A3, n3, c3, rfl, ho5, ans_dev hd3 bA3 (by decide) _ _ _, ans_below ((gW.below.mono hbase).trans hb3) (by omega) _ _ _, ck_ans ((CK.gr gW).trans hk3) (by omega) _ _ _⟩
section
variable {P : Program} {md : Region.Mode} {W : World} {S : Type} {I : S → World → Prop} {ops : Array Oper} {L : Array Bool → S → Act → Prop} {f n : Nat} {listed : Array Bool} {s : S} {a : Act}
theorem ft_effD (i : Nat) {o : Oper} {d : Tmp} (hr : Region.ready md ops listed = [i]) (hi : i < n) (ho : ops[i]? = some o) (hg : o.guard = none) (hd : o.dst = some d) (h : ∀ w, I s w → EffAt P o a w (fun v w' => ∃ s', I s' w' ∧ feT P md ops W I n L f (listed.setIfInBounds i true) s' (a.put (some d) v))) : feT P md ops W I n L (f + 1) listed s a :=
 ft_eff i hr hi ho hg fun w hw => by rw [hd]; exact h w hw
theorem ft_calmD (i : Nat) {o : Oper} {d : Tmp} (v : Value) (hr : Region.ready md ops listed = [i]) (hi : i < n) (ho : ops[i]? = some o) (hg : o.guard = none) (hd : o.dst = some d) (hc : ∀ g : Growth W, calmAt P o a (grown W g) v) (h : feT P md ops W I n L f (listed.setIfInBounds i true) s (a.put (some d) v)) : feT P md ops W I n L (f + 1) listed s a :=
 ft_calm i v hr hi ho hg hc (by rw [hd]; exact h)
end
theorem RangeAt.keep {W W' : World} {q : IntKind} {b r : Nat} {L : List (Int × Value)} {left : Int → Bool} {cnt : Nat} (h : RangeAt q W b r L left cnt) (h1 : W'.heap[b]? = W.heap[b]?) (h2 : W'.heap[r]? = W.heap[r]?) : RangeAt q W' b r L left cnt := by
 obtain ⟨es, clock, since, seen, c0, hb, a1, a2, a3, a4, hr, rest⟩ := h
 exact ⟨es, clock, since, seen, c0, h1.trans hb, a1, a2, a3, a4, h2.trans hr, rest⟩
theorem DevIn.lower {base base' D M : Nat} {W : World} {mb : Int → Nat} {d : Dev} (h : DevIn base W D M mb d) (hb : base' ≤ base) : DevIn base' W D M mb d := ⟨h.blk, h.all, h.vol, h.inj, h.ne, Nat.le_trans hb h.bD, Nat.le_trans hb h.bM, fun p hp => Nat.le_trans hb (h.bV p hp), h.ok⟩
theorem DevIn.iter {base D M : Nat} {W W' : World} {mb : Int → Nat} {d : Dev} (h : DevIn base W D M mb d) {q : IntKind} {b r : Nat} {L : List (Int × Value)} {left : Int → Bool} {cnt : Nat} (hr : RangeAt q W b r L left cnt) (ho : OnlyB W W' r) : DevIn base W' D M mb d := by
 obtain ⟨es, clock, since, seen, c0, _, _, _, _, _, hh, _⟩ := hr
 have hm : ∀ {q' : IntKind} {b' : Nat} {L' : List (Int × Value)}, MapAt q' W b' L' → MapAt q' W' b' L' := fun {q' b' L'} hm => ho.mapAt hm fun e => by
  obtain ⟨es', clock', he, _⟩ := hm
  rw [e, hh] at he
  cases he
 have hne : D ≠ r := fun e => by
  have := h.blk.eq
  rw [e, hh] at this
  cases this
 exact ⟨ho.blockAt h.blk hne, hm h.all, fun p hp => hm (h.vol p hp), h.inj, h.ne, h.bD, h.bM, h.bV, h.ok⟩
theorem RangeAt.only {W W' : World} {q q' : IntKind} {b r m : Nat} {L L' : List (Int × Value)} {left : Int → Bool} {cnt : Nat} (h : RangeAt q W b r L left cnt) (hm : MapAt q' W m L') (ho : OnlyB W W' m) (hne : b ≠ m) : RangeAt q W' b r L left cnt := by
 refine h.keep (ho.block hne) (ho.block fun e => ?_)
 obtain ⟨es, clock, since, seen, c0, _, _, _, _, _, hh, _⟩ := h
 obtain ⟨es', clock', he, _⟩ := hm
 rw [← e, hh] at he
 cases he
def goneF (left : Int → Bool) (d : Dev) : Dev := d.filter fun p => !left p.1
theorem goneF_ok {left : Int → Bool} {d : Dev} (h : DevOk d) : DevOk (goneF left d) := ⟨h.sort.filter _, fun p hp => h.keys p (List.mem_filter.1 hp).1, fun p hp => h.vols p (List.mem_filter.1 hp).1⟩
theorem goneF_start (d : Dev) : goneF (fun _ => true) d = [] := by simp [goneF]
theorem goneF_end {left : Int → Bool} {d : Dev} (h : ∀ p ∈ d, left p.1 = false) : goneF left d = d := by
 unfold goneF
 rw [List.filter_eq_self]
 intro p hp
 rw [h p hp]
 rfl
theorem goneF_put {left : Int → Bool} {d : Dev} (hs : SortK d) {k : Int} {x : VolM} (hx : (k, x) ∈ d) : putK (goneF left d) k x = goneF (fun z => left z && z != k) d := by
 have hs1 : SortK (goneF left d) := hs.filter _
 refine sort_ext (sort_putK hs1) (hs.filter _) fun p => ?_
 rw [mem_putK hs1]
 unfold goneF
 rw [List.mem_filter, List.mem_filter]
 by_cases e : p.1 = k
 ·have h1 : (!(left p.1 && p.1 != k)) = true := by rw [e]; simp
  constructor
  ·rintro (rfl | ⟨_, h⟩)
   ·exact ⟨hx, h1⟩
   ·exact absurd e h
  ·rintro ⟨hp, _⟩
   have e1 := (getK_mem hs).2 hx
   have e2 := (getK_mem hs).2 (show (p.1, p.2) ∈ d from hp)
   rw [e, e1] at e2
   refine .inl ?_
   obtain ⟨p1, p2⟩ := p
   simp only at e e2
   rw [e, Option.some.inj e2]
 ·have h1 : (!(left p.1 && p.1 != k)) = (!left p.1) := by rw [bne_iff_ne.2 e, Bool.and_true]
  constructor
  ·rintro (rfl | ⟨h, _⟩)
   ·exact absurd rfl e
   ·exact ⟨h.1, h1.trans h.2⟩
  ·rintro ⟨hp, h⟩
   exact .inr ⟨⟨hp, h1.symm.trans h⟩, e⟩
theorem copy_any (base D : Nat) (d : Dev) (w : World) (h : DevAt base w D d) : Calls Tryz.prog 23 #[.pointer (some ⟨D, 0, none⟩)] w fun e w' => ∃ D2, e = .returned (.pointer (some ⟨D2, 0, none⟩)) ∧ DevAt w.heap.size w' D2 d ∧ Gr w w' := by
 obtain ⟨M, mb, h⟩ := h
 haveI := h.blk
 have x0 : w.cell? ⟨D, 0, none⟩ = some (.map (some M)) := (bc 0 h.blk).trans rfl
 haveI : Old D w := h.blk.old
 have HD := hd_ h
 have HT := hd_ (fun W (hW : Gr w W) => there_yes D M W (HD.out.blk.gr hW))
 clear h
 go_enter Tryz.func23, Tryz.ntmps23
 go_wp2_with (first | (go_at_call 19; ((with_reducible refine (HT.out _ gri).mono ?_); rintro _ _ ⟨rfl, g1, rfl⟩)) | (go_at_call 7; ((with_reducible refine (new_any _).mono ?_); rintro _ W2 ⟨D2, rfl, hd2, hg2⟩; have g2 : Gr w W2 := Gr.trans gri hg2; have y0 : W2.cell? ⟨D, 0, none⟩ = some (.map (some M)) := (bc 0 (HD.out.blk.gr g2)).trans rfl; have oD : Old D W2 := (HD.out.blk.gr g2).old)) | (at_range; refine wpList_rangeK rfl _ rfl Tryz.underlying53 (HD.out.all.gr g2) rfl ?_; intro w0 cnt0 hrg0 hg0))
 go_frame
 obtain ⟨M2, mb2, hd2⟩ := hd2
 have HD2 := hd_ (hd2.lower (Gr.below (gri : Gr w (grown w g1))).size)
 have hMl : M < w.heap.size := HD.out.all.lt
 have hW2 := g2.below.size
 have hR0 := hrg0.lt
 go_loopw [15] (fun _ wr => ∃ left cnt mb2, RangeAt .u64 wr M W2.heap.size (d.map (volF mb)) left cnt ∧ DevIn w.heap.size wr D2 M2 mb2 (goneF left d) ∧ Gr w wr) (fun _ wr => wr.rangeLeft M W2.heap.size)
 case atStart => exact ⟨_, _, mb2, hrg0, by rw [goneF_start]; exact HD2.out.gr hg0, g2.trans hg0⟩
 case round =>
  obtain ⟨left, cnt, mb3, hrg, hdd, hgw⟩ := hrel
  have HR := hd_ hrg
  have HDD := hd_ hdd
  have HG := hd_ hgw
  clear hrg hdd hgw
  go_wp2_with (first | (at_next; refine wpList_nextK rfl _ rfl rfl HR.out ?_ ?_) | go_in)
  ·intro _ hl0
   go_wp2
   go_ret
   exact ⟨D2, rfl, ⟨M2, mb3, by rw [← goneF_end (left := left) (fun p hp => hl0 p.1 _ p.1 p.2.1 p.2.2 hp rfl)]; exact HDD.out⟩, HG.out⟩
  ·intro k v w1 cnt1 k' xn xm hp hpe hlk hrg1 hlt hob hen
   obtain ⟨rfl, rfl⟩ : k' = k ∧ v = .agg #[.int .i64 xn, .map (some (mb k'))] := by
    simp only [volF, Prod.mk.injEq] at hpe
    exact ⟨hpe.1, hpe.2.symm⟩
   have g1w : Gr w w1 := Gr.of (hob.below (by have := g2.below.size; omega) HR.out.lt HG.out.below)
   have hdd1 := HDD.out.iter HR.out hob
   have HDD1 := hd_ hdd1
   have HR1 := hd_ hrg1
   have HLT := hd_ hlt
   have HX := hd_ (HD.out.vol _ hp)
   have z0 : w1.cell? ⟨D2, 0, none⟩ = some (.map (some M2)) := (bc 0 hdd1.blk).trans rfl
   haveI : Old D2 w1 := hdd1.blk.old
   clear hdd1 hrg1 hlt hpe
   go_wp2_with (first | go_in)
   refine wp_region_treeT (inCls_ghost _) (Cls.none _) ⟨Gr.of ((Below.refl _ _).drew), trivial⟩ [0, 1, 2, 3, 4, 5, 6, 7, 8] 2 11 (by kernel_rfl) (by kernel_rfl) ?_
   simp only [pick, List.drop, List.take, List.nil_append, List.cons_append]
   repeat (refine wpCalm_step (fun K hK => ?_); go_simp; first | (refine hK _ ?_; clear hK K) | (apply Exists.intro; refine ⟨fun _ => ?_, hK _ ?_⟩; (skip); clear hK K))
   refine wpCalm_nil ?_
   refine ft_effD 9 (by kernel_rfl) (by omega) rfl rfl rfl fun w3 hw3 => effAt_call' 59 #[.map (some (mb k'))] (by go_simp) ((cloneMap_any (mb k') _ w3 (HX.out.gr (g1w.trans (Gr.trans gri hw3.1)))).mono fun e w4 hc => ⟨_, hc.1, ?_⟩)
   obtain ⟨he9, hc, hg⟩ := hc
   refine ⟨⟨fun w4 => MapAt .i64 w4 w3.heap.size (encK bkV xm), fun a b h g => h.gr g⟩, ⟨hw3.1.trans hg, hc⟩, ?_⟩
   have hsz := hw3.1.below.size
   have hb0 : w1.heap.size ≤ w3.heap.size := Nat.le_trans (inferInstance : From w1 _).le hsz
   generalize w3.heap.size = b at *
   clear he9 hc hg w4 e hw3 w3
   simp only [Act.put, stA, List.set]
   refine ft_calmD 10 (.agg #[.int .i64 xn, .map (some b)]) (by kernel_rfl) (by omega) rfl rfl rfl (fun g => by unfold calmAt; go_simp) ?_
   simp only [Act.put, stA, List.set]
   refine ft_end ⟨by kernel_rfl, fun w2 hw2 => ?_⟩
   try simp only [List.drop_succ_cons, List.drop_zero]
   have g3 : Gr w1 w2 := Gr.trans gri hw2.1
   refine wpList_updateK rfl _ _ _ rfl k' _ Tryz.underlying53 Tryz.underlying24 (HDD1.out.all.gr g3) rfl rfl rfl fun W' h1 h2 => ?_
   have hgp := goneF_put (left := left) HD.out.ok.sort hp
   have HD' := HDD1.out.put g3 k' (xn, xm) b hw2.2 (.inl hb0) h1 h2 (by rw [hgp]; exact goneF_ok HD.out.ok) (g1w.below.size)
   rw [hgp] at HD'
   have hr' := (HR1.out.gr g3).only (HDD1.out.all.gr g3) h2 (by have := HDD1.out.bM; omega)
   have hg' : Gr w W' := Gr.of (h2.below HDD1.out.bM (HDD1.out.all.gr g3).lt (g1w.trans g3).below)
   have HDF := hd_ HD'
   have HRF := hd_ hr'
   have HGF := hd_ hg'
   clear HD' hr' hg' h1 h2 hw2 g3 hsz
   try simp only [Act.put]
   go_wp2
   go_roundw
   case rel => exact ⟨fun z => left z && z != k', _, _, HRF.out, HDF.out, HGF.out⟩
   case measure => rw [HRF.out.left_eq, HR.out.left_eq]; exact HLT.out
section
variable {β : Type}
end
/-! A part, sector by sector. -/
/-! Operations. -/
def rbE : EK (Int × Byt) := ⟨fun p => .int .i64 p.1 :: p.2.map bv, 257, 159, 100, 264, .agg (#[.int .i64 0] ++ bkC zB), fun p => p.2.length = 256⟩
structure RV where
 n : Int
 s : Int
 v : Value
def rvE : EK RV := ⟨fun x => [.int .u64 x.n, .int .i64 x.s, x.v], 3, 102, 33, 40, .agg #[.int .u64 0, .int .i64 0, .slice none 0 0], fun x => x.v.oneCell' = true⟩
theorem rvIs : rvE.Is where
 len := fun _ _ => rfl
 one := fun x hx v hv => by
  simp only [rvE, List.mem_cons, List.mem_nil_iff, or_false] at hv
  rcases hv with rfl | rfl | rfl
  ·rfl
  ·rfl
  ·exact hx
 pos := by decide
 hT := Tryz.underlying33
 hE := by kernel_rfl
 hz := rfl
 hb := by decide
def BlkS (W : World) (v : Value) (m : List (Int × Byt)) : Prop :=
 ∃ A c, v = .slice A m.length c ∧ m.length ≤ c ∧ c ≤ maxLen ∧ (A = none → c = 0) ∧ (∀ p ∈ m, p.2.length = 256) ∧ (m ≠ [] → ∃ b p cs f, A = some ⟨b, p, none⟩ ∧ W.heap[b]? = some (.cells cs 159 f) ∧ CellsN rbE W b p m)
theorem BlkS.keep {W W' : World} {v : Value} {m : List (Int × Byt)} (h : BlkS W v m) (hk : ∀ (b : Nat) cs f, W.heap[b]? = some (Obj.cells cs 159 f) → W'.heap[b]? = W.heap[b]?) : BlkS W' v m := by
 obtain ⟨A, c, rfl, h1, h2, h3, h4, h5⟩ := h
 refine ⟨A, c, rfl, h1, h2, h3, h4, fun hm => ?_⟩
 obtain ⟨b, p, cs, f, rfl, hb, hc⟩ := h5 hm
 have e := hk b cs f hb
 refine ⟨b, p, cs, f, rfl, e.trans hb, fun j x hj i u hu => ?_⟩
 rw [← hc j x hj i u hu]
 simp [World.cell?, e]
theorem BlkS.gr {W W' : World} {v : Value} {m : List (Int × Byt)} (h : BlkS W v m) (g : Gr W W') : BlkS W' v m := h.keep fun b _ _ hb => g.below.block b (Array.getElem?_eq_some_iff.1 hb).1
theorem BlkS.nil (W : World) : BlkS W (.slice none 0 0) [] := ⟨none, 0, rfl, Nat.le_refl _, by unfold maxLen; omega, fun _ => rfl, by simp, fun h => absurd rfl h⟩
theorem BlkS.one {W : World} {v : Value} {m : List (Int × Byt)} (h : BlkS W v m) : v.oneCell' = true := by obtain ⟨A, c, rfl, _⟩ := h; rfl
theorem BlkS.row {W : World} {v : Value} {m : List (Int × Byt)} (h : BlkS W v m) : ∃ A c, v = .slice A m.length c ∧ m.length ≤ c ∧ c ≤ maxLen ∧ (A = none → c = 0) ∧ RowN rbE W A m := by
 obtain ⟨A, c, rfl, h1, h2, h3, h4, h5⟩ := h
 refine ⟨A, c, rfl, h1, h2, h3, h4, fun hm => ?_⟩
 obtain ⟨b, p, cs, f, rfl, hb, hc⟩ := h5 hm
 exact ⟨b, p, rfl, (Array.getElem?_eq_some_iff.1 hb).1, hc⟩
def refT (t : TypeId) : Prop := t = 102 ∨ t = 35
structure RK (W W' : World) : Prop where
 size : W.heap.size ≤ W'.heap.size
 keep : ∀ (b : Nat) o, W.heap[b]? = some o → (∀ cs t f, o = Obj.cells cs t f → ¬ refT t) → W'.heap[b]? = some o
theorem RK.refl (W : World) : RK W W := ⟨Nat.le_refl _, fun _ _ h _ => h⟩
theorem RK.gr {W W' : World} (g : Gr W W') : RK W W' := ⟨g.below.size, fun b o h _ => (g.below.block b (Array.getElem?_eq_some_iff.1 h).1).trans h⟩
theorem RK.trans {A B C : World} (h : RK A B) (k : RK B C) : RK A C := ⟨Nat.le_trans h.size k.size, fun b o hb hn => k.keep b o (h.keep b o hb hn) hn⟩
theorem RK.block {W W' : World} (k : RK W W') {B : Nat} {cs : Array Value} {t : TypeId} (hB : BlockAt W B cs t) (ht : ¬ refT t) : BlockAt W' B cs t := ⟨k.keep B _ hB.eq (fun cs' t' f' e => by cases e; exact ht)⟩
theorem RK.set_ {w W : World} (k : RK w W) (B o : Nat) (u : Value) {cs : Array Value} {t : TypeId} {f : Nat × Nat} (hB : W.heap[B]? = some (.cells cs t f)) (ht : refT t) : RK w (W.setCell ⟨B, o, none⟩ u) := by
 refine ⟨by have := k.size; simpa [World.setCell] using this, fun b ob hb hn => ?_⟩
 have h1 := k.keep b ob hb hn
 have hne : b ≠ B := by
  rintro rfl
  rw [hB] at h1
  cases h1
  exact hn _ _ _ rfl ht
 exact (Below.heap_setCell W ⟨B, o, none⟩ u b hne).trans h1
def rvF (vf : Int → Value) (p : Int × VolM) : RV := ⟨p.1, p.2.1, vf p.1⟩
structure RefIn (base : Nat) (W : World) (R : Nat) (v : Value) (vf : Int → Value) (d : Dev) : Prop where
 blk : BlockAt W R #[v] 35
 own : OwnN rvE base W v (d.map (rvF vf))
 vol : ∀ p ∈ d, BlkS W (vf p.1) p.2.2
 bR : base ≤ R
 ok : DevOk d
def RefAt (base : Nat) (W : World) (R : Nat) (d : Dev) : Prop := ∃ v vf, RefIn base W R v vf d
theorem RefIn.gr {base R : Nat} {W W' : World} {v : Value} {vf : Int → Value} {d : Dev} (h : RefIn base W R v vf d) (g : Gr W W') : RefIn base W' R v vf d := ⟨h.blk.gr g, h.own.gr g, fun p hp => (h.vol p hp).gr g, h.bR, h.ok⟩
theorem RefAt.gr {base R : Nat} {W W' : World} {d : Dev} (h : RefAt base W R d) (g : Gr W W') : RefAt base W' R d := by
 obtain ⟨v, vf, h⟩ := h
 exact ⟨v, vf, h.gr g⟩
theorem RefIn.ck {base R : Nat} {W W' : World} {v : Value} {vf : Int → Value} {d : Dev} (h : RefIn base W R v vf d) (g : CK W W') : RefIn base W' R v vf d := by
 refine ⟨g.block h.blk, h.own.keep fun k hk => ?_, fun p hp => (h.vol p hp).keep fun b cs f hb => g.keep b _ _ _ hb, h.bR, h.ok⟩
 rcases h.own.own.2 with ⟨rfl, _⟩ | ⟨b, cap, cur, rfl, _, hh, _⟩
 ·cases hk
 ·have : b = k := by simpa [Value.ownBlock] using hk
  subst this
  exact g.keep _ _ _ _ hh
theorem RefIn.neD {base R : Nat} {W : World} {v : Value} {vf : Int → Value} {d : Dev} (h : RefIn base W R v vf d) {g : Nat} (hg : v.ownBlock = some g) : g ≠ R := by
 rintro rfl
 rcases h.own.own.2 with ⟨rfl, _⟩ | ⟨b, cap, cur, rfl, _, hh, _⟩
 ·cases hg
 ·have e : b = g := by simpa [Value.ownBlock] using hg
  subst e
  have := h.blk.eq
  rw [hh] at this
  cases this
theorem RefIn.form {base R : Nat} {W : World} {v : Value} {vf : Int → Value} {d : Dev} (h : RefIn base W R v vf d) (hd : d ≠ []) : ∃ g c, v = .slice (some ⟨g, 0, none⟩) d.length c ∧ base ≤ g ∧ g < W.heap.size ∧ g ≠ R ∧ d.length ≤ c ∧ c ≤ maxLen ∧ (∃ cs, W.heap[g]? = some (.cells cs 102 (0, 0))) ∧ (∀ (i : Nat) p, d[i]? = some p → W.cell? ⟨g, i * 3 + 0, none⟩ = some (.int .u64 p.1) ∧ W.cell? ⟨g, i * 3 + 1, none⟩ = some (.int .i64 p.2.1) ∧ W.cell? ⟨g, i * 3 + 2, none⟩ = some (vf p.1)) := by
 obtain ⟨g, c, hv, hb, hg, hc, hcm, hcl, _⟩ := h.own.cells rvIs (by simpa using hd)
 rw [List.length_map] at hv hc
 subst hv
 refine ⟨g, c, rfl, hb, hg, h.neD rfl, hc, hcm, ?_, fun i p hp => ?_⟩
 ·rcases h.own.own.2 with ⟨e, _⟩ | ⟨b, cap, cur, e, _, hh, _⟩
  ·cases e
  ·have e2 : g = b := by simp only [Value.slice.injEq, Option.some.injEq, Addr.mk.injEq] at e; exact e.1.1
   subst e2
   exact ⟨_, hh⟩
 ·have hi : (d.map (rvF vf))[i]? = some (rvF vf p) := by rw [List.getElem?_map, hp]; rfl
  have := hcl i _ hi
  refine ⟨?_, ?_, ?_⟩
  ·have := this 0 _ rfl; rwa [Nat.zero_add] at this
  ·have := this 1 _ rfl; rwa [Nat.zero_add] at this
  ·have := this 2 _ rfl; rwa [Nat.zero_add] at this
theorem RefIn.nilv {base R : Nat} {W : World} {v : Value} {vf : Int → Value} {d : Dev} (h : RefIn base W R v vf d) : ∃ A c, v = .slice A d.length c ∧ d.length ≤ c ∧ c ≤ maxLen ∧ (A = none → c = 0) ∧ RowN rvE W A (d.map (rvF vf)) := by
 obtain ⟨A, c, hv, h1, h2, h3⟩ := h.own.form rvIs
 rw [List.length_map] at hv h1
 refine ⟨A, c, hv, h1, h2, fun e => ?_, h3⟩
 subst e
 rcases h.own.own.2 with ⟨e, _⟩ | ⟨b, cap, cur, e, _⟩
 ·rw [hv] at e
  simp only [Value.slice.injEq] at e
  exact e.2.2
 ·rw [hv] at e
  simp only [Value.slice.injEq] at e
  cases e.1
section
variable {W : World} {ops : Array Oper} {rest : List Oper} {o : Oper} {a : Act} {Q : Exit → Act → World → Prop}
theorem wpLoadCs (hgd : o.guard = none) (ty : TypeId) (x : Operand) (ho : o.op = .load ty x) (ad : Addr) (cs : List Value) (d : TypeDesc) (hx : a.eval x = .pointer (some ad)) (hu : Tryz.prog.underlying ty = some d) (hd : (match d with | .struct _ | .array _ _ => true | _ => false) = true) (hi : (Tryz.prog.info? ty).map (·.size) = some cs.length)
  (hc : ∀ j v, cs[j]? = some v → W.cell? (ad.add j) = some v) (h : wpList Tryz.prog ops Q rest (a.put o.dst (.agg cs.toArray)) W) : wpList Tryz.prog ops Q (o :: rest) a W := by
 refine wpList_plain hgd fun K' hK' => ?_
 have hl := run_loadCells_list (P := Tryz.prog) W ad cs hc
 have hrun : (loadVar ty ad).run Tryz.prog W = .ok (.agg cs.toArray) W := by
  cases hq : Tryz.prog.info? ty with
  | none => simp [hq] at hi
  | some i =>
   have hs : i.size = cs.length := by simpa [hq] using hi
   have hagg : (isAgg ty).run Tryz.prog W = .ok true W := by
    unfold isAgg
    rw [Sem.run_bind, run_underlying hu W]
    cases d <;> simp_all
   simp [loadVar, Sem.run_bind, hagg, sizeOf, typeInfo, hq, hs, hl]
 unfold Oper.wp execOp
 simp only [ho, hx, Instr.loadAt, Instr.sureAddr, Sem.run_bind, Sem.run_pure, Result.andThen_ok, hrun]
 exact hK' _ _ h
theorem AppN.same {α : Type} {e : EK α} {base : Nat} {v : Value} {xs : List α} (h : OwnN e base W v xs) (hbase : base ≤ W.heap.size) : AppN e base W v xs [] v W := by
 refine ⟨by simpa using h, Below.refl _ _, Nat.le_refl _, fun _ _ _ h _ => h, fun _ _ _ => rfl, ⟨rfl, rfl, rfl, Nat.le_refl _, fun _ _ _ => rfl⟩, fun b hb => .inl hb⟩
theorem run_append_x {α : Type} {e : EK α} {base : Nat} {v : Value} {xs : List α} (he : e.Is) (ty : TypeId) (hown : OwnN e base W v xs) (A : Option Addr) (ys : List α) (m c : Nat) (hm : ys.length = m) (hn : A = none → c = 0)
  (hr : RowN e W A ys) (hlen : xs.length + ys.length ≤ 100000000) (hbase : base ≤ W.heap.size) : ∃ v' W', (Builtin.append_ #[e.T, e.T] ty #[v, .slice A m c]).run Tryz.prog W = .ok v' W' ∧ AppN e base W v xs ys v' W' := by
 subst hm
 by_cases hy : ys = []
 ·subst hy
  obtain ⟨i0, hi, hz0, hz2, hz3⟩ := info_parts he.hE
  refine ⟨v, W, ?_, AppN.same hown hbase⟩
  cases A with
  | none =>
   obtain rfl := hn rfl
   exact run_append_owned_none W base e.T ty e.E i0 e.k he.hT hi v xs.length (xs.flatMap e.cs) hown.own
  | some ad =>
   rcases hown.own.2 with ⟨rfl, hx0⟩ | ⟨g, cap, cur, rfl, _, _, hnc, _⟩
   ·simp [Builtin.append_, run_underlying he.hT, sizeOf, typeInfo, hi, Builtin.lenOf, Builtin.firstCells, loadCells, loadCellsFrom]
   ·simp [Builtin.append_, run_underlying he.hT, sizeOf, typeInfo, hi, Builtin.lenOf, Builtin.firstCells, hnc, storeCells, loadCells, loadCellsFrom]
 ·obtain ⟨b, p, rfl, hb, hc⟩ := hr.at_ hy
  exact run_append_n he ty hown b p ys c hr.ok hc hlen hbase (by cases ys with | nil => exact absurd rfl hy | cons _ _ => simp)
theorem wp_append_x {α : Type} {e : EK α} {base : Nat} {v : Value} {xs : List α} (he : e.Is) (hgd : o.guard = none) (s x : Operand)
  (ho : o.op = .call { callee := .builtin .append, args := #[s, x], argTypes := #[e.T, e.T] })
  (hs : a.eval s = v) (hown : OwnN e base W v xs) (A : Option Addr) (ys : List α) (m c : Nat) (hm : ys.length = m) (hx : a.eval x = .slice A m c) (hn : A = none → c = 0)
  (hr : RowN e W A ys) (hlen : xs.length + ys.length ≤ 100000000) (hbase : base ≤ W.heap.size)
  (h : ∀ v' W', AppN e base W v xs ys v' W' → wpList Tryz.prog ops Q rest (a.put o.dst v') W') : wpList Tryz.prog ops Q (o :: rest) a W := by
 refine wpList_plain hgd fun K' hK' => ?_
 obtain ⟨v', W', hrun, happ⟩ := run_append_x he o.type hown A ys m c hm hn hr hlen hbase
 unfold Oper.wp execOp
 simp only [ho, resolve, invoke, builtin, Sem.run_bind, Sem.run_pure, Result.andThen_ok, List.map_toArray, List.map_cons, List.map_nil, hs, hx, hrun]
 exact hK' _ _ (h v' W' happ)
theorem effAt_append_x {α : Type} {e : EK α} {base : Nat} {v : Value} {xs : List α} {R : Value → World → Prop} (he : e.Is) (s x : Operand)
  (ho : o.op = .call { callee := .builtin .append, args := #[s, x], argTypes := #[e.T, e.T] })
  (hs : a.eval s = v) (hown : OwnN e base W v xs) (A : Option Addr) (ys : List α) (m c : Nat) (hm : ys.length = m) (hx : a.eval x = .slice A m c) (hn : A = none → c = 0)
  (hr : RowN e W A ys) (hlen : xs.length + ys.length ≤ 100000000) (hbase : base ≤ W.heap.size)
  (h : ∀ v' W', AppN e base W v xs ys v' W' → R v' W') : EffAt Tryz.prog o a W R := by
 obtain ⟨v', W', hrun, happ⟩ := run_append_x he o.type hown A ys m c hm hn hr hlen hbase
 unfold EffAt execOp
 simp only [ho, resolve, invoke, builtin, Sem.run_bind, Sem.run_pure, Result.andThen_ok, List.map_toArray, List.map_cons, List.map_nil, hs, hx, hrun]
 exact h v' W' happ
end



section
variable {W : World} {ops : Array Oper} {rest : List Oper} {o : Oper} {a : Act} {Q : Exit → Act → World → Prop}
end

section
variable {W : World} {o : Oper} {a : Act} {R : Value → World → Prop}
theorem effAt_ok {P : Program} {w w' : World} (u : Value) (h : (execOp a.eval o).run P w = .ok (.value u) w') (hr : R u w') : EffAt P o a w R := by
 unfold EffAt
 rw [h]
 exact hr
end
theorem RowN.take {α : Type} {e : EK α} {W : World} {A : Option Addr} {xs : List α} (h : RowN e W A xs) (k : Nat) : RowN e W A (xs.take k) := ⟨fun x hx => h.ok x (List.mem_of_mem_take hx), fun hne => by
 obtain ⟨b, p, e1, hb, hc⟩ := h.at_ (by rintro rfl; simp at hne)
 exact ⟨b, p, e1, hb, hc.take k⟩⟩
theorem RefIn.row {base R : Nat} {W : World} {A : Option Addr} {n c : Nat} {vf : Int → Value} {d : Dev} (h : RefIn base W R (.slice A n c) vf d) : RowN rvE W A (d.map (rvF vf)) := by
 obtain ⟨A', c', hv, _, _, _, hr⟩ := h.nilv
 simp only [Value.slice.injEq] at hv
 rw [hv.1]
 exact hr
theorem Gr.trans_below {a b c : World} (h : Gr a b) (k : Below a.heap.size b c) : Gr a c := Gr.of (h.below.trans k)

theorem RefIn.setCell {base R : Nat} {W : World} {v : Value} {vf : Int → Value} {d : Dev} (h : RefIn base W R v vf d) (B o : Nat) (u : Value) {cs : Array Value} {t : TypeId} [hB : BlockAt W B cs t] (h1 : t ≠ 35) (h2 : t ≠ 102) (h3 : t ≠ 159) : RefIn base (W.setCell ⟨B, o, none⟩ u) R v vf d := by
 have hR : R ≠ B := fun e => by
  subst e
  have := h.blk.eq
  rw [hB.eq] at this
  cases this
  exact h1 rfl
 refine ⟨⟨(Below.heap_setCell W ⟨B, o, none⟩ u R hR).trans h.blk.eq⟩, h.own.set_ B o u h2, fun p hp => (h.vol p hp).keep fun b cs' f hb => Below.heap_setCell W ⟨B, o, none⟩ u b (fun e => ?_), h.bR, h.ok⟩
 subst e
 rw [hB.eq] at hb
 cases hb
 exact h3 rfl
theorem RK.new {w W : World} (k : RK w W) {B o : Nat} (hB : w.heap.size ≤ B) (u : Value) : RK w (W.setCell ⟨B, o, none⟩ u) := ⟨by have := k.size; simpa [World.setCell] using this, fun b ob hb hn => by
 have hl := (Array.getElem?_eq_some_iff.1 hb).1
 exact (Below.heap_setCell W ⟨B, o, none⟩ u b (by show b ≠ B; omega)).trans (k.keep b ob hb hn)⟩
theorem wpStoreG {W : World} {ops : Array Oper} {rest : List Oper} {o : Oper} {a : Act} {Q : Exit → Act → World → Prop} {ty : TypeId} (hgd : o.guard = none) (x y : Operand) (ho : o.op = .store ty x y) (ad : Addr) (u : Value) (hx : a.eval x = .pointer (some ad)) (hy : a.eval y = u) (W' : World) (hrun : (storeVar ty ad u).run Tryz.prog W = .ok () W')
  (h : wpList Tryz.prog ops Q rest (a.put o.dst undef) W') : wpList Tryz.prog ops Q (o :: rest) a W := by
 refine wpList_plain hgd fun K' hK' => ?_
 unfold Oper.wp execOp
 simp only [ho, hx, hy, Instr.storeAt, Instr.sureAddr, Sem.run_bind, Sem.run_pure, Result.andThen_ok, hrun]
 exact hK' _ _ h
section
variable {P : Program} {ops : Array Oper} {W : World} {Q : Act → Prop} {a : Act} {o : Oper} {rest : List Oper}
theorem wpCalm_load {ty : TypeId} {x : Operand} {B : Nat} {cs : Array Value} {t : TypeId} {d : TypeDesc} (hg : o.guard = none) (ho : o.op = .load ty x) (hx : a.eval x = .pointer (some ⟨B, 0, none⟩)) (hB : BlockAt W B cs t) (hu : P.underlying ty = some d) (hd : (match d with | .struct _ | .array _ _ => true | _ => false) = true) (hi : (P.info? ty).map (·.size) = some cs.size)
  (h : wpCalm P ops W Q rest (a.put o.dst (.agg cs))) : wpCalm P ops W Q (o :: rest) a := by
 unfold wpCalm
 rw [if_pos (by simp [Region.wanted, hg])]
 refine ⟨.agg cs, fun g => ?_, h⟩
 have hB2 : BlockAt (grown W g) B cs t := inferInstance
 unfold calmAt execOp
 simp only [ho, hx, Instr.loadAt, Instr.sureAddr, Sem.run_bind, Sem.run_pure, Result.andThen_ok, run_loadVar_row (grown W g) B t ty cs (0, 0) d hB2.eq hu hd hi]
 simp [calmUpon]
end
section
variable {P : Program} {md : Region.Mode} {ops : Array Oper} {W : World} {L : Blocks → Act → Prop} {f : Nat} {listed : Array Bool} {bs : Blocks} {a : Act}
end
theorem effAt_storeG {w w' : World} {o : Oper} {a : Act} {K : Value → World → Prop} {ty : TypeId} {x y : Operand} {ad : Addr} {u : Value} (ho : o.op = .store ty x y) (hx : a.eval x = .pointer (some ad)) (hy : a.eval y = u) (hrun : (storeVar ty ad u).run Tryz.prog w = .ok () w') (h : K undef w') : EffAt Tryz.prog o a w K := by
 unfold EffAt execOp
 simp only [ho, hx, hy, Instr.storeAt, Instr.sureAddr, Sem.run_bind, Sem.run_pure, Result.andThen_ok, hrun, effUpon]
 exact h
theorem CellsN.rk {α : Type} {e : EK α} {W W' : World} {g p : Nat} {xs : List α} {cs : Array Value} {t : TypeId} {f : Nat × Nat} (h : CellsN e W g p xs) (hh : W.heap[g]? = some (.cells cs t f)) (ht : ¬ refT t) (k : RK W W') : CellsN e W' g p xs := fun j x hj i u hu => by
 rw [← h j x hj i u hu]
 have := k.keep g _ hh (fun cs' t' f' e => by cases e; exact ht)
 simp [World.cell?, this, hh]



def waitsK (md : Region.Mode) (ops : Array Oper) : Nat → Nat → Nat → Bool
 | 0, _, _ => false
 | f + 1, n, i => waitsB md ops n i || (List.range ops.size).any fun p => waitsB md ops n p && waitsK md ops f p i
def Closed (md : Region.Mode) (ops : Array Oper) (listed : Array Bool) : Prop := ∀ (k : Nat) (o : Oper), ops[k]? = some o → listed.getD k false = true → ∀ e ∈ o.after, Region.binds md e = true → listed.getD e.on false = true
section
variable {P : Program} {md : Region.Mode} {ops : Array Oper} {W : World}
theorem closed_waits {listed : Array Bool} (hc : Closed md ops listed) : ∀ (f n i : Nat) (o : Oper), ops[n]? = some o → (∀ e ∈ o.after, Region.binds md e = true → listed.getD e.on false = true) → waitsK md ops f n i = true → listed.getD i false = true
 | 0, n, i, o, ho, hp, h => by cases h
 | f + 1, n, i, o, ho, hp, h => by
  have hw : ∀ p, waitsB md ops n p = true → listed.getD p false = true := fun p hb => by
   unfold waitsB at hb
   rw [ho] at hb
   obtain ⟨e, he, hb⟩ := Array.any_eq_true'.1 hb
   simp only [Bool.and_eq_true, beq_iff_eq] at hb
   rw [← hb.2]
   exact hp e he hb.1
  unfold waitsK at h
  rw [Bool.or_eq_true] at h
  rcases h with h | h
  ·exact hw i h
  ·obtain ⟨p, hpr, h⟩ := List.any_eq_true.1 h
   simp only [Bool.and_eq_true] at h
   have hlp := hw p h.1
   have hps : p < ops.size := List.mem_range.1 hpr
   exact closed_waits hc f p i ops[p] (Array.getElem?_eq_getElem hps) (fun e he hb => hc p ops[p] (Array.getElem?_eq_getElem hps) hlp e he hb) h.2
theorem closed_set {listed : Array Bool} (hc : Closed md ops listed) {j : Nat} {oj : Oper} (hoj : ops[j]? = some oj) (hp : ∀ e ∈ oj.after, Region.binds md e = true → listed.getD e.on false = true) (hj : j < listed.size) : Closed md ops (listed.setIfInBounds j true) := by
 have hmono : ∀ p, listed.getD p false = true → (listed.setIfInBounds j true).getD p false = true := fun p h => by
  by_cases hpj : j = p
  ·subst hpj
   simp [Array.getD, hj]
  ·rw [getD_set_ne false hpj]; exact h
 intro k o ho hk e he hb
 by_cases hkj : j = k
 ·subst hkj
  rw [hoj] at ho
  cases ho
  exact hmono _ (hp e he hb)
 ·rw [getD_set_ne false hkj] at hk
  exact hmono _ (hc k o ho hk e he hb)
theorem feG_firstT {n i fu : Nat} {oi : Oper} {v : Value} {L : StG W → Act → Prop} (hi : ops[i]? = some oi) (hsel : ∀ (j : Nat) (o : Oper) cs b, ops[j]? = some o → o.op ≠ .select cs b) (hw : waitsK md ops fu n i = true) :
  ∀ (f : Nat) (listed : Array Bool) (s : StG W) (a : Act), s.c = true → Closed md ops listed →
   (∀ j oj, ops[j]? = some oj → j ≠ i → listed.getD j true = false → (∀ e ∈ oj.after, Region.binds md e = true → e.on ≠ i) → oi.apart ops oj = true) →
   i ∈ Region.ready md ops listed → CalmOp P ops W oi v a →
   feG P md ops W n L f (listed.setIfInBounds i true) s (a.put oi.dst v) → feG P md ops W n L (f + 1) listed s a := by
 intro f
 induction f with
 | zero =>
  intro listed s a hsc hcl _ hr hy H
  refine ⟨(fun h => by rw [h] at hr; cases hr), fun j hj => ?_⟩
  by_cases hji : j = i
  ·subst hji; exact .inl ⟨hsc, oi, hi, v, hy, H⟩
  ·have := ready_mono hj hji
   rw [H.1] at this
   cases this
 | succ f ih =>
  intro listed s a hsc hcl hfree hr hy H
  have hun := (mem_ready.1 hr).1
  refine ⟨(fun h => by rw [h] at hr; cases hr), fun j hj => ?_⟩
  by_cases hji : j = i
  ·subst hji; exact .inl ⟨hsc, oi, hi, v, hy, H⟩
  have h1 := H.2 j (ready_mono hj hji)
  obtain ⟨hjun, oj, hoj, hall⟩ := mem_ready.1 hj
  have hnot : ∀ e ∈ oj.after, Region.binds md e = true → e.on ≠ i := fun e he hb heq => by
   have h1 := hall e he hb
   rw [heq, getD_both hun] at h1
   cases h1
  have hjn : j ≠ n := by
   rintro rfl
   have := closed_waits hcl fu j i oj hoj hall hw
   rw [getD_both hun] at this
   cases this
  have hjs : j < listed.size := by
   rcases Nat.lt_or_ge j listed.size with h | h
   ·exact h
   ·simp [Array.getD, Nat.not_lt.2 h] at hjun
  have h2 := feOpG_put hoj hjn (hfree j oj hoj hji hjun hnot) (fun cs b => hsel i oi cs b hi) (fun cs b => hsel j oj cs b hoj) hsc hy h1
  have hfree' : ∀ k ok, ops[k]? = some ok → k ≠ i → (listed.setIfInBounds j true).getD k true = false →
    (∀ e ∈ ok.after, Region.binds md e = true → e.on ≠ i) → oi.apart ops ok = true := fun k ok hk hki hu hno => by
   refine hfree k ok hk hki ?_ hno
   by_cases hjk : j = k
   ·subst hjk; exact hjun
   ·rw [getD_set_ne true hjk] at hu; exact hu
  refine feOpG_mono (fun s' a' h3 => ih (listed.setIfInBounds j true) s' a' h3.1 (closed_set hcl hoj hall hjs) hfree' (ready_mono hr (Ne.symm hji)) h3.2.1 ?_) h2
  rw [Array.setIfInBounds_comm _ _ hji]
  exact h3.2.2
end
section
variable {P : Program} {md : Region.Mode} {W : World} {l : List Oper} {L : StG W → Act → Prop}
theorem feG_lexT {n fu : Nat} (hsel : Region.noSelect l.toArray = true) (m : Nat) :
  ∀ (qs : List Nat) (listed : Array Bool) (s : StG W) (a : Act), s.c = true → Closed md l.toArray listed → qs.all (waitsK md l.toArray fu n) = true → freeAll md l.toArray qs listed = true → wpCalm P l.toArray W (fun a' => feG P md l.toArray W n L m (listAll qs listed) s a') (pick l qs) a →
   feG P md l.toArray W n L (qs.length + m) listed s a
 | [], listed, s, a, _, _, _, hB, h => by
  rw [List.length_nil, Nat.zero_add]
  exact h
 | k :: r, listed, s, a, hsc, hcl, hq, hB, h => by
  simp only [freeAll, Bool.and_eq_true] at hB
  obtain ⟨⟨hr, hf⟩, hB'⟩ := hB
  simp only [List.all_cons, Bool.and_eq_true] at hq
  have hr' : k ∈ Region.ready md l.toArray listed := by simpa using hr
  obtain ⟨hun, o, ho, hall⟩ := mem_ready.1 hr'
  have ho' : l[k]? = some o := by simpa using ho
  have hks : k < listed.size := by
   rcases Nat.lt_or_ge k listed.size with h | h
   ·exact h
   ·simp [Array.getD, Nat.not_lt.2 h] at hun
  have hcl' := closed_set hcl ho hall hks
  rw [pick_cons ho'] at h
  rw [show (k :: r).length + m = (r.length + m) + 1 by simp; omega]
  unfold wpCalm at h
  by_cases hw : Region.wanted o (yielded l.toArray a.tmps) = true
  ·simp only [hw, if_true] at h
   obtain ⟨v, hv, hk⟩ := h
   exact feG_firstT ho (Region.noSelect_spec hsel) hq.1 _ listed s a hsc hcl (Region.free_spec ho hf) hr' (.inl ⟨hw, hv⟩) (feG_lexT hsel m r _ _ _ hsc hcl' hq.2 hB' hk)
  ·simp only [hw] at h
   exact feG_firstT ho (Region.noSelect_spec hsel) hq.1 _ listed s a hsc hcl (Region.free_spec ho hf) hr' (.inr ⟨by simpa using hw, rfl⟩) (feG_lexT hsel m r _ _ _ hsc hcl' hq.2 hB' h)
end


structure OpC where
 o : OpM
 D : Option Addr
 n : Nat
 q : Nat
structure OpOk (W : World) (x : OpC) : Prop where
 len : x.o.l.length = x.n
 cap : x.n ≤ x.q
 small : x.n ≤ 1000000
 row : Row bv W x.D x.o.l
 v0 : 0 ≤ x.o.v
 t0 : 0 ≤ x.o.t
theorem OpOk.gr {W W' : World} {x : OpC} (h : OpOk W x) (g : Gr W W') : OpOk W' x := ⟨h.len, h.cap, h.small, h.row.gr g, h.v0, h.t0⟩
abbrev AnsM := Int × Int × Byt
structure AnsC where
 code : Int
 done : Int
 l : Byt
 D : Option Addr
 n : Nat
 q : Nat
def AnsC.m (x : AnsC) : AnsM := (x.code, x.done, x.l)
def ansE : EK AnsC := ⟨fun x => [.int .i64 x.code, .int .i64 x.done, .slice x.D x.n x.q], 3, 38, 41, 40, .agg #[.int .i64 0, .int .i64 0, .slice none 0 0], fun _ => True⟩
theorem ansIs : ansE.Is where
 len := fun _ _ => rfl
 one := fun x _ v hv => by
  simp only [ansE, List.mem_cons, List.mem_nil_iff, or_false] at hv
  rcases hv with rfl | rfl | rfl <;> rfl
 pos := by decide
 hT := Tryz.underlying41
 hE := by kernel_rfl
 hz := rfl
 hb := by decide
structure AnsOk (base : Nat) (W : World) (x : AnsC) : Prop where
 len : x.l.length = x.n
 cap : x.n ≤ x.q
 small : x.n ≤ 1000000
 nil : x.D = none → x.q = 0
 row : x.l ≠ [] → ∃ b p cs f, x.D = some ⟨b, p, none⟩ ∧ base ≤ b ∧ W.heap[b]? = some (.cells cs 5 f) ∧ ∀ (j : Nat) y, x.l[j]? = some y → W.cell? ⟨b, p + j, none⟩ = some (bv y)
def BK (W W' : World) : Prop := ∀ (b : Nat) cs f, W.heap[b]? = some (Obj.cells cs 5 f) → W'.heap[b]? = W.heap[b]?
theorem BK.refl (W : World) : BK W W := fun _ _ _ _ => rfl
theorem BK.gr {W W' : World} (g : Gr W W') : BK W W' := fun b cs f h => g.below.block b (Array.getElem?_eq_some_iff.1 h).1
theorem BK.trans {A B C : World} (h : BK A B) (k : BK B C) : BK A C := fun b cs f hb => (k b cs f ((h b cs f hb).trans hb)).trans (h b cs f hb)
theorem BK.app {α : Type} {e : EK α} {base : Nat} {W W' : World} {v v' : Value} {xs ys : List α} (h : AppN e base W v xs ys v' W') (he : e.E ≠ 5) : BK W W' := fun b cs f hb => h.block b (Array.getElem?_eq_some_iff.1 hb).1 (fun cs' f' e2 => by rw [hb] at e2; exact he (Obj.cells.inj (Option.some.inj e2)).2.1.symm)
theorem BK.ck {W W' : World} (h : CK W W') : BK W W' := fun b cs f hb => h.keep b cs _ f hb
theorem AnsOk.bk {base : Nat} {W W' : World} {x : AnsC} (h : AnsOk base W x) (g : BK W W') : AnsOk base W' x := ⟨h.len, h.cap, h.small, h.nil, fun hne => by
 obtain ⟨b, p, cs, f, h1, h2, h3, h4⟩ := h.row hne
 have e := g b cs f h3
 refine ⟨b, p, cs, f, h1, h2, e.trans h3, fun j y hj => ?_⟩
 rw [← h4 j y hj]
 simp [World.cell?, e]⟩
theorem AnsOk.gr {base : Nat} {W W' : World} {x : AnsC} (h : AnsOk base W x) (g : Gr W W') : AnsOk base W' x := h.bk (BK.gr g)
theorem AnsOk.more {base b2 : Nat} {W : World} {x : AnsC} (h : AnsOk b2 W x) (hb : base ≤ b2) : AnsOk base W x := ⟨h.len, h.cap, h.small, h.nil, fun hne => by
 obtain ⟨b, p, cs, f, h1, h2, h3⟩ := h.row hne
 exact ⟨b, p, cs, f, h1, Nat.le_trans hb h2, h3⟩⟩
theorem ansOk_nil (base : Nat) (W : World) (c d : Int) : AnsOk base W ⟨c, d, [], none, 0, 0⟩ := ⟨rfl, Nat.le_refl _, Nat.zero_le _, fun _ => rfl, fun h => absurd rfl h⟩
theorem AnsOk.rowb {base : Nat} {W : World} {x : AnsC} (h : AnsOk base W x) : Row bv W x.D x.l := ⟨fun hne => by
 obtain ⟨b, p, cs, f, h1, h2, h3, h4⟩ := h.row (by rintro e; rw [e] at hne; simp at hne)
 exact ⟨b, p, h1, (Array.getElem?_eq_some_iff.1 h3).1, h4⟩⟩
theorem ansOk_own {base : Nat} {W : World} {A : Option Addr} {n c : Nat} {l : Byt} {code done : Int} (h : OwnN bE base W (.slice A n c) l) (hl : l.length ≤ 1000000) : AnsOk base W ⟨code, done, l, A, n, c⟩ := by
 obtain ⟨A', c', hv, hc, hm, hr⟩ := h.form bIs
 cases hv
 rcases h.own.2 with ⟨e, h0⟩ | ⟨g, cap, cur, e, hb, hh, _⟩
 ·simp only [Value.slice.injEq] at e
  obtain ⟨rfl, _, rfl⟩ := e
  exact ⟨rfl, hc, hl, fun _ => rfl, fun hne => absurd (List.eq_nil_of_length_eq_zero h0) hne⟩
 ·simp only [Value.slice.injEq] at e
  obtain ⟨rfl, _, rfl⟩ := e
  refine ⟨rfl, hc, hl, (fun e => by cases e), fun hne => ?_⟩
  obtain ⟨g2, c2, hv2, h1, h2, h3, h4, h5, h6⟩ := h.cells bIs hne
  cases hv2
  exact ⟨_, 0, _, _, rfl, h1, hh, fun j y hj => by have := h5 j y hj 0 _ rfl; simpa [bE] using this⟩
theorem gr_app0 {α : Type} {e : EK α} {base : Nat} {W W' : World} {v v' : Value} {xs ys : List α} (h : AppN e base W v xs ys v' W') (h0 : v.ownBlock = none) : Gr W W' :=
 Gr.of ((Below.refl _ _).grown h.gb (Nat.le_refl _) (fun q hq => by rw [h0] at hq; cases hq))
/-! Plainly. -/
def waysK (d : Dev) (o : OpM) : List AnsM :=
 ansK d o 1024 :: if (ansK d o 1024).1 ≠ 0 ∨ o.k = 9 ∨ o.k = 8 then [] else if o.k = 5 ∨ o.k = 6 then (List.range (spans o.a.toNat (cntO o)).length).map (fun k : Nat => ((8, (k : Int), []) : AnsM)) else [(8, 0, [])]
theorem readK_len {d : Dev} (h : DevOk d) (o : OpM) : (readK d o).length ≤ 256 * (spans o.a.toNat o.c.toNat).length := by
 have hx := volD_ok h o.v
 unfold readK
 generalize spans o.a.toNat o.c.toNat = l
 induction l with
 | nil => simp
 | cons s l ih =>
  rw [List.flatMap_cons, List.length_append, List.length_cons]
  have h1 : (cutK (blkM (volD d o.v).2 s.b) s).length ≤ 256 := by
   have := blkM_len hx.sort hx.len s.b
   unfold cutK
   rw [List.length_take, List.length_drop]
   omega
  omega
theorem ansK_len {d : Dev} (h : DevOk d) (o : OpM) (most : Int) : (ansK d o most).2.2.length ≤ 262144 := by
 unfold ansK
 split
 ·rename_i he
  split
  ·simp
  ·split
   ·rename_i h9
    have hm : o.may = true := by
     cases hm : o.may with
     | true => rfl
     | false => rw [errK, if_pos hm] at he; cases he
    have hs := may_s hm
    have h1 := readK_len h o
    have h2 := spans_len o.a.toNat o.c.toNat
    have h3 := hs.cnt (by omega)
    simp only
    omega
   ·simp
 ·simp
theorem ansK_ok {d : Dev} {o : OpM} {most : Int} (h : (ansK d o most).1 = 0) : errK d o = 0 := by
 by_cases he : errK d o = 0
 ·exact he
 ·rw [ansK, if_neg he] at h
  exact absurd h he
theorem err_may {d : Dev} {o : OpM} (he : errK d o = 0) : o.may = true := by
 cases hm : o.may with
 | true => rfl
 | false => rw [errK, if_pos hm] at he; cases he
/-! The walks. -/
theorem writes_any (xk xv xt xs xa xc : Int) (xD : Option Addr) (xn xq : Nat) (w : World) : Calls Tryz.prog 25 #[(Value.agg #[.int .i64 xk, .int .u64 xv, .int .u64 xt, .int .i64 xs, .int .i64 xa, .int .i64 xc, .slice xD xn xq])] w fun e w' => e = .returned (.bool (decide (xk = 5 ∨ xk = 6))) ∧ Gr w w' := by
 by_cases h5 : xk = 5
 ·subst h5
  go_enter Tryz.func25, Tryz.ntmps25
  go_wp2
  go_ret
  exact ⟨rfl, gri⟩
 by_cases h6 : xk = 6
 ·subst h6
  go_enter Tryz.func25, Tryz.ntmps25
  go_wp2
  go_ret
  exact ⟨rfl, gri⟩
 have h5' : (xk == 5) = false := by simpa using h5
 have h6' : (xk == 6) = false := by simpa using h6
 have H5 := hd_ h5
 have H6 := hd_ h6
 clear h5 h6
 go_enter Tryz.func25, Tryz.ntmps25
 go_wp2
 go_ret
 exact ⟨by rw [decide_eq_false (fun h => h.elim H5.out H6.out)]; rfl, gri⟩
theorem looks_any (xk xv xt xs xa xc : Int) (xD : Option Addr) (xn xq : Nat) (w : World) : Calls Tryz.prog 24 #[(Value.agg #[.int .i64 xk, .int .u64 xv, .int .u64 xt, .int .i64 xs, .int .i64 xa, .int .i64 xc, .slice xD xn xq])] w fun e w' => e = .returned (.bool (decide (xk = 9 ∨ xk = 8))) ∧ Gr w w' := by
 by_cases h5 : xk = 9
 ·subst h5
  go_enter Tryz.func24, Tryz.ntmps24
  go_wp2
  go_ret
  exact ⟨rfl, gri⟩
 by_cases h6 : xk = 8
 ·subst h6
  go_enter Tryz.func24, Tryz.ntmps24
  go_wp2
  go_ret
  exact ⟨rfl, gri⟩
 have h5' : (xk == 9) = false := by simpa using h5
 have h6' : (xk == 8) = false := by simpa using h6
 have H5 := hd_ h5
 have H6 := hd_ h6
 clear h5 h6
 go_enter Tryz.func24, Tryz.ntmps24
 go_wp2
 go_ret
 exact ⟨by rw [decide_eq_false (fun h => h.elim H5.out H6.out)]; rfl, gri⟩
theorem touches_5 (xv xt xs xc : Int) (a c : Nat) (xD : Option Addr) (xn xq : Nat) (hc : xn / 64 = c) (ha : a ≤ 1048576) (h1 : 1 ≤ c) (h2 : c ≤ 1048576) (w : World) : Calls Tryz.prog 26 #[.agg #[.int .i64 5, .int .u64 xv, .int .u64 xt, .int .i64 xs, .int .i64 (a : Int), .int .i64 xc, .slice xD xn xq]] w fun e w' => e = .returned (.int .i64 ((spans a c).length : Int)) ∧ Gr w w' := by
 have e : (xn : Int) / 64 = (c : Int) := by omega
 have e2 : Int.tdiv (xn : Int) 64 = (c : Int) := by rw [Int.tdiv_eq_ediv_of_nonneg (by omega)]; exact e
 have HB := hd_ (fun W => blocks_any a c ha h1 h2 W)
 clear e
 go_enter Tryz.func26, Tryz.ntmps26
 go_wp2_with ((go_at_call 60; ((with_reducible refine (HB.out _).mono ?_); rintro _ _ ⟨rfl, g, rfl⟩)))
 go_ret
 exact ⟨rfl, gri⟩
theorem touches_6 (xk xv xt xs : Int) (hk : ¬ xk = 5) (a c : Nat) (xD : Option Addr) (xn xq : Nat) (ha : a ≤ 1048576) (h1 : 1 ≤ c) (h2 : c ≤ 1048576) (w : World) : Calls Tryz.prog 26 #[.agg #[.int .i64 xk, .int .u64 xv, .int .u64 xt, .int .i64 xs, .int .i64 (a : Int), .int .i64 (c : Int), .slice xD xn xq]] w fun e w' => e = .returned (.int .i64 ((spans a c).length : Int)) ∧ Gr w w' := by
 have hk' : (xk == 5) = false := by simpa using hk
 have HB := hd_ (fun W => blocks_any a c ha h1 h2 W)
 clear hk
 go_enter Tryz.func26, Tryz.ntmps26
 go_wp2_with ((go_at_call 60; ((with_reducible refine (HB.out _).mono ?_); rintro _ _ ⟨rfl, g, rfl⟩)))
 go_ret
 exact ⟨rfl, gri⟩
def WaysPost (d : Dev) (o : OpM) (w : World) (e : Ending) (w' : World) : Prop :=
 ∃ v xs, e = .returned v ∧ OwnN ansE w.heap.size w' v xs ∧ xs.map AnsC.m = waysK d o ∧ (∀ x ∈ xs, AnsOk w.heap.size w' x) ∧ Gr w w'
def fullA (k : Nat) : AnsC := ⟨8, (k : Int), [], none, 0, 0⟩
theorem ways_any (xk xv xt xs xa xc : Int) (xD : Option Addr) (xn xq : Nat) (hq : xn ≤ xq) (lx : Byt) (hxn : lx.length = xn) (base D : Nat) (d : Dev) (w : World) (h : DevAt base w D d) (hr : Row bv w xD lx) (hn : xn ≤ 1000000) :
  Calls Tryz.prog 11 #[.pointer (some ⟨D, 0, none⟩), (Value.agg #[.int .i64 xk, .int .u64 xv, .int .u64 xt, .int .i64 xs, .int .i64 xa, .int .i64 xc, .slice xD xn xq])] w (WaysPost d ⟨xk, xv, xt, xs, xa, xc, lx⟩ w) := by
 have HC := hd_ (fun W (g : Gr w W) => copy_any base D d W (h.gr g))
 have hok : DevOk d := by obtain ⟨M, mb, h⟩ := h; exact h.ok
 have hlen := ansK_len hok ⟨xk, xv, xt, xs, xa, xc, lx⟩ 1024
 have HDo0 := fun W b D2 (h2 : DevAt b W D2 d) (g : Gr w W) => do_any xk xv xt xs xa xc xD xn xq hq lx hxn b D2 d W h2 (by obtain ⟨M, mb, h3⟩ := h2; exact Nat.le_trans h3.bD (Nat.le_of_lt h3.blk.lt)) (hr.gr g) hn
 obtain ⟨o, ho⟩ : ∃ o : OpM, o = ⟨xk, xv, xt, xs, xa, xc, lx⟩ := ⟨_, rfl⟩
 have ek : o.k = xk := by rw [ho]
 have ea : o.a = xa := by rw [ho]
 have ec : o.c = xc := by rw [ho]
 have el : o.l.length = xn := by rw [ho]; exact hxn
 rw [← ho] at hlen HDo0 ⊢
 clear ho
 have hw0 : waysK d o = ansK d o 1024 :: if (ansK d o 1024).1 ≠ 0 ∨ o.k = 9 ∨ o.k = 8 then [] else if o.k = 5 ∨ o.k = 6 then (List.range (spans o.a.toNat (cntO o)).length).map (fun k : Nat => ((8, (k : Int), []) : AnsM)) else [(8, 0, [])] := rfl
 have hz0 : (ansK d o 1024).1 = 0 → errK d o = 0 := ansK_ok
 generalize ansK d o 1024 = z at *
 obtain ⟨code, done, data⟩ := z
 simp only at hlen HDo0 hw0 hz0
 have HDo := hd_ HDo0
 have HLN : Hid (data.length ≤ 1000000) := hd_ (by omega)
 clear HDo0 hlen h hr
 have fin : ∀ (x0 : AnsC) (W' : World) v, x0.m = (code, done, data) → (waysK d o = [(code, done, data)]) → OwnN ansE w.heap.size W' v ([] ++ [x0]) → AnsOk w.heap.size W' x0 → Gr w W' → WaysPost d o w (.returned v) W' := fun x0 W' v e1 e2 ho hx hg =>
  ⟨v, [x0], rfl, ho, by rw [e2, List.map_singleton, e1], fun x hx' => by rw [List.mem_singleton] at hx'; subst hx'; exact hx, hg⟩
 have FIN := hd_ fin
 clear fin
 by_cases hc0 : code = 0
 rotate_left
 ·have hcb : (code != 0) = true := bne_iff_ne.2 hc0
  have HW := hd_ (show waysK d o = [(code, done, data)] by rw [hw0, if_pos (.inl hc0)])
  clear hw0 hc0 hz0
  go_enter Tryz.func11, Tryz.ntmps11
  go_wp2_with (first
   | (go_at_call 23; ((with_reducible refine (HC.out _ gri).mono ?_); rintro _ W2 ⟨D2, rfl, hd2, ⟨g2, rfl⟩⟩))
   | (go_at_call 8; ((with_reducible refine (HDo.out _ _ _ (hd2.gr gri) gri).mono ?_); rintro _ W3 ⟨A3, n3, c3, rfl, ho3, hd3, hb3, hk3⟩; have bO := hk3.block (inferInstance : BlockAt _ w.heap.size #[.int .i64 xk, .int .u64 xv, .int .u64 xt, .int .i64 xs, .int .i64 xa, .int .i64 xc, .slice xD xn xq] 27); have cO0 : W3.cell? ⟨w.heap.size, 0, none⟩ = some (.int .i64 xk) := (bc 0 bO).trans rfl; have cO1 : W3.cell? ⟨w.heap.size, 1, none⟩ = some (.int .u64 xv) := (bc 1 bO).trans rfl; have cO2 : W3.cell? ⟨w.heap.size, 2, none⟩ = some (.int .u64 xt) := (bc 2 bO).trans rfl; have cO3 : W3.cell? ⟨w.heap.size, 3, none⟩ = some (.int .i64 xs) := (bc 3 bO).trans rfl; have cO4 : W3.cell? ⟨w.heap.size, 4, none⟩ = some (.int .i64 xa) := (bc 4 bO).trans rfl; have cO5 : W3.cell? ⟨w.heap.size, 5, none⟩ = some (.int .i64 xc) := (bc 5 bO).trans rfl; have cO6 : W3.cell? ⟨w.heap.size, 6, none⟩ = some (.slice xD xn xq) := (bc 6 bO).trans rfl; haveI := bO.old; have hgw3 : Gr w W3 := Gr.of ((Gr.below (gri : Gr w _)).trans (hb3.mono (by simp))); haveI := grc_of hgw3; haveI := from_of hgw3; have HA3 := hd_ (ansOk_own (code := code) (done := done) (ho3.more (base := w.heap.size) (Gr.below (gri : Gr w _)).size) HLN.out); clear ho3 hd3 hb3 hk3 hgw3 bO))
   | (at_builtin; refine wp_append_n (base := w.heap.size) (v := .slice none 0 0) (xs := []) ansIs rfl _ _ rfl rfl (OwnN.nil _ _) _ 0 [⟨code, done, data, A3, n3, c3⟩] 1 1 rfl rfl (fun _ _ => trivial) (CellsN.block _ inferInstance rfl) (by simp) past (by simp) ?_; intro v1 W1 h1; obtain ⟨g5, rfl⟩ := gr_app0 h1 rfl; have H1 := hd_ h1; clear h1))
  refine bodyPost_ret (results_tmp rfl _ _ _) rfl ?_
  exact FIN.out _ _ _ rfl HW.out (H1.out.own.gr gri) (HA3.out.gr gri) gri
 subst hc0
 have he := hz0 rfl
 have hs := may_s (err_may he)
 by_cases h98 : xk = 9 ∨ xk = 8
 ·have HW := hd_ (show waysK d o = [(0, done, data)] by rw [hw0, if_pos (.inr (by rw [ek]; exact h98))])
  have HLK := hd_ (fun W => looks_any xk xv xt xs xa xc xD xn xq W)
  rw [decide_eq_true h98] at HLK
  clear hw0 hz0 h98 he hs
  go_enter Tryz.func11, Tryz.ntmps11
  go_wp2_with (first
   | (go_at_call 23; ((with_reducible refine (HC.out _ gri).mono ?_); rintro _ W2 ⟨D2, rfl, hd2, ⟨g2, rfl⟩⟩))
   | (go_at_call 8; ((with_reducible refine (HDo.out _ _ _ (hd2.gr gri) gri).mono ?_); rintro _ W3 ⟨A3, n3, c3, rfl, ho3, hd3, hb3, hk3⟩; have bO := hk3.block (inferInstance : BlockAt _ w.heap.size #[.int .i64 xk, .int .u64 xv, .int .u64 xt, .int .i64 xs, .int .i64 xa, .int .i64 xc, .slice xD xn xq] 27); have cO0 : W3.cell? ⟨w.heap.size, 0, none⟩ = some (.int .i64 xk) := (bc 0 bO).trans rfl; have cO1 : W3.cell? ⟨w.heap.size, 1, none⟩ = some (.int .u64 xv) := (bc 1 bO).trans rfl; have cO2 : W3.cell? ⟨w.heap.size, 2, none⟩ = some (.int .u64 xt) := (bc 2 bO).trans rfl; have cO3 : W3.cell? ⟨w.heap.size, 3, none⟩ = some (.int .i64 xs) := (bc 3 bO).trans rfl; have cO4 : W3.cell? ⟨w.heap.size, 4, none⟩ = some (.int .i64 xa) := (bc 4 bO).trans rfl; have cO5 : W3.cell? ⟨w.heap.size, 5, none⟩ = some (.int .i64 xc) := (bc 5 bO).trans rfl; have cO6 : W3.cell? ⟨w.heap.size, 6, none⟩ = some (.slice xD xn xq) := (bc 6 bO).trans rfl; haveI := bO.old; have hgw3 : Gr w W3 := Gr.of ((Gr.below (gri : Gr w _)).trans (hb3.mono (by simp))); haveI := grc_of hgw3; haveI := from_of hgw3; have HA3 := hd_ (ansOk_own (code := 0) (done := done) (ho3.more (base := w.heap.size) (Gr.below (gri : Gr w _)).size) HLN.out); clear ho3 hd3 hb3 hk3 hgw3 bO))
   | (at_builtin; refine wp_append_n (base := w.heap.size) (v := .slice none 0 0) (xs := []) ansIs rfl _ _ rfl rfl (OwnN.nil _ _) _ 0 [⟨0, done, data, A3, n3, c3⟩] 1 1 rfl rfl (fun _ _ => trivial) (CellsN.block _ inferInstance rfl) (by simp) past (by simp) ?_; intro v1 W1 h1; obtain ⟨g5, rfl⟩ := gr_app0 h1 rfl; have H1 := hd_ h1; clear h1)
   | (go_at_call 24; ((with_reducible refine (HLK.out _).mono ?_); rintro _ _ ⟨rfl, g6, rfl⟩)))
  refine bodyPost_ret (results_tmp rfl _ _ _) rfl ?_
  exact FIN.out _ _ _ rfl HW.out (H1.out.own.gr gri) (HA3.out.gr gri) gri
 have HLK := hd_ (fun W => looks_any xk xv xt xs xa xc xD xn xq W)
 rw [decide_eq_false h98] at HLK
 have HWR := hd_ (fun W => writes_any xk xv xt xs xa xc xD xn xq W)
 by_cases h56 : xk = 5 ∨ xk = 6
 rotate_left
 ·have HW := hd_ (show waysK d o = [(0, done, data), (8, 0, [])] by rw [hw0, if_neg (by rw [ek]; simpa using h98), if_neg (by rw [ek]; exact h56)])
  rw [decide_eq_false h56] at HWR
  clear hw0 hz0 h98 he hs h56
  go_enter Tryz.func11, Tryz.ntmps11
  go_wp2_with (first
   | (go_at_call 23; ((with_reducible refine (HC.out _ gri).mono ?_); rintro _ W2 ⟨D2, rfl, hd2, ⟨g2, rfl⟩⟩))
   | (go_at_call 8; ((with_reducible refine (HDo.out _ _ _ (hd2.gr gri) gri).mono ?_); rintro _ W3 ⟨A3, n3, c3, rfl, ho3, hd3, hb3, hk3⟩; have bO := hk3.block (inferInstance : BlockAt _ w.heap.size #[.int .i64 xk, .int .u64 xv, .int .u64 xt, .int .i64 xs, .int .i64 xa, .int .i64 xc, .slice xD xn xq] 27); have cO0 : W3.cell? ⟨w.heap.size, 0, none⟩ = some (.int .i64 xk) := (bc 0 bO).trans rfl; have cO1 : W3.cell? ⟨w.heap.size, 1, none⟩ = some (.int .u64 xv) := (bc 1 bO).trans rfl; have cO2 : W3.cell? ⟨w.heap.size, 2, none⟩ = some (.int .u64 xt) := (bc 2 bO).trans rfl; have cO3 : W3.cell? ⟨w.heap.size, 3, none⟩ = some (.int .i64 xs) := (bc 3 bO).trans rfl; have cO4 : W3.cell? ⟨w.heap.size, 4, none⟩ = some (.int .i64 xa) := (bc 4 bO).trans rfl; have cO5 : W3.cell? ⟨w.heap.size, 5, none⟩ = some (.int .i64 xc) := (bc 5 bO).trans rfl; have cO6 : W3.cell? ⟨w.heap.size, 6, none⟩ = some (.slice xD xn xq) := (bc 6 bO).trans rfl; haveI := bO.old; have hgw3 : Gr w W3 := Gr.of ((Gr.below (gri : Gr w _)).trans (hb3.mono (by simp))); haveI := grc_of hgw3; haveI := from_of hgw3; have HA3 := hd_ (ansOk_own (code := 0) (done := done) (ho3.more (base := w.heap.size) (Gr.below (gri : Gr w _)).size) HLN.out); clear ho3 hd3 hb3 hk3 hgw3 bO))
   | (at_builtin; refine wp_append_n (base := w.heap.size) (v := .slice none 0 0) (xs := []) ansIs rfl _ _ rfl rfl (OwnN.nil _ _) _ 0 [⟨0, done, data, A3, n3, c3⟩] 1 1 rfl rfl (fun _ _ => trivial) (CellsN.block _ inferInstance rfl) (by simp) past (by simp) ?_; intro v1 W1 h1; obtain ⟨g5, rfl⟩ := gr_app0 h1 rfl; have H1 := hd_ h1; clear h1)
   | (at_builtin; refine wp_append_n (v := v1) ansIs rfl _ _ rfl rfl (H1.out.own.gr gri) _ 0 [fullA 0] 1 1 rfl rfl (fun _ _ => trivial) (CellsN.block _ inferInstance rfl) (by simp) past (by simp) ?_; intro v2 W4 h2; have H2 := hd_ h2; clear h2; haveI := H2.out.grc w (Nat.le_refl _); haveI := H2.out.from_ w)
   | (go_at_call 24; ((with_reducible refine (HLK.out _).mono ?_); rintro _ _ ⟨rfl, g6, rfl⟩))
   | (go_at_call 25; ((with_reducible refine (HWR.out _).mono ?_); rintro _ _ ⟨rfl, g7, rfl⟩)))
  refine bodyPost_ret (results_tmp rfl _ _ _) rfl ?_
  exact ⟨v2, [⟨0, done, data, A3, n3, c3⟩, fullA 0], rfl, H2.out.own.gr gri, by rw [HW.out]; rfl, fun x hx => by
   simp only [List.mem_cons, List.mem_nil_iff, or_false] at hx
   rcases hx with rfl | rfl
   ·exact ((HA3.out.gr gri).bk (BK.app H2.out (by decide))).gr gri
   ·exact ansOk_nil _ _ _ _, gri⟩
 have ha := hs.at_ (by rw [ek]; omega)
 rw [ea] at ha
 obtain ⟨a, rfl⟩ : ∃ a : Nat, xa = (a : Int) := ⟨xa.toNat, by omega⟩
 obtain ⟨c, hcn⟩ : ∃ c, cntO o = c := ⟨_, rfl⟩
 have hc1 : 1 ≤ c ∧ c ≤ 1048576 := by
  rw [← hcn, cntO, ek]
  rcases h56 with h | h
  ·have h1 := hs.dat (by rw [ek]; exact h)
   rw [if_pos h]
   omega
  ·have h1 := hs.cnt (by rw [ek]; omega)
   rw [if_neg (by omega)]
   omega
 have hT : ∀ W, Calls Tryz.prog 26 #[.agg #[.int .i64 xk, .int .u64 xv, .int .u64 xt, .int .i64 xs, .int .i64 (a : Int), .int .i64 xc, .slice xD xn xq]] W fun e w' => e = .returned (.int .i64 ((spans a c).length : Int)) ∧ Gr W w' := fun W => by
  rw [cntO, ek] at hcn
  by_cases h5 : xk = 5
  ·rw [if_pos h5, el] at hcn
   subst h5
   exact touches_5 xv xt xs xc a c xD xn xq hcn (by omega) hc1.1 hc1.2 W
  ·rw [if_neg h5, ec] at hcn
   have h6 := hs.cnt (by rw [ek]; omega)
   rw [ec] at h6
   obtain rfl : xc = (c : Int) := by omega
   exact touches_6 xk xv xt xs h5 a c xD xn xq (by omega) hc1.1 hc1.2 W
 have HT := hd_ hT
 have hN := spans_len a c
 have hw1 : waysK d o = (0, done, data) :: (List.range (spans a c).length).map (fun k : Nat => ((8, (k : Int), []) : AnsM)) := by
  rw [hw0, if_neg (by rw [ek]; simpa using h98), if_pos (by rw [ek]; exact h56), ea, hcn]
  rfl
 rw [decide_eq_true h56] at HWR
 generalize (spans a c).length = N at *
 have HW := hd_ hw1
 have HN : Hid (N ≤ 1048576) := hd_ (by omega)
 clear hw0 hw1 hz0 h98 he hs h56 hT hN hc1 hcn ha
 go_enter Tryz.func11, Tryz.ntmps11
 go_wp2_with (first
  | (go_at_call 23; ((with_reducible refine (HC.out _ gri).mono ?_); rintro _ W2 ⟨D2, rfl, hd2, ⟨g2, rfl⟩⟩))
  | (go_at_call 8; ((with_reducible refine (HDo.out _ _ _ (hd2.gr gri) gri).mono ?_); rintro _ W3 ⟨A3, n3, c3, rfl, ho3, hd3, hb3, hk3⟩; have bO := hk3.block (inferInstance : BlockAt _ w.heap.size #[.int .i64 xk, .int .u64 xv, .int .u64 xt, .int .i64 xs, .int .i64 (a : Int), .int .i64 xc, .slice xD xn xq] 27); have cO0 : W3.cell? ⟨w.heap.size, 0, none⟩ = some (.int .i64 xk) := (bc 0 bO).trans rfl; have cO1 : W3.cell? ⟨w.heap.size, 1, none⟩ = some (.int .u64 xv) := (bc 1 bO).trans rfl; have cO2 : W3.cell? ⟨w.heap.size, 2, none⟩ = some (.int .u64 xt) := (bc 2 bO).trans rfl; have cO3 : W3.cell? ⟨w.heap.size, 3, none⟩ = some (.int .i64 xs) := (bc 3 bO).trans rfl; have cO4 : W3.cell? ⟨w.heap.size, 4, none⟩ = some (.int .i64 (a : Int)) := (bc 4 bO).trans rfl; have cO5 : W3.cell? ⟨w.heap.size, 5, none⟩ = some (.int .i64 xc) := (bc 5 bO).trans rfl; have cO6 : W3.cell? ⟨w.heap.size, 6, none⟩ = some (.slice xD xn xq) := (bc 6 bO).trans rfl; haveI := bO.old; have hgw3 : Gr w W3 := Gr.of ((Gr.below (gri : Gr w _)).trans (hb3.mono (by simp))); haveI := grc_of hgw3; haveI := from_of hgw3; have HA3 := hd_ (ansOk_own (code := 0) (done := done) (ho3.more (base := w.heap.size) (Gr.below (gri : Gr w _)).size) HLN.out); clear ho3 hd3 hb3 hk3 hgw3 bO))
  | (at_builtin; refine wp_append_n (base := w.heap.size) (v := .slice none 0 0) (xs := []) ansIs rfl _ _ rfl rfl (OwnN.nil _ _) _ 0 [⟨0, done, data, A3, n3, c3⟩] 1 1 rfl rfl (fun _ _ => trivial) (CellsN.block _ inferInstance rfl) (by simp) past (by simp) ?_; intro v1 W1 h1; obtain ⟨g5, rfl⟩ := gr_app0 h1 rfl; have H1 := hd_ h1; clear h1)
  | (go_at_call 24; ((with_reducible refine (HLK.out _).mono ?_); rintro _ _ ⟨rfl, g6, rfl⟩))
  | (go_at_call 25; ((with_reducible refine (HWR.out _).mono ?_); rintro _ _ ⟨rfl, g7, rfl⟩))
  | (go_at_call 26; ((with_reducible refine (HT.out _).mono ?_); rintro _ _ ⟨rfl, g8, rfl⟩)))
 have HO1 := hd_ (show OwnN ansE w.heap.size _ v1 ([(⟨0, done, data, A3, n3, c3⟩ : AnsC)] ++ (List.range 0).map fullA) from H1.out.own)
 go_loopw [4, 31] (fun v i wr => ∃ k : Nat, k ≤ N ∧ i = .int .i64 (k : Int) ∧ OwnN ansE w.heap.size wr v ([(⟨0, done, data, A3, n3, c3⟩ : AnsC)] ++ (List.range k).map fullA) ∧ AnsOk w.heap.size wr ⟨0, done, data, A3, n3, c3⟩ ∧ Gr w wr) (fun _ i _ => N - (intOf i).toNat)
 case atStart => exact ⟨0, Nat.zero_le _, rfl, HO1.out.gr gri, HA3.out.gr gri, gri⟩
 case round =>
  obtain ⟨k, hk, rfl, ho, hx, hg⟩ := hrel
  haveI := grc_of hg
  haveI := from_of hg
  have HO := hd_ ho
  have HX := hd_ hx
  have HG := hd_ hg
  clear ho hx hg
  by_cases hlt : k < N
  ·have HLT := hd_ hlt
   have hNN := HN.out
   go_wp2_with (first | (at_builtin; refine wp_append_n ansIs rfl _ _ rfl rfl (HO.out.gr gri) _ 0 [fullA k] 1 1 rfl rfl (fun _ _ => trivial) (CellsN.block _ inferInstance rfl) (by have := HN.out; simp; omega) past (by simp) ?_; intro v2 W4 h2; have H2 := hd_ h2; clear h2))
   go_roundw
   case rel => exact ⟨k + 1, HLT.out, by go_num, by rw [List.range_succ, List.map_append, ← List.append_assoc]; exact H2.out.own, (HX.out.gr gri).bk (BK.app H2.out (by decide)), by haveI := H2.out.grc w (Nat.le_refl _); exact gri⟩
   case measure => have := HN.out; have := HLT.out; simp [intOf]; omega
  ·have : k = N := by omega
   subst this
   go_wp2
   refine bodyPost_ret (results_tmp rfl _ _ _) rfl ?_
   refine ⟨_, _, rfl, HO.out, ?_, fun x hx => ?_, HG.out⟩
   ·rw [HW.out, List.map_append, List.map_map]
    rfl
   ·rcases List.mem_append.1 hx with hx | hx
    ·rw [List.mem_singleton] at hx
     subst hx
     exact HX.out
    ·obtain ⟨k', _, rfl⟩ := List.mem_map.1 hx
     exact ansOk_nil _ _ _ _
theorem waysK_len (d : Dev) (o : OpM) : (waysK d o).length ≤ 100000 := by
 unfold waysK
 rw [List.length_cons]
 split
 ·simp
 ·rename_i h
  split
  ·rename_i h5
   rw [List.length_map, List.length_range]
   have h1 := spans_len o.a.toNat (cntO o)
   simp only [not_or, ne_eq, Classical.not_not] at h
   have hs := may_s (err_may (ansK_ok h.1))
   have h2 : cntO o ≤ 1024 := by
    unfold cntO
    split
    ·have := hs.dat (by assumption)
     omega
    ·have := hs.cnt (by omega)
     omega
   omega
  ·simp
theorem ansCells {W : World} {b p : Nat} {l : List AnsC} {k : Nat} {x : AnsC} (h : CellsN ansE W b p l) (hx : l[k]? = some x) : W.cell? ⟨b, p + k * 3, none⟩ = some (.int .i64 x.code) ∧ W.cell? ⟨b, p + k * 3 + 1, none⟩ = some (.int .i64 x.done) ∧ W.cell? ⟨b, p + k * 3 + 2, none⟩ = some (.slice x.D x.n x.q) :=
 ⟨h k x hx 0 _ rfl, h k x hx 1 _ rfl, h k x hx 2 _ rfl⟩
theorem strOf_bytes (l : List UInt8) : strOfNums (l.map fun b => ((b.toNat : Nat) : Int)) = ⟨l.toArray⟩ := by
 unfold strOfNums
 congr 2
 rw [List.map_map]
 conv => rhs; rw [← List.map_id l]
 refine List.map_congr_left (fun b _ => ?_)
 show UInt8.ofNat b.toNat = b
 simp
theorem conv_row (A : Option Addr) (n q : Nat) (l : List UInt8) (W : World) (hl : l.length = n) (hr : Row bv W A l) : (convert 25 9 (.slice A n q)).run Tryz.prog W = .ok (.string ⟨l.toArray⟩) W := by
 by_cases h0 : l = []
 ·subst h0
  obtain rfl : n = 0 := by simpa using hl.symm
  cases A with
  | none => exact run_convert_bytes_nil W 25 5 Tryz.underlying25 Tryz.underlying5 0 q 9 Tryz.underlying9
  | some a =>
   rw [run_convert_bytes_string W 25 9 5 (some a) 0 q Tryz.underlying25 Tryz.underlying5 Tryz.underlying9]
   rw [run_bytesToString W a 0 q [] (by simpa using run_loadCells_list (P := Tryz.prog) W a [] (fun j v hj => by simp at hj))]
   rfl
 ·obtain ⟨b, o, rfl, hb, hc⟩ := hr.at_ h0
  rw [run_convert_bytes_arg W 25 5 Tryz.underlying25 Tryz.underlying5 b o n q (l.map fun b => ((b.toNat : Nat) : Int)) (by simpa using hl) (fun i hi => ?_) 9 Tryz.underlying9, strOf_bytes]
  have hil : i < l.length := by omega
  rw [hc i l[i] (List.getElem?_eq_getElem hil)]
  simp [bv, List.getD, List.getElem?_map, List.getElem?_eq_getElem hil]
def sameM (x y : AnsM) : Bool := x.1 == y.1 && (x.2.1 == y.2.1 && x.2.2 == y.2.2)
def doneK (d : Dev) (o : OpM) (a : AnsM) : Dev := if a.1 = 8 then (if o.k = 5 ∨ o.k = 6 then partK d o a.2.1 else d) else doK d o
theorem done_any (xk xv xt xs xa xc : Int) (xD : Option Addr) (xn xq : Nat) (hq : xn ≤ xq) (lx : Byt) (hxn : lx.length = xn) (base D : Nat) (d : Dev) (code dn : Int) (A : Option Addr) (n q : Nat) (la : Byt) (w : World) (h : DevAt base w D d) (hr : Row bv w xD lx) (hn : xn ≤ 1000000) :
  Calls Tryz.prog 96 #[.pointer (some ⟨D, 0, none⟩), (Value.agg #[.int .i64 xk, .int .u64 xv, .int .u64 xt, .int .i64 xs, .int .i64 xa, .int .i64 xc, .slice xD xn xq]), .agg #[.int .i64 code, .int .i64 dn, .slice A n q]] w fun e w' => ∃ D2, e = .returned (.pointer (some ⟨D2, 0, none⟩)) ∧ DevAt w.heap.size w' D2 (doneK d ⟨xk, xv, xt, xs, xa, xc, lx⟩ (code, dn, la)) ∧ Gr w w' := by
 have HC := hd_ (fun W (g : Gr w W) => copy_any base D d W (h.gr g))
 have HDo := hd_ (fun W b D2 (h2 : DevAt b W D2 d) (g : Gr w W) => do_any xk xv xt xs xa xc xD xn xq hq lx hxn b D2 d W h2 (by obtain ⟨M, mb, h3⟩ := h2; exact Nat.le_trans h3.bD (Nat.le_of_lt h3.blk.lt)) (hr.gr g) hn)
 have HPa := hd_ (fun W b D2 (h2 : DevAt b W D2 d) (g : Gr w W) => part_any xk xv xt xs xa xc dn xD xn xq hq lx hxn b D2 d W h2 (by obtain ⟨M, mb, h3⟩ := h2; exact Nat.le_trans h3.bD (Nat.le_of_lt h3.blk.lt)) (hr.gr g) hn)
 have HWR := hd_ (fun W => writes_any xk xv xt xs xa xc xD xn xq W)
 have hdef : doneK d ⟨xk, xv, xt, xs, xa, xc, lx⟩ (code, dn, la) = if code = 8 then (if xk = 5 ∨ xk = 6 then partK d ⟨xk, xv, xt, xs, xa, xc, lx⟩ dn else d) else doK d ⟨xk, xv, xt, xs, xa, xc, lx⟩ := rfl
 generalize doneK d ⟨xk, xv, xt, xs, xa, xc, lx⟩ (code, dn, la) = dz at *
 clear h hr
 by_cases h8 : code = 8
 ·rw [if_pos h8] at hdef
  subst h8
  by_cases h56 : xk = 5 ∨ xk = 6
  ·rw [if_pos h56] at hdef
   rw [decide_eq_true h56] at HWR
   have HZ := hd_ hdef
   clear h56 hdef
   go_enter Tryz.func96, Tryz.ntmps96
   go_wp2_with (first
    | (go_at_call 23; ((with_reducible refine (HC.out _ gri).mono ?_); rintro _ W2 ⟨D2, rfl, hd2, ⟨g2, rfl⟩⟩))
    | (go_at_call 25; ((with_reducible refine (HWR.out _).mono ?_); rintro _ _ ⟨rfl, g3, rfl⟩))
    | (go_at_call 17; ((with_reducible refine (HPa.out _ _ _ (hd2.gr gri) gri).mono ?_); rintro _ W3 ⟨A3, n3, c3, rfl, ho3, hd3, hb3, hk3⟩; have hgw3 : Gr w W3 := Gr.of ((Gr.below (gri : Gr w _)).trans (hb3.mono (by simp; omega))); haveI := grc_of hgw3; haveI := from_of hgw3; have cA0 := hk3.cell (show (World.cell? _ ⟨w.heap.size + 1, 0, none⟩) = some (.int .i64 8) from (by go_simp)); have HD3 := hd_ hd3; haveI : Old (w.heap.size + 1) W3 := old_of_cell cA0; clear ho3 hd3 hb3 hk3)))
   go_ret
   obtain ⟨M3, mb3, hd3⟩ := HD3.out
   exact ⟨D2, rfl, by rw [HZ.out]; exact DevAt.gr ⟨M3, mb3, hd3.lower (by simp; omega)⟩ gri, gri⟩
  ·rw [if_neg h56] at hdef
   rw [decide_eq_false h56] at HWR
   have HZ := hd_ hdef
   clear h56 hdef
   go_enter Tryz.func96, Tryz.ntmps96
   go_wp2_with (first
    | (go_at_call 23; ((with_reducible refine (HC.out _ gri).mono ?_); rintro _ W2 ⟨D2, rfl, hd2, ⟨g2, rfl⟩⟩))
    | (go_at_call 25; ((with_reducible refine (HWR.out _).mono ?_); rintro _ _ ⟨rfl, g3, rfl⟩)))
   go_ret
   obtain ⟨M3, mb3, hd3⟩ := hd2
   exact ⟨D2, rfl, by rw [HZ.out]; exact DevAt.gr ⟨M3, mb3, hd3.lower (by simp; omega)⟩ gri, gri⟩
 ·rw [if_neg h8] at hdef
  have hne : (code != 8) = true := bne_iff_ne.2 h8
  have heq : (code == 8) = false := by simpa using h8
  have HZ := hd_ hdef
  clear hdef h8
  go_enter Tryz.func96, Tryz.ntmps96
  go_wp2_with (first
   | (go_at_call 23; ((with_reducible refine (HC.out _ gri).mono ?_); rintro _ W2 ⟨D2, rfl, hd2, ⟨g2, rfl⟩⟩))
   | (go_at_call 8; ((with_reducible refine (HDo.out _ _ _ (hd2.gr gri) gri).mono ?_); rintro _ W3 ⟨A3, n3, c3, rfl, ho3, hd3, hb3, hk3⟩; have hgw3 : Gr w W3 := Gr.of ((Gr.below (gri : Gr w _)).trans (hb3.mono (by simp; omega))); haveI := grc_of hgw3; haveI := from_of hgw3; have HD3 := hd_ hd3; clear ho3 hd3 hb3 hk3)))
  go_ret
  obtain ⟨M3, mb3, hd3⟩ := HD3.out
  exact ⟨D2, rfl, by rw [HZ.out]; exact DevAt.gr ⟨M3, mb3, hd3.lower (by simp; omega)⟩ gri, gri⟩
theorem bequal_any (A B : Option Addr) (n m q r : Nat) (l k : Byt) (w : World) (hl : l.length = n) (hk : k.length = m) (h1 : Row bv w A l) (h2 : Row bv w B k) : Calls Tryz.prog 98 #[.slice A n q, .slice B m r] w fun e w' => e = .returned (.bool (l == k)) ∧ Gr w w' := by
 have v1 := conv_row A n q l w hl h1
 have v2 := conv_row B m r k w hk h2
 clear h1 h2
 go_enter Tryz.func98, Tryz.ntmps98
 go_wp2
 go_ret
 exact ⟨by simp, gri⟩
theorem same_any24 (x y : AnsC) (b1 b2 : Nat) (w : World) (hx : AnsOk b1 w x) (hy : AnsOk b2 w y) : Calls Tryz.prog 67 #[.agg #[.int .i64 x.code, .int .i64 x.done, .slice x.D x.n x.q], .agg #[.int .i64 y.code, .int .i64 y.done, .slice y.D y.n y.q]] w fun e w' => e = .returned (.bool (sameM x.m y.m)) ∧ Gr w w' := by
 have HE := hd_ (fun W (g : Gr w W) => bequal_any x.D y.D x.n y.n x.q y.q x.l y.l W hx.len hy.len (hx.gr g).rowb (hy.gr g).rowb)
 obtain ⟨c1, d1, l1, A1, n1, q1⟩ := x
 obtain ⟨c2, d2, l2, A2, n2, q2⟩ := y
 simp only [AnsC.m, sameM] at HE ⊢
 clear hx hy
 cases h1 : (c1 == c2)
 ·go_enter Tryz.func67, Tryz.ntmps67
  go_wp2
  go_ret
  exact ⟨rfl, gri⟩
 cases h2 : (d1 == d2)
 ·go_enter Tryz.func67, Tryz.ntmps67
  go_wp2
  go_ret
  exact ⟨rfl, gri⟩
 go_enter Tryz.func67, Tryz.ntmps67
 go_wp2_with ((go_at_call 98; ((with_reducible refine (HE.out _ gri).mono ?_); rintro _ _ ⟨rfl, g3, rfl⟩)))
 go_ret
 exact ⟨by simp, gri⟩
theorem never_any (code dn : Int) (A : Option Addr) (n q : Nat) (w : World) (h : (code == 11 || code == 13 || code == 10) = false) : Calls Tryz.prog 31 #[.agg #[.int .i64 code, .int .i64 dn, .slice A n q]] w fun e w' => e = .returned (.bool false) ∧ Gr w w' := by
 simp only [Bool.or_eq_false_iff] at h
 obtain ⟨⟨h1, h2⟩, h3⟩ := h
 go_enter Tryz.func31, Tryz.ntmps31
 go_wp2
 go_ret
 exact ⟨rfl, gri⟩
@[go_sem] theorem eqMapA (m : Option Nat) (w : World) : (binOp .eql 77 (.map m) (.map none)).run Tryz.prog w = .ok (.bool m.isNone) w := by
 have := run_eql_map_nil (P := Tryz.prog) w 77 _ _ m Tryz.underlying77
 simpa using this
@[go_sem] theorem taMapA (m : Option Nat) (w : World) : (Instr.typeAssert (.iface 77 (.map m)) 20 77 false).run Tryz.prog w = .ok (.map m) w := by kernel_rfl
theorem cloneMapA (b : Nat) (L : List (Int × Value)) (w : World) (h : MapAt .u64 w b L) : Calls Tryz.prog 97 #[.map (some b)] w fun e w' => e = .returned (.map (some w.heap.size)) ∧ MapAt .u64 w' w.heap.size L ∧ Gr w w' := by
 obtain ⟨h1, h2⟩ := map_clone (P := Tryz.prog) h 77
 have hc := run_callFunc_extern Tryz.func90 (by kernel_rfl) (by kernel_rfl) (by kernel_rfl) (e := Extern.MapsClone.clone) (by kernel_rfl) #[.iface 77 (.map (some b))] w
 rw [h1] at hc
 simp only [Result.andThen] at hc
 have hg : Gr w (w.alloc (w.heap[b]?.getD default)) := Gr.of (below_alloc (Below.refl _ _) _)
 generalize w.alloc (w.heap[b]?.getD default) = W2 at *
 have H := hd_ h2
 have HG := hd_ hg
 clear h1 h2 hg
 go_enter Tryz.func97, Tryz.ntmps97
 go_wp2
 go_ret
 exact ⟨rfl, H.out, HG.out⟩
end Go.Proofs.YtddckdhnolmjoaaGreat
namespace Go.Proofs.YtddckdhnolmjoaaGreat
open Go.RowKit Go.MapKept
section
variable {F : Fence} {n : Nat} {P : Program} {W : World} {ops : Array Oper} {rest : List Oper} {o : Oper} {a : Act} {Q : Exit → Act → World → Prop} {q : IntKind} {b r : Nat} {L : List (Int × Value)} {left : Int → Bool} {cnt : Nat} {t kt et : TypeId}
theorem wpListIn_rangeK (hgd : o.guard = none) (m : Operand) (ho : o.op = .range t m) (ht : P.underlying t = some (.map kt et)) (hm : MapAt q W b L) (hm2 : a.eval m = .map (some b))
  (h : ∀ W' cnt, RangeAt q W' b W.heap.size L (fun _ => true) cnt → Gr W W' → wpListIn F n P ops Q rest (a.put o.dst (.pointer (some ⟨W.heap.size, 0, none⟩))) W') : wpListIn F n P ops Q (o :: rest) a W := by
 refine wpListIn_plain hgd fun K hK => ?_
 obtain ⟨W', cnt, hrun, h1, h2⟩ := range_start (P := P) ht hm
 unfold Oper.wpIn
 refine ⟨?_, ?_⟩
 ·simp [Oper.about, ho]
 ·rw [Oper.semAt_plain F _ _ (by rw [ho]; intro c hc; cases hc)]
  simp [execOp, ho, hm2, hrun, Result.andThen]
  exact hK _ _ (h W' cnt h1 h2)
theorem wpListIn_nextK (hgd : o.guard = none) (it : Operand) (ho : o.op = .next it false) (hit : a.eval it = .pointer (some ⟨r, 0, none⟩)) (h : RangeAt q W b r L left cnt)
  (hDone : cnt = 0 → (∀ p ∈ L, left p.1 = false) → wpListIn F n P ops Q rest (a.put o.dst (.tuple #[.bool false])) W)
  (hMore : ∀ (k : Int) (v : Value) (W' : World) (cnt' : Nat), (k, v) ∈ L → left k = true → RangeAt q W' b r L (fun z => left z && z != k) cnt' → cnt' < cnt → OnlyB W W' r → (Instr.entry (.pointer (some ⟨r, 0, none⟩))).run P W' = .ok (.tuple #[.int q k, v]) W' → wpListIn F n P ops Q rest (a.put o.dst (.tuple #[.bool true, .int q k, v])) W') : wpListIn F n P ops Q (o :: rest) a W := by
 refine wpListIn_plain hgd fun K hK => ?_
 unfold Oper.wpIn
 refine ⟨?_, ?_⟩
 ·simp [Oper.about, ho]
 ·rw [Oper.semAt_plain F _ _ (by rw [ho]; intro c hc; cases hc)]
  rcases h.next (P := P) o.type with ⟨h0, hl, hrun⟩ | ⟨k, v, W', cnt', h1, h2, hrun, h3, h4, h5, h6⟩
  ·simp [execOp, ho, hit, hrun, Result.andThen]
   exact hK _ _ (hDone h0 hl)
  ·simp [execOp, ho, hit, hrun, Result.andThen]
   exact hK _ _ (hMore k v W' cnt' h1 h2 h3 h4 h5 h6)
end
end Go.Proofs.YtddckdhnolmjoaaGreat
