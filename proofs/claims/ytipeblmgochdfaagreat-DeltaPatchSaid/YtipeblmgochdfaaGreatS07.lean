/- A loop over a map whose keys are integers, whose round may strike the key that has come. Conditions: none. For Device.Copy: what of a device has been copied. Conditions: none. The reference's device: add. Conditions: the device stands in memory; no such volume; at most 10^6 volumes. slices.Clone of bytes; part.Cut, part.Data, part.Merge. Conditions: what is read stands in memory; a part of a block is one. part.Data. Conditions: the data stand in memory; the part is one of theirs. Stretches of two volumes, plainly. Conditions: none. delta.beside, delta.kind, delta.stretches, delta.Rows. Conditions: the device stands in memory. part.Merge. Conditions: the data stand in memory, and have room in the block. part.Over: the parts, one behind the other, to whatever loop keeps all but its own. Conditions: what is captured stands in memory. part.Split: the parts as a slice. Conditions: a place of at most 2^20, 1 to 2^20 sectors. -/
import Derived.Test.YtipeblmgochdfaaGreatS01
import Derived.Maps.RangeWalk
import Derived.Test.YtipeblmgochdfaaGreatS05
import Derived.Test.YtipeblmgochdfaaGreatS02
import Derived.Stop.BytesEq
import Derived.Laws.CopyOwn
import Derived.RangeFuncNested
import Derived.RangeFuncBound
import Derived.RangeFuncCalls
import Derived.RangeFuncLeaves
import Derived.Shelf.Abstract
import Derived.Shelf.RegionOpen
import Derived.OwnWalkIn
import Derived.TacticsInMore
import Derived.LoopNIn
import Derived.LoopIn
import Derived.RangeFuncFrom
namespace Go.Proofs.YtipeblmgochdfaaGreat
open Go.RowKit Go.MapKept
open Go.ChangeMaps (setBlock heap_setBlock_same heap_setBlock_other)
set_option linter.unusedVariables false
set_option linter.unusedSimpArgs false
set_option linter.unnecessarySimpa false
def RangeAt (q : IntKind) (W : World) (b r : Nat) (L : List (Int × Value)) (left : Int → Bool) (cnt : Nat) : Prop :=
 ∃ es clock since seen c0, W.heap[b]? = some (.map es clock) ∧ Stamped es clock ∧ (∀ x ∈ es.toList, IsKey (.int q) x.key) ∧ (∀ k v, (∃ x ∈ es.toList, x.key = .int q k ∧ x.val = v) ↔ (k, v) ∈ L) ∧ SortK L ∧
  W.heap[r]? = some (.mapIter (some b) since seen c0) ∧ (∀ x ∈ es.toList, x.born < since) ∧ (leftOf es seen).size = cnt ∧ (∀ x ∈ es.toList, ∀ k, x.key = .int q k → left k = !seen.contains x.born) ∧ since ≤ c0 ∧ since ≤ clock
section
variable {P : Program} {W : World} {q : IntKind} {b r : Nat} {L : List (Int × Value)} {left : Int → Bool} {cnt : Nat} {t kt et : TypeId}
theorem RangeAt.map (h : RangeAt q W b r L left cnt) : MapAt q W b L := by
 obtain ⟨es, clock, since, seen, c0, h1, h2, h3, h4, h5, _⟩ := h
 exact ⟨es, clock, h1, h2, h3, h4, h5⟩
theorem RangeAt.left_eq (h : RangeAt q W b r L left cnt) : W.rangeLeft b r = cnt := by
 obtain ⟨es, clock, since, seen, c0, hb, _, _, _, _, hr, _, hc, _⟩ := h
 simp only [World.rangeLeft, hb, hr]
 exact hc
theorem RangeAt.ne (h : RangeAt q W b r L left cnt) : r ≠ b := by
 obtain ⟨es, clock, since, seen, c0, hb, _, _, _, _, hr, _⟩ := h
 intro e
 rw [e, hb] at hr
 cases hr
theorem RangeAt.lt (h : RangeAt q W b r L left cnt) : r < W.heap.size := by
 obtain ⟨es, clock, since, seen, c0, hb, _, _, _, _, hr, _⟩ := h
 exact (Array.getElem?_eq_some_iff.1 hr).1
theorem RangeAt.gr {W' : World} (h : RangeAt q W b r L left cnt) (g : Gr W W') : RangeAt q W' b r L left cnt := by
 have h1 := h.map.lt
 have h2 := h.lt
 obtain ⟨es, clock, since, seen, c0, hb, a1, a2, a3, a4, hr, rest⟩ := h
 exact ⟨es, clock, since, seen, c0, (g.below.block b h1).trans hb, a1, a2, a3, a4, (g.below.block r h2).trans hr, rest⟩
theorem isKey_int {v : Value} (h : IsKey (.int q) v) : ∃ k, v = .int q k := by
 cases v <;> simp [IsKey] at h
 subst h
 exact ⟨_, rfl⟩
theorem range_start (ht : P.underlying t = some (.map kt et)) (h : MapAt q W b L) :
  ∃ W' cnt, (Instr.range t (.map (some b))).run P W = .ok (.pointer (some ⟨W.heap.size, 0, none⟩)) W' ∧ RangeAt q W' b W.heap.size L (fun _ => true) cnt ∧ Gr W W' := by
 have hlt := h.lt
 obtain ⟨es, clock, hb, hst, hkk, hm, hs⟩ := h
 refine ⟨_, _, run_range_map W t kt et b es clock ht hb, ⟨es, clock, clock, #[], clock, ((MapKept.heap_alloc W _).2 b hlt).trans hb, hst, hkk, hm, hs, (MapKept.heap_alloc W _).1, hst.1, rfl, fun x _ k _ => by simp, Nat.le_refl _, Nat.le_refl _⟩, Gr.of ⟨rfl, rfl, rfl, by simp, fun k hk => (MapKept.heap_alloc W _).2 k hk⟩⟩
theorem RangeAt.next (h : RangeAt q W b r L left cnt) (ty : TypeId) :
  (cnt = 0 ∧ (∀ p ∈ L, left p.1 = false) ∧ (Instr.next (.pointer (some ⟨r, 0, none⟩)) false ty).run P W = .ok (.tuple #[.bool false]) W) ∨
  ∃ k v W' cnt', (k, v) ∈ L ∧ left k = true ∧ (Instr.next (.pointer (some ⟨r, 0, none⟩)) false ty).run P W = .ok (.tuple #[.bool true, .int q k, v]) W' ∧
   RangeAt q W' b r L (fun z => left z && z != k) cnt' ∧ cnt' < cnt ∧ OnlyB W W' r ∧ (Instr.entry (.pointer (some ⟨r, 0, none⟩))).run P W' = .ok (.tuple #[.int q k, v]) W' := by
 have hne := h.ne
 obtain ⟨es, clock, since, seen, c0, hb, hst, hkk, hm, hs, hr, hold, rfl, hl, hsc, hsk⟩ := h
 rcases _root_.Go.run_next_at (P := P) W ty r b since c0 seen es clock hr hb hold hsc with ⟨h0, hrun⟩ | ⟨e, he, w1, hal, hrun⟩
 ·refine .inl ⟨h0, fun p hp => ?_, hrun⟩
  obtain ⟨x, hx, e1, _⟩ := (hm p.1 p.2).2 hp
  rw [hl x hx p.1 e1, all_seen es seen h0 x hx]
  rfl
 ·obtain ⟨hem, hes⟩ := mem_left he
  obtain ⟨k, hk⟩ := isKey_int (hkk e hem)
  have hr1 : w1.heap[r]? = some (.mapIter (some b) since seen c0) := by rcases hal with rfl | rfl <;> exact hr
  have hb1 : w1.heap[b]? = some (.map es clock) := by rcases hal with rfl | rfl <;> exact hb
  have hset := heap_set (o' := .mapIter (some b) since (seen.push e.born) clock) hr1
  have hb' : (setBlock w1 r (.mapIter (some b) since (seen.push e.born) clock)).heap[b]? = some (.map es clock) := (hset.2 b (fun e1 => hne e1.symm)).trans hb1
  have hen := _root_.Go.run_entry_at (P := P) _ r b since seen es clock e hset.1 hb' hem hst.2.1
  rw [hk] at hrun hen
  refine .inr ⟨k, e.val, _, _, (hm k e.val).1 ⟨e, hem, hk, rfl⟩, by rw [hl e hem k hk, hes]; rfl, hrun, ⟨es, clock, since, seen.push e.born, clock, hb', hst, hkk, hm, hs, hset.1, hold, rfl, fun x hx j hj => ?_, hsk, hsk⟩, left_shrinks es seen e he, ⟨?_, ?_⟩, hen⟩
  ·show (left j && j != k) = _
   rw [hl x hx j hj, contains_push]
   have hbk : (j != k) = !(x.born == e.born) := by
    by_cases hjk : j = k
    ·have hxe : x = e := entry_eq_of_key ((stamped_iff es clock).1 hst).2.2 hx hem (by rw [hj, hk, hjk])
     simp [hjk, hxe]
    ·have hb2 : x.born ≠ e.born := fun e1 => hjk (by
      have := born_inj hst.2.1 hx hem e1
      rw [this, hk] at hj
      cases hj; rfl)
     rw [beq_eq_false_iff_ne.2 hb2]
     exact bne_iff_ne.2 hjk
   rw [hbk]
   cases seen.contains x.born <;> cases (x.born == e.born) <;> rfl
  ·rcases hal with rfl | rfl <;> exact ⟨rfl, rfl, rfl, by simp [setBlock], fun i _ hi => hset.2 i (fun e1 => hi (by rw [e1]))⟩
  ·rcases hal with rfl | rfl <;> simp [setBlock]
theorem RangeAt.drop (ht : P.underlying t = some (.map kt et)) (hk : P.underlying kt = some (.int q)) (h : RangeAt q W b r L left cnt) (k : Int) (ty : TypeId) :
  ∃ W' cnt', (Builtin.delete_ #[t, kt] ty #[.map (some b), .int q k]).run P W = .ok (.tuple #[]) W' ∧ RangeAt q W' b r (delK L k) left cnt' ∧ cnt' ≤ cnt ∧ OnlyB W W' b := by
 have hne := h.ne
 obtain ⟨es, clock, since, seen, c0, hb, hst, hkk, hm, hs, hr, hold, rfl, hl, hsc, hsk⟩ := h
 have hck := fun e => run_checkKey (P := P) (w := W) (k := .int q k) hk rfl e 9999
 have hgo := MapKept.run_getObj_map (P := P) hb
 have hso := fun o => MapKept.run_setObj_map (P := P) o hb
 have hdel : ∀ p, p ∈ delK L k ↔ p ∈ L ∧ p.1 ≠ k := fun p => by simp [delK]
 have e1 : ∀ a : Array MapEntry, (leftOf a seen).size = (a.toList.filter fun e => !seen.contains e.born).length := fun a => by
  unfold leftOf
  rw [← Array.toList_filter, Array.length_toList]
 rcases mapAt_find hkk hm hs k with ⟨hg, hf, hne'⟩ | ⟨i, e, hf, hi, hek, hg⟩
 ·have hfk := run_findKey (P := P) (w := W) hk hf
  refine ⟨_, _, ?_, ⟨es, clock, since, seen, c0, (heap_set hb).1, hst, hkk, fun j u => ?_, sort_delK hs, ((heap_set hb).2 r hne).trans hr, hold, rfl, hl, hsc, hsk⟩, Nat.le_refl _, only_set hb⟩
  ·simp [Builtin.delete_, Sem.run_bind, run_underlying ht W, hgo, hck, hfk, hso]
  ·rw [hdel, hm j u]
   exact ⟨fun h => ⟨h, fun e => getK_none.1 hg _ h e⟩, fun h => h.1⟩
 ·have hfk := run_findKey (P := P) (w := W) hk hf
  have hi' : es[i]? = some e := by rw [← Array.getElem?_toList]; exact hi
  have hil : i < es.size := (Array.getElem?_eq_some_iff.1 hi').1
  have hel : (es.eraseIdxIfInBounds i).toList = es.toList.eraseIdx i := by
   unfold Array.eraseIdxIfInBounds
   rw [dif_pos hil]; simp
  have hmem : ∀ x, x ∈ (es.eraseIdxIfInBounds i).toList ↔ x ∈ es.toList ∧ x.key ≠ .int q k := fun x => by
   rw [hel, List.mem_eraseIdx_iff_getElem?]
   constructor
   ·rintro ⟨j, hj, hx⟩
    exact ⟨List.mem_of_getElem? hx, fun he => hj (keys_inj hst.2.2 hx hi (by rw [hek, he]))⟩
   ·rintro ⟨hx, hne⟩
    obtain ⟨j, hj⟩ := List.mem_iff_getElem?.1 hx
    exact ⟨j, (by rintro rfl; rw [hi] at hj; cases hj; exact hne hek), hj⟩
  refine ⟨_, _, ?_, ⟨es.eraseIdxIfInBounds i, clock, since, seen, c0, (heap_set hb).1, stamped_erase hst i, fun x hx => hkk x ((hmem x).1 hx).1, fun j u => ?_, sort_delK hs, ((heap_set hb).2 r hne).trans hr, fun x hx => hold x ((hmem x).1 hx).1, rfl, fun x hx => hl x ((hmem x).1 hx).1, hsc, hsk⟩, ?_, only_set hb⟩
  ·simp [Builtin.delete_, Sem.run_bind, run_underlying ht W, hgo, hck, hfk, hso]
  ·rw [hdel, ← hm j u]
   constructor
   ·rintro ⟨x, hx, e1, e2⟩
    have h1 := (hmem x).1 hx
    exact ⟨⟨x, h1.1, e1, e2⟩, fun h => h1.2 (e1.trans (by have : j = k := h; rw [this]))⟩
   ·rintro ⟨⟨x, hx, e1, e2⟩, h2⟩
    exact ⟨x, (hmem x).2 ⟨hx, by rw [e1]; intro h; cases h; exact h2 rfl⟩, e1, e2⟩
  ·rw [e1, e1, hel]
   exact ((List.eraseIdx_sublist _ _).filter _).length_le
end
section
variable {P : Program} {ops : Array Oper} {rest : List Oper} {o : Oper} {a : Act} {Q : Exit → Act → World → Prop} {W : World} {q : IntKind} {b r : Nat} {L : List (Int × Value)} {left : Int → Bool} {cnt : Nat} {t kt et : TypeId}
theorem wpList_rangeK (hgd : o.guard = none) (m : Operand) (ho : o.op = .range t m) (ht : P.underlying t = some (.map kt et)) (hm : MapAt q W b L) (hm2 : a.eval m = .map (some b))
  (h : ∀ W' cnt, RangeAt q W' b W.heap.size L (fun _ => true) cnt → Gr W W' → wpList P ops Q rest (a.put o.dst (.pointer (some ⟨W.heap.size, 0, none⟩))) W') : wpList P ops Q (o :: rest) a W := by
 refine wpList_plain hgd fun K hK => ?_
 obtain ⟨W', cnt, hrun, h1, h2⟩ := range_start (P := P) ht hm
 unfold Oper.wp
 simp [execOp, ho, hm2, hrun, Result.andThen]
 exact hK _ _ (h W' cnt h1 h2)
theorem wpList_nextK (hgd : o.guard = none) (it : Operand) (ho : o.op = .next it false) (hit : a.eval it = .pointer (some ⟨r, 0, none⟩)) (h : RangeAt q W b r L left cnt)
  (hDone : cnt = 0 → (∀ p ∈ L, left p.1 = false) → wpList P ops Q rest (a.put o.dst (.tuple #[.bool false])) W)
  (hMore : ∀ (k : Int) (v : Value) (W' : World) (cnt' : Nat), (k, v) ∈ L → left k = true → RangeAt q W' b r L (fun z => left z && z != k) cnt' → cnt' < cnt → OnlyB W W' r → (Instr.entry (.pointer (some ⟨r, 0, none⟩))).run P W' = .ok (.tuple #[.int q k, v]) W' → wpList P ops Q rest (a.put o.dst (.tuple #[.bool true, .int q k, v])) W') : wpList P ops Q (o :: rest) a W := by
 refine wpList_plain hgd fun K hK => ?_
 unfold Oper.wp
 rcases h.next (P := P) o.type with ⟨h0, hl, hrun⟩ | ⟨k, v, W', cnt', h1, h2, hrun, h3, h4, h5, h6⟩
 ·simp [execOp, ho, hit, hrun, Result.andThen]
  exact hK _ _ (hDone h0 hl)
 ·simp [execOp, ho, hit, hrun, Result.andThen]
  exact hK _ _ (hMore k v W' cnt' h1 h2 h3 h4 h5 h6)
theorem wpList_dropK (hgd : o.guard = none) (m x : Operand) (ho : o.op = .call { callee := .builtin .delete, args := #[m, x], argTypes := #[t, kt] }) (key : Int) (ht : P.underlying t = some (.map kt et)) (hk : P.underlying kt = some (.int q)) (hm : RangeAt q W b r L left cnt) (hm2 : a.eval m = .map (some b)) (hx : a.eval x = .int q key)
  (h : ∀ W' cnt', RangeAt q W' b r (delK L key) left cnt' → cnt' ≤ cnt → OnlyB W W' b → wpList P ops Q rest (a.put o.dst (.tuple #[])) W') : wpList P ops Q (o :: rest) a W := by
 refine wpList_plain hgd fun K hK => ?_
 obtain ⟨W', cnt', hrun, h1, h2, h3⟩ := RangeAt.drop (P := P) ht hk hm key o.type
 unfold Oper.wp
 simp [execOp, ho, resolve, invoke, builtin, hm2, hx, hrun, Result.andThen]
 exact hK _ _ (h W' cnt' h1 h2 h3)
end
end Go.Proofs.YtipeblmgochdfaaGreat
namespace Go.Proofs.YtipeblmgochdfaaGreat
open Go.RowKit
set_option linter.unusedVariables false
set_option linter.unusedSimpArgs false
set_option linter.unnecessarySimpa false
section
variable {P : Program} {md : Region.Mode} {W : World} {S : Type} {I : S → World → Prop} {ops : Array Oper} {L : Array Bool → S → Act → Prop} {f n : Nat} {listed : Array Bool} {s : S} {a : Act}
theorem ft_effD (i : Nat) {o : Oper} {d : Tmp} (hr : Region.ready md ops listed = [i]) (hi : i < n) (ho : ops[i]? = some o) (hg : o.guard = none) (hd : o.dst = some d) (h : ∀ w, I s w → EffAt P o a w (fun v w' => ∃ s', I s' w' ∧ feT P md ops W I n L f (listed.setIfInBounds i true) s' (a.put (some d) v))) : feT P md ops W I n L (f + 1) listed s a :=
 ft_eff i hr hi ho hg fun w hw => by rw [hd]; exact h w hw
theorem ft_calmD (i : Nat) {o : Oper} {d : Tmp} (v : Value) (hr : Region.ready md ops listed = [i]) (hi : i < n) (ho : ops[i]? = some o) (hg : o.guard = none) (hd : o.dst = some d) (hc : ∀ g : Growth W, calmAt P o a (grown W g) v) (h : feT P md ops W I n L f (listed.setIfInBounds i true) s (a.put (some d) v)) : feT P md ops W I n L (f + 1) listed s a :=
 ft_calm i v hr hi ho hg hc (by rw [hd]; exact h)
end
theorem RangeAt.keep {W W' : World} {q : IntKind} {b r : Nat} {L : List (Int × Value)} {left : Int → Bool} {cnt : Nat} (h : RangeAt q W b r L left cnt) (h1 : W'.heap[b]? = W.heap[b]?) (h2 : W'.heap[r]? = W.heap[r]?) : RangeAt q W' b r L left cnt := by
 obtain ⟨es, clock, since, seen, c0, hb, a1, a2, a3, a4, hr, rest⟩ := h
 exact ⟨es, clock, since, seen, c0, h1.trans hb, a1, a2, a3, a4, h2.trans hr, rest⟩
theorem DevIn.lower {base base' D M : Nat} {W : World} {mb : Int → Nat} {d : Dev} (h : DevIn base W D M mb d) (hb : base' ≤ base) : DevIn base' W D M mb d := ⟨h.blk, h.all, h.vol, h.inj, h.ne, Nat.le_trans hb h.bD, Nat.le_trans hb h.bM, fun p hp => Nat.le_trans hb (h.bV p hp), h.ok⟩
theorem DevIn.iter {base D M : Nat} {W W' : World} {mb : Int → Nat} {d : Dev} (h : DevIn base W D M mb d) {q : IntKind} {b r : Nat} {L : List (Int × Value)} {left : Int → Bool} {cnt : Nat} (hr : RangeAt q W b r L left cnt) (ho : OnlyB W W' r) : DevIn base W' D M mb d := by
 obtain ⟨es, clock, since, seen, c0, _, _, _, _, _, hh, _⟩ := hr
 have hm : ∀ {q' : IntKind} {b' : Nat} {L' : List (Int × Value)}, MapAt q' W b' L' → MapAt q' W' b' L' := fun {q' b' L'} hm => ho.mapAt hm fun e => by
  obtain ⟨es', clock', he, _⟩ := hm
  rw [e, hh] at he
  cases he
 have hne : D ≠ r := fun e => by
  have := h.blk.eq
  rw [e, hh] at this
  cases this
 exact ⟨ho.blockAt h.blk hne, hm h.all, fun p hp => hm (h.vol p hp), h.inj, h.ne, h.bD, h.bM, h.bV, h.ok⟩
theorem RangeAt.only {W W' : World} {q q' : IntKind} {b r m : Nat} {L L' : List (Int × Value)} {left : Int → Bool} {cnt : Nat} (h : RangeAt q W b r L left cnt) (hm : MapAt q' W m L') (ho : OnlyB W W' m) (hne : b ≠ m) : RangeAt q W' b r L left cnt := by
 refine h.keep (ho.block hne) (ho.block fun e => ?_)
 obtain ⟨es, clock, since, seen, c0, _, _, _, _, _, hh, _⟩ := h
 obtain ⟨es', clock', he, _⟩ := hm
 rw [← e, hh] at he
 cases he
def goneF (left : Int → Bool) (d : Dev) : Dev := d.filter fun p => !left p.1
theorem goneF_ok {left : Int → Bool} {d : Dev} (h : DevOk d) : DevOk (goneF left d) := ⟨h.sort.filter _, fun p hp => h.keys p (List.mem_filter.1 hp).1, fun p hp => h.vols p (List.mem_filter.1 hp).1⟩
theorem goneF_start (d : Dev) : goneF (fun _ => true) d = [] := by simp [goneF]
theorem goneF_end {left : Int → Bool} {d : Dev} (h : ∀ p ∈ d, left p.1 = false) : goneF left d = d := by
 unfold goneF
 rw [List.filter_eq_self]
 intro p hp
 rw [h p hp]
 rfl
theorem goneF_put {left : Int → Bool} {d : Dev} (hs : SortK d) {k : Int} {x : VolM} (hx : (k, x) ∈ d) : putK (goneF left d) k x = goneF (fun z => left z && z != k) d := by
 have hs1 : SortK (goneF left d) := hs.filter _
 refine sort_ext (sort_putK hs1) (hs.filter _) fun p => ?_
 rw [mem_putK hs1]
 unfold goneF
 rw [List.mem_filter, List.mem_filter]
 by_cases e : p.1 = k
 ·have h1 : (!(left p.1 && p.1 != k)) = true := by rw [e]; simp
  constructor
  ·rintro (rfl | ⟨_, h⟩)
   ·exact ⟨hx, h1⟩
   ·exact absurd e h
  ·rintro ⟨hp, _⟩
   have e1 := (getK_mem hs).2 hx
   have e2 := (getK_mem hs).2 (show (p.1, p.2) ∈ d from hp)
   rw [e, e1] at e2
   refine .inl ?_
   obtain ⟨p1, p2⟩ := p
   simp only at e e2
   rw [e, Option.some.inj e2]
 ·have h1 : (!(left p.1 && p.1 != k)) = (!left p.1) := by rw [bne_iff_ne.2 e, Bool.and_true]
  constructor
  ·rintro (rfl | ⟨h, _⟩)
   ·exact absurd rfl e
   ·exact ⟨h.1, h1.trans h.2⟩
  ·rintro ⟨hp, h⟩
   exact .inr ⟨⟨hp, h1.symm.trans h⟩, e⟩
set_option maxRecDepth 100000
set_option maxHeartbeats 4000000
def SvPost (R : Nat) (d' : Dev) (vf' : Int → Value) (w : World) (e : Ending) (w' : World) : Prop :=
 e = .returned (.tuple #[]) ∧ ∃ w1 v', Gr w w1 ∧ OwnN rvE w.heap.size w1 v' (d'.map (rvF vf')) ∧ w' = w1.setCell ⟨R, 0, none⟩ v'
theorem elemV : Tryz.prog.elem 65 = 64 := by kernel_rfl
theorem sizeV (w : World) : (sizeOf 64).run Tryz.prog w = .ok 3 w := by kernel_rfl
section
variable {W : World} {o : Oper} {a : Act} {R : Value → World → Prop}
theorem effAt_ok {P : Program} {w w' : World} (u : Value) (h : (execOp a.eval o).run P w = .ok (.value u) w') (hr : R u w') : EffAt P o a w R := by
 unfold EffAt
 rw [h]
 exact hr
theorem effAt_loadRow {P : Program} {w : World} {ty : TypeId} {x : Operand} {B : Nat} {cs : Array Value} {t : TypeId} {d : TypeDesc} (ho : o.op = .load ty x) (hx : a.eval x = .pointer (some ⟨B, 0, none⟩)) (hB : BlockAt w B cs t) (hu : P.underlying ty = some d) (hd : (match d with | .struct _ | .array _ _ => true | _ => false) = true) (hi : (P.info? ty).map (·.size) = some cs.size)
  (h : R (.agg cs) w) : EffAt P o a w R := by
 refine effAt_ok (.agg cs) ?_ h
 unfold execOp
 simp only [ho, hx, Instr.loadAt, Instr.sureAddr, Sem.run_bind, Sem.run_pure, Result.andThen_ok, run_loadVar_row w B t ty cs (0, 0) d hB.eq hu hd hi]
end
theorem rowV_block {W : World} {B : Nat} {n s : Int} {u : Value} (hu : u.oneCell' = true) (h : BlockAt W B #[.int .u64 n, .int .i64 s, u] 64) : RowN rvE W (some ⟨B, 0, none⟩) [⟨n, s, u⟩] :=
 ⟨fun x hx => by simp at hx; subst hx; exact hu, fun _ => ⟨B, 0, rfl, h.lt, CellsN.block _ h rfl⟩⟩
theorem sliceTo (A : Option Addr) (n c k : Nat) (h : k ≤ n) (h3 : n ≤ c) (w : World) : (Instr.slice 65 (.slice A n c) none (some (.int .i64 (k : Int))) none).run Tryz.prog w = .ok (.slice A k c) w := by
 have h := run_slice_h (P := Tryz.prog) w 65 A n c (by rw [elemV]; exact Tryz.underlying65) .i64 (k : Int) (by omega) (by omega)
 rw [h, elemV, sizeV, Int.toNat_natCast]
 simp only [Result.andThen_ok, sliced]
 split
 ·rfl
 ·cases A with
  | none => rfl
  | some a => simp only [Option.map_some, Nat.zero_mul, Nat.sub_zero]; congr 1
def fromV (A : Option Addr) (k c : Nat) : Option Addr := if c = k then A else A.map (·.add (k * 3))
theorem sliceFrom (A : Option Addr) (n c k : Nat) (h : k ≤ n) (h3 : n ≤ c) (w : World) : (Instr.slice 65 (.slice A n c) (some (.int .i64 (k : Int))) none none).run Tryz.prog w = .ok (.slice (fromV A k c) (n - k) (c - k)) w := by
 have h := run_slice_l (P := Tryz.prog) w 65 A n c (by rw [elemV]; exact Tryz.underlying65) .i64 (k : Int) (by omega) (by omega)
 rw [h, elemV, sizeV, Int.toNat_natCast]
 rfl
theorem RowN.take {α : Type} {e : EK α} {W : World} {A : Option Addr} {xs : List α} (h : RowN e W A xs) (k : Nat) : RowN e W A (xs.take k) := ⟨fun x hx => h.ok x (List.mem_of_mem_take hx), fun hne => by
 obtain ⟨b, p, e1, hb, hc⟩ := h.at_ (by rintro rfl; simp at hne)
 exact ⟨b, p, e1, hb, hc.take k⟩⟩
theorem RowN.fromV_ {W : World} {A : Option Addr} {xs : List RV} (h : RowN rvE W A xs) (k c : Nat) (hk : k ≤ xs.length) (hc : xs.length ≤ c) : RowN rvE W (fromV A k c) (xs.drop k) := ⟨fun x hx => h.ok x (List.mem_of_mem_drop hx), fun hne => by
 obtain ⟨b, p, rfl, hb, hcl⟩ := h.at_ (by rintro rfl; simp at hne)
 have hlt : k < xs.length := by
  rcases Nat.lt_or_ge k xs.length with h | h
  ·exact h
  ·exact absurd (List.drop_eq_nil_of_le h) hne
 refine ⟨b, p + k * 3, ?_, hb, hcl.drop k⟩
 rw [fromV, if_neg (by omega)]
 simp [Go.WideShapes.add_plain]⟩
theorem fromV_none {A : Option Addr} {k c : Nat} (h : A = none → c = 0) (he : fromV A k c = none) : c - k = 0 := by
 unfold fromV at he
 split at he
 ·omega
 ·cases A with
  | none => have := h rfl; omega
  | some a => cases he
theorem add_rows (vf : Int → Value) (d : Dev) (n s : Int) (u : Value) (m : List (Int × Byt)) (k : Nat) (hs : SortK d) (h1 : ∀ p ∈ d.take k, p.1 < n) (h2 : ∀ p, d[k]? = some p → n < p.1) :
  (putK d n (s, m)).map (rvF fun k => if k = n then u else vf k) = (d.map (rvF vf)).take k ++ [⟨n, s, u⟩] ++ (d.map (rvF vf)).drop k := by
 rw [putK_at h1 h2, List.map_append, List.map_cons, ← List.map_take, ← List.map_drop]
 have e1 : (d.take k).map (rvF fun k => if k = n then u else vf k) = (d.take k).map (rvF vf) := List.map_congr_left fun p hp => by
  have := h1 p hp
  simp [rvF, show ¬ p.1 = n by omega]
 have e2 : (d.drop k).map (rvF fun k => if k = n then u else vf k) = (d.drop k).map (rvF vf) := List.map_congr_left fun p hp => by
  have : n < p.1 := by
   cases hd : d.drop k with
   | nil => rw [hd] at hp; cases hp
   | cons q r =>
    have hq : d[k]? = some q := by rw [← List.head?_drop, hd]; rfl
    have hnq := h2 q hq
    have hpq : p ∈ q :: d.drop (k + 1) := by
     have e9 := cut_at hq
     have : d.drop k = q :: d.drop (k + 1) := by
      obtain ⟨hl, he⟩ := List.getElem?_eq_some_iff.1 hq
      rw [← he, List.getElem_cons_drop]
     rw [← this]; exact hp
    rcases List.mem_cons.1 hpq with rfl | hp2
    ·exact hnq
    ·have := sort_high hs hq p hp2; omega
  simp [rvF, show ¬ p.1 = n by omega]
 rw [e1, e2]
 simp [rvF]
theorem RefIn.row {base R : Nat} {W : World} {A : Option Addr} {n c : Nat} {vf : Int → Value} {d : Dev} (h : RefIn base W R (.slice A n c) vf d) : RowN rvE W A (d.map (rvF vf)) := by
 obtain ⟨A', c', hv, _, _, _, hr⟩ := h.nilv
 simp only [Value.slice.injEq] at hv
 rw [hv.1]
 exact hr
theorem Gr.trans_below {a b c : World} (h : Gr a b) (k : Below a.heap.size b c) : Gr a c := Gr.of (h.below.trans k)
theorem radd_any (base R : Nat) (v : Value) (vf : Int → Value) (d : Dev) (n s : Int) (u : Value) (m : List (Int × Byt)) (w : World) (h : RefIn base w R v vf d) (hu : BlkS w u m) (hn : getK d n = none) (hl : d.length ≤ 1000000) :
  Calls Tryz.prog 124 #[.pointer (some ⟨R, 0, none⟩), .agg #[.int .u64 n, .int .i64 s, u]] w (SvPost R (putK d n (s, m)) (fun k => if k = n then u else vf k) w) := by
 haveI := h.blk
 haveI : Old R w := h.blk.old
 have x0 : w.cell? ⟨R, 0, none⟩ = some v := (@block_cells _ _ 0 _ _ h.blk).trans rfl
 obtain ⟨A, c, hv, hc1, hc2, hc3, hr⟩ := h.nilv
 obtain ⟨N, hN⟩ : ∃ N : Nat, N = d.length := ⟨_, rfl⟩
 rw [← hN] at hv hc1 hl
 subst hv
 obtain ⟨uA, uc, rfl, _, _, _, _⟩ := hu.row
 generalize m.length = un at *
 have HH := Lib.hid h
 have HN := Lib.hid hN
 have HK := Lib.hid hn
 clear h hN hn hr hu
 go_enter Tryz.func124, Tryz.ntmps124
 go_wp2
 go_loopw [4] (fun i wr => ∃ k : Nat, k ≤ N ∧ i = .int .i64 (k : Int) ∧ (∀ p ∈ d.take k, p.1 < n) ∧ BlockAt wr w.heap.size #[.int .u64 n, .int .i64 s, .slice uA un uc] 64 ∧ Gr w wr) (fun i _ => N - (intOf i).toNat)
 case atStart => exact ⟨0, Nat.zero_le _, rfl, by simp, inferInstance, gri⟩
 case round =>
  obtain ⟨k, hk, rfl, hlo, hbx, hg⟩ := hrel
  have y0 : wr.cell? ⟨R, 0, none⟩ = some (.slice A N c) := (@block_cells _ _ 0 _ _ (HH.out.blk.gr hg)).trans rfl
  have y1 : wr.frozen? ⟨R, 0, none⟩ = false := @block_frozen _ _ 0 _ _ (HH.out.blk.gr hg)
  haveI : Old R wr := (HH.out.blk.gr hg).old
  haveI := grc_of hg
  haveI := from_of hg
  haveI := hbx
  haveI := hbx.old
  have b0 : wr.cell? ⟨w.heap.size, 0, none⟩ = some (.int .u64 n) := (@block_cells _ _ 0 _ _ hbx).trans rfl
  have HLO := Lib.hid hlo
  clear hlo
  by_cases hlt : k < N
  ·obtain ⟨p, hp⟩ : ∃ p, d[k]? = some p := ⟨_, List.getElem?_eq_getElem (by rw [← HN.out]; exact hlt)⟩
   obtain ⟨g, c', hv, hbg, hgl, _, _, _, _, hcl⟩ := (HH.out.gr hg).form (by rintro rfl; have := HN.out; simp at this; omega)
   simp only [Value.slice.injEq] at hv
   obtain ⟨hA, -, -⟩ := hv
   subst hA
   have c0 := (hcl k p hp).1
   rw [Nat.add_zero] at c0
   haveI : Old g wr := ⟨hgl⟩
   have HP := Lib.hid hp
   have HG := Lib.hid hg
   clear hcl hp hg
   by_cases hq : p.1 < n
   ·have d1 : decide (p.1 < n) = true := decide_eq_true hq
    have HQ := Lib.hid hq
    go_wp2
    refine wp_region_grow (by kernel_rfl) (by kernel_rfl) ?_
    repeat (go_big_quiet_step (fail))
    refine wpQuiet_nil ?_
    intro g1
    go_wp2
    go_roundw
    case rel => exact ⟨k + 1, by omega, by go_num, fun p' hp' => by
     rw [List.take_add_one, HP.out] at hp'
     rcases List.mem_append.1 hp' with h | h
     ·exact HLO.out p' h
     ·simp at h; subst h; exact HQ.out, inferInstance, gri⟩
    case measure => simp [intOf]; omega
   ·have d1 : decide (p.1 < n) = false := decide_eq_false hq
    have HQ := Lib.hid hq
    clear hq
    go_wp2
    refine wp_region_grow (by kernel_rfl) (by kernel_rfl) ?_
    repeat (go_big_quiet_step (fail))
    refine wpQuiet_nil ?_
    intro g1
    have hsl := fun W => sliceTo (some ⟨g, 0, none⟩) N c k (by omega) hc1 W
    have hsf := fun W => sliceFrom (some ⟨g, 0, none⟩) N c k (by omega) hc1 W
    have HRW := Lib.hid (HH.out.row)
    have HQ2 : Hid (∀ p, d[k]? = some p → n < p.1) := Lib.hid (fun p' hp' => by rw [HP.out] at hp'; cases hp'; have h1 := HQ.out; have h2 := getK_none.1 HK.out p (List.mem_of_getElem? HP.out); omega)
    have HDK : Hid (((d.map (rvF vf)).drop k).length = N - k) := Lib.hid (by have := HN.out; simp; omega)
    have HTK : Hid (((d.map (rvF vf)).take k).length = k) := Lib.hid (by have := HN.out; simp; omega)
    go_wp2_with (first | (at_builtin; go_loud (refine wp_append_x rvIs rfl _ _ rfl rfl (OwnN.nil w.heap.size _) (some ⟨g, 0, none⟩) ((d.map (rvF vf)).take k) k _ HTK.out rfl (fun e => by cases e) (HRW.out.take k |>.gr gri) (by rw [HTK.out, List.length_nil]; omega) past ?_); go_loud (intro v1 W1 h1; haveI := h1.grc w (Nat.le_refl _); have gg1 : Gr w W1 := gri; have HW1 := Lib.hid (by have := h1.own; rwa [List.nil_append] at this : OwnN rvE w.heap.size W1 v1 ((d.map (rvF vf)).take k)); have HG1 := Lib.hid gg1; have HB1 := Lib.hid (BlockAt.grown (inferInstance : BlockAt (grown wr g1) w.heap.size #[.int .u64 n, .int .i64 s, .slice uA un uc] 64) h1.gb (show some w.heap.size ≠ none from fun e => by cases e)); clear h1)))
    refine wp_region_treeT (W := w) (inCls_ghost _) ⟨fun w' => OwnN rvE w.heap.size w' v1 ((d.map (rvF vf)).take k) ∧ BlockAt w' w.heap.size #[.int .u64 n, .int .i64 s, .slice uA un uc] 64, fun a b h g => ⟨h.1.gr g, h.2.gr g⟩⟩ ⟨HG1.out.trans (Gr.of ((Below.refl _ _).drew)), HW1.out.gr (Gr.of ((Below.refl _ _).drew)), HB1.out.gr (Gr.of ((Below.refl _ _).drew))⟩ [0, 1, 5, 6, 7, 8, 9, 10] 4 12 (by kernel_rfl) (by kernel_rfl) ?_
    simp only [pick, List.drop, List.take, List.nil_append, List.cons_append]
    repeat (refine wpCalm_step (fun K hK => ?_); go_simp; first | (refine hK _ ?_; clear hK K) | (apply Exists.intro; refine ⟨fun _ => ?_, hK _ ?_⟩; (skip); clear hK K))
    refine wpCalm_nil ?_
    refine ft_effD 2 (by kernel_rfl) (by omega) rfl rfl rfl fun w3 hw3 => effAt_loadRow rfl rfl hw3.2.2 Tryz.underlying64 rfl (by kernel_rfl) ⟨_, hw3, ?_⟩
    simp only [Act.put, List.setIfInBounds_toArray, List.set]
    refine ft_effD 3 (by kernel_rfl) (by omega) rfl rfl rfl fun w4 hw4 => effAt_ok (.slice (some ⟨w4.heap.size, 0, none⟩) 1 1) (w' := w4.alloc (.cells #[.int .u64 n, .int .i64 s, .slice uA un uc] 64)) (by go_simp) ⟨⟨fun w' => OwnN rvE w.heap.size w' v1 ((d.map (rvF vf)).take k) ∧ BlockAt w' w4.heap.size #[.int .u64 n, .int .i64 s, .slice uA un uc] 64, fun a b h g => ⟨h.1.gr g, h.2.gr g⟩⟩, ⟨hw4.1.trans gri, hw4.2.1.gr gri, inferInstance⟩, ?_⟩
    generalize w4.heap.size = B2 at *
    clear hw4 w4 hw3 w3
    simp only [Act.put, List.setIfInBounds_toArray, List.set]
    refine ft_effD 4 (by kernel_rfl) (by omega) rfl rfl rfl fun w4 hw4 => effAt_append_x rvIs _ _ rfl rfl hw4.2.1 (some ⟨B2, 0, none⟩) [⟨n, s, .slice uA un uc⟩] 1 1 rfl rfl (fun e => by cases e) (rowV_block rfl hw4.2.2) (by rw [HTK.out, List.length_singleton]; omega) hw4.1.below.size fun v2 W2 h2 => ⟨⟨fun w' => OwnN rvE w.heap.size w' v2 ((d.map (rvF vf)).take k ++ [⟨n, s, .slice uA un uc⟩]), fun a b h g => h.gr g⟩, ⟨hw4.1.trans_below h2.below, h2.own⟩, ?_⟩
    clear h2 W2 hw4 w4
    simp only [Act.put, List.setIfInBounds_toArray, List.set]
    refine ft_effD 11 (by kernel_rfl) (by omega) rfl rfl rfl fun w4 hw4 => effAt_append_x rvIs _ _ rfl rfl hw4.2 (fromV (some ⟨g, 0, none⟩) k c) ((d.map (rvF vf)).drop k) (N - k) (c - k) HDK.out rfl (fromV_none (fun e => by cases e)) ((HRW.out.fromV_ k c (by have := HN.out; simp; omega) (by have := HN.out; simp; omega)).gr hw4.1) (by rw [HDK.out, List.length_append, HTK.out, List.length_singleton]; omega) hw4.1.below.size fun v3 W3 h3 => ⟨⟨fun w' => OwnN rvE w.heap.size w' v3 ((d.map (rvF vf)).take k ++ [⟨n, s, .slice uA un uc⟩] ++ (d.map (rvF vf)).drop k), fun a b h g => h.gr g⟩, ⟨hw4.1.trans_below h3.below, h3.own⟩, ?_⟩
    clear h3 W3 hw4 w4
    simp only [Act.put, List.setIfInBounds_toArray, List.set]
    refine ft_end ⟨by kernel_rfl, fun w9 hw9 => ?_⟩
    try simp only [List.drop_succ_cons, List.drop_zero]
    obtain ⟨hg9, ho9⟩ := hw9
    have hR9 := HH.out.blk.gr hg9
    have r0 : w9.cell? ⟨R, 0, none⟩ = some (.slice (some ⟨g, 0, none⟩) N c) := (@block_cells _ _ 0 _ _ hR9).trans rfl
    have r1 : w9.frozen? ⟨R, 0, none⟩ = false := @block_frozen _ _ 0 _ _ hR9
    haveI : Old R w9 := hR9.old
    have hE := add_rows vf d n s (.slice uA un uc) m k HH.out.ok.sort HLO.out HQ2.out
    rw [← hE] at ho9
    obtain ⟨L9, hL9⟩ : ∃ L, L = (putK d n (s, m)).map (rvF fun k => if k = n then .slice uA un uc else vf k) := ⟨_, rfl⟩
    rw [← hL9] at ho9
    have HL9 := Lib.hid hL9
    clear hL9
    obtain ⟨A6, c6, rfl, _, _, _⟩ := ho9.form rvIs
    have HO9 := Lib.hid ho9
    have HG9 := Lib.hid hg9
    clear ho9 hg9 hR9 hE
    go_wp2
    exact ⟨rfl, .tuple #[], by simp [results, go_sem], ⟨rfl, w9, _, HG9.out, by rw [← HL9.out]; exact HO9.out, rfl⟩⟩
  ·have HG := Lib.hid hg
   clear hg
   go_wp2
   refine wp_region_grow (by kernel_rfl) (by kernel_rfl) ?_
   repeat (go_big_quiet_step (fail))
   refine wpQuiet_nil ?_
   intro g1
   have hsl := fun W => sliceTo A N c k (by omega) hc1 W
   have hsf := fun W => sliceFrom A N c k (by omega) hc1 W
   have HRW := Lib.hid (HH.out.row)
   have HQ2 : Hid (∀ p, d[k]? = some p → n < p.1) := Lib.hid (fun p' hp' => by have := (List.getElem?_eq_some_iff.1 hp').1; have := HN.out; omega)
   have HDK : Hid (((d.map (rvF vf)).drop k).length = N - k) := Lib.hid (by have := HN.out; simp; omega)
   have HTK : Hid (((d.map (rvF vf)).take k).length = k) := Lib.hid (by have := HN.out; simp; omega)
   go_wp2_with (first | (at_builtin; go_loud (refine wp_append_x rvIs rfl _ _ rfl rfl (OwnN.nil w.heap.size _) A ((d.map (rvF vf)).take k) k _ HTK.out rfl hc3 (HRW.out.take k |>.gr gri) (by rw [HTK.out, List.length_nil]; omega) past ?_); go_loud (intro v1 W1 h1; haveI := h1.grc w (Nat.le_refl _); have gg1 : Gr w W1 := gri; have HW1 := Lib.hid (by have := h1.own; rwa [List.nil_append] at this : OwnN rvE w.heap.size W1 v1 ((d.map (rvF vf)).take k)); have HG1 := Lib.hid gg1; have HB1 := Lib.hid (BlockAt.grown (inferInstance : BlockAt (grown wr g1) w.heap.size #[.int .u64 n, .int .i64 s, .slice uA un uc] 64) h1.gb (show some w.heap.size ≠ none from fun e => by cases e)); clear h1)))
   refine wp_region_treeT (W := w) (inCls_ghost _) ⟨fun w' => OwnN rvE w.heap.size w' v1 ((d.map (rvF vf)).take k) ∧ BlockAt w' w.heap.size #[.int .u64 n, .int .i64 s, .slice uA un uc] 64, fun a b h g => ⟨h.1.gr g, h.2.gr g⟩⟩ ⟨HG1.out.trans (Gr.of ((Below.refl _ _).drew)), HW1.out.gr (Gr.of ((Below.refl _ _).drew)), HB1.out.gr (Gr.of ((Below.refl _ _).drew))⟩ [0, 1, 5, 6, 7, 8, 9, 10] 4 12 (by kernel_rfl) (by kernel_rfl) ?_
   simp only [pick, List.drop, List.take, List.nil_append, List.cons_append]
   repeat (refine wpCalm_step (fun K hK => ?_); go_simp; first | (refine hK _ ?_; clear hK K) | (apply Exists.intro; refine ⟨fun _ => ?_, hK _ ?_⟩; (skip); clear hK K))
   refine wpCalm_nil ?_
   refine ft_effD 2 (by kernel_rfl) (by omega) rfl rfl rfl fun w3 hw3 => effAt_loadRow rfl rfl hw3.2.2 Tryz.underlying64 rfl (by kernel_rfl) ⟨_, hw3, ?_⟩
   simp only [Act.put, List.setIfInBounds_toArray, List.set]
   refine ft_effD 3 (by kernel_rfl) (by omega) rfl rfl rfl fun w4 hw4 => effAt_ok (.slice (some ⟨w4.heap.size, 0, none⟩) 1 1) (w' := w4.alloc (.cells #[.int .u64 n, .int .i64 s, .slice uA un uc] 64)) (by go_simp) ⟨⟨fun w' => OwnN rvE w.heap.size w' v1 ((d.map (rvF vf)).take k) ∧ BlockAt w' w4.heap.size #[.int .u64 n, .int .i64 s, .slice uA un uc] 64, fun a b h g => ⟨h.1.gr g, h.2.gr g⟩⟩, ⟨hw4.1.trans gri, hw4.2.1.gr gri, inferInstance⟩, ?_⟩
   generalize w4.heap.size = B2 at *
   clear hw4 w4 hw3 w3
   simp only [Act.put, List.setIfInBounds_toArray, List.set]
   refine ft_effD 4 (by kernel_rfl) (by omega) rfl rfl rfl fun w4 hw4 => effAt_append_x rvIs _ _ rfl rfl hw4.2.1 (some ⟨B2, 0, none⟩) [⟨n, s, .slice uA un uc⟩] 1 1 rfl rfl (fun e => by cases e) (rowV_block rfl hw4.2.2) (by rw [HTK.out, List.length_singleton]; omega) hw4.1.below.size fun v2 W2 h2 => ⟨⟨fun w' => OwnN rvE w.heap.size w' v2 ((d.map (rvF vf)).take k ++ [⟨n, s, .slice uA un uc⟩]), fun a b h g => h.gr g⟩, ⟨hw4.1.trans_below h2.below, h2.own⟩, ?_⟩
   clear h2 W2 hw4 w4
   simp only [Act.put, List.setIfInBounds_toArray, List.set]
   refine ft_effD 11 (by kernel_rfl) (by omega) rfl rfl rfl fun w4 hw4 => effAt_append_x rvIs _ _ rfl rfl hw4.2 (fromV A k c) ((d.map (rvF vf)).drop k) (N - k) (c - k) HDK.out rfl (fromV_none hc3) ((HRW.out.fromV_ k c (by have := HN.out; simp; omega) (by have := HN.out; simp; omega)).gr hw4.1) (by rw [HDK.out, List.length_append, HTK.out, List.length_singleton]; omega) hw4.1.below.size fun v3 W3 h3 => ⟨⟨fun w' => OwnN rvE w.heap.size w' v3 ((d.map (rvF vf)).take k ++ [⟨n, s, .slice uA un uc⟩] ++ (d.map (rvF vf)).drop k), fun a b h g => h.gr g⟩, ⟨hw4.1.trans_below h3.below, h3.own⟩, ?_⟩
   clear h3 W3 hw4 w4
   simp only [Act.put, List.setIfInBounds_toArray, List.set]
   refine ft_end ⟨by kernel_rfl, fun w9 hw9 => ?_⟩
   try simp only [List.drop_succ_cons, List.drop_zero]
   obtain ⟨hg9, ho9⟩ := hw9
   have hR9 := HH.out.blk.gr hg9
   have r0 : w9.cell? ⟨R, 0, none⟩ = some (.slice A N c) := (@block_cells _ _ 0 _ _ hR9).trans rfl
   have r1 : w9.frozen? ⟨R, 0, none⟩ = false := @block_frozen _ _ 0 _ _ hR9
   haveI : Old R w9 := hR9.old
   have hE := add_rows vf d n s (.slice uA un uc) m k HH.out.ok.sort HLO.out HQ2.out
   rw [← hE] at ho9
   obtain ⟨L9, hL9⟩ : ∃ L, L = (putK d n (s, m)).map (rvF fun k => if k = n then .slice uA un uc else vf k) := ⟨_, rfl⟩
   rw [← hL9] at ho9
   have HL9 := Lib.hid hL9
   clear hL9
   obtain ⟨A6, c6, rfl, _, _, _⟩ := ho9.form rvIs
   have HO9 := Lib.hid ho9
   have HG9 := Lib.hid hg9
   clear ho9 hg9 hR9 hE
   go_wp2
   exact ⟨rfl, .tuple #[], by simp [results, go_sem], ⟨rfl, w9, _, HG9.out, by rw [← HL9.out]; exact HO9.out, rfl⟩⟩
set_option maxRecDepth 100000
set_option linter.unusedSimpArgs false
set_option linter.unnecessarySimpa false
def bE : EK UInt8 := ⟨fun x => [bv x], 1, 5, 41, 1, .int .u8 0, fun _ => True⟩
theorem bIs : bE.Is where
 len := fun _ _ => rfl
 one := fun x _ v hv => by
  simp only [bE, List.mem_cons, List.mem_nil_iff, or_false] at hv
  subst hv; rfl
 pos := by decide
 hT := Tryz.underlying41
 hE := by kernel_rfl
 hz := rfl
 hb := by decide
theorem cellsB {W : World} {b p : Nat} {xs : List UInt8} (h : ∀ (j : Nat) x, xs[j]? = some x → W.cell? ⟨b, p + j, none⟩ = some (bv x)) : CellsN bE W b p xs := by
 intro j x hj i u hu
 cases i with
 | succ i => simp [bE] at hu
 | zero =>
  simp only [bE, List.getElem?_cons_zero, Option.some.injEq] at hu
  subst hu
  have e : p + j * bE.k + 0 = p + j := congrArg (p + ·) (Nat.mul_one j)
  rw [e]
  exact h j x hj
theorem cellsB' {W : World} {b p : Nat} {xs : List UInt8} (h : CellsN bE W b p xs) : ∀ (j : Nat) x, xs[j]? = some x → W.cell? ⟨b, p + j, none⟩ = some (bv x) := by
 intro j x hj
 have := h j x hj 0 _ rfl
 have e : p + j * bE.k + 0 = p + j := congrArg (p + ·) (Nat.mul_one j)
 rw [e] at this
 exact this
theorem rowN_b {W : World} {A : Option Addr} {xs : List UInt8} (h : RowN bE W A xs) : Row bv W A xs := ⟨fun h0 => by
 obtain ⟨b, p, rfl, hb, hc⟩ := h.at_ h0
 exact ⟨b, p, rfl, hb, cellsB' hc⟩⟩
theorem Row.part {W : World} {b o : Nat} {l : List UInt8} (hb : b < W.heap.size) (h : ∀ (j : Nat) x, l[j]? = some x → W.cell? ⟨b, o + j, none⟩ = some (bv x)) (p n : Nat) : ∀ (j : Nat) x, ((l.drop p).take n)[j]? = some x → W.cell? ⟨b, o + p + j, none⟩ = some (bv x) := fun j x hj => by
 rw [List.getElem?_take] at hj
 split at hj
 ·rw [List.getElem?_drop] at hj
  rw [show o + p + j = o + (p + j) by omega]
  exact h _ _ hj
 ·cases hj
@[go_sem] theorem eqSliceB (A : Option Addr) (n c : Nat) (w : World) : (binOp .eql 41 (.slice A n c) (.slice none 0 0)).run Tryz.prog w = .ok (.bool A.isNone) w :=
 Lib.run_eql_slice_nil w _ _ A n c 0 0 Tryz.underlying41
set_option maxHeartbeats 1000000 in
theorem clone_any (b p n c : Nat) (xs : List UInt8) (w : World) (hx : xs.length = n) (h0 : 0 < n) (hn : n ≤ 1000000) (hb : b < w.heap.size) (hc : ∀ (j : Nat) x, xs[j]? = some x → w.cell? ⟨b, p + j, none⟩ = some (bv x)) :
  Calls Tryz.prog 88 #[.slice (some ⟨b, p, none⟩) n c] w fun e w' => ∃ v, e = .returned v ∧ OwnN bE w.heap.size w' v xs ∧ Gr w w' := by
 have HC := Lib.hid hc
 clear hc
 haveI : Old b w := ⟨hb⟩
 have HO := Lib.hid (show OwnN bE w.heap.size (w.alloc (.cells #[] 5)) (.slice (some ⟨w.heap.size, 0, none⟩) 0 0) [] from ⟨by simp, World.ownsRow_made w #[] 0 (Nat.le_refl _) (by unfold maxLen; omega) rfl⟩)
 go_enter Tryz.func88, Tryz.ntmps88
 go_wp2_with (first | (at_builtin; refine wp_append_n bIs rfl _ _ rfl rfl HO.out b p xs n c hx rfl (fun _ _ => trivial) (cellsB fun j x hj => (Gr.below gri).cell (p := ⟨b, p + j, none⟩) hb |>.trans (HC.out j x hj)) (by simp; omega) past (by omega) ?_; intro v1 W1 h1; have H1 := Lib.hid h1; clear h1))
 go_ret
 exact ⟨_, rfl, H1.out.own, by haveI := H1.out.grc w (Nat.le_refl _); exact gri⟩
theorem alen : Tryz.prog.arrayLen 88 = 256 := by kernel_rfl
theorem aelem : Tryz.prog.elem 88 = 5 := by kernel_rfl
theorem asize (w : World) : (sizeOf 5).run Tryz.prog w = .ok 1 w := by kernel_rfl
theorem sliceBlk (B f t : Nat) (h1 : f < t) (h2 : t ≤ 4) (w : World) : (Instr.sliceAt 88 (.pointer (some ⟨B, 0, none⟩)) (some (.int .i64 ((f : Int) * 64))) (some (.int .i64 ((t : Int) * 64))) none).run Tryz.prog w = .ok (.slice (some ⟨B, f * 64, none⟩) (t * 64 - f * 64) (256 - f * 64)) w := by
 have h := run_sliceAt_array_lh (P := Tryz.prog) w 88 ⟨B, 0, none⟩ (by rw [alen, aelem]; exact Tryz.underlying88) .i64 .i64 ((f : Int) * 64) ((t : Int) * 64) (by omega) (by omega) (by rw [alen]; omega)
 rw [h, aelem, asize, alen]
 have e1 : ((f : Int) * 64).toNat = f * 64 := by omega
 have e2 : ((t : Int) * 64).toNat = t * 64 := by omega
 rw [e1, e2]
 simp only [Result.andThen_ok, slicedAt]
 rw [if_neg (by omega), Go.WideShapes.add_plain, Nat.mul_one, Nat.zero_add]
theorem sliceBlkL (B f : Nat) (h2 : f < 4) (w : World) : (Instr.sliceAt 88 (.pointer (some ⟨B, 0, none⟩)) (some (.int .i64 ((f : Int) * 64))) none none).run Tryz.prog w = .ok (.slice (some ⟨B, f * 64, none⟩) (256 - f * 64) (256 - f * 64)) w := by
 have h := run_sliceAt_array_l (P := Tryz.prog) w 88 ⟨B, 0, none⟩ (by rw [alen, aelem]; exact Tryz.underlying88) .i64 ((f : Int) * 64) (by omega) (by rw [alen]; omega)
 rw [h, aelem, asize, alen]
 have e1 : ((f : Int) * 64).toNat = f * 64 := by omega
 rw [e1]
 simp only [Result.andThen_ok, slicedAt]
 rw [if_neg (by omega), Go.WideShapes.add_plain, Nat.mul_one, Nat.zero_add]
theorem bkC_at {B : Byt} {j : Nat} {x : UInt8} (h : B[j]? = some x) : (bkC B)[j]? = some (bv x) := by
 simp [bkC, h]
theorem blk_part {W : World} {K : Nat} {B : Byt} {T : TypeId} (h : BlockAt W K (bkC B) T) (p n : Nat) : ∀ (j : Nat) x, ((B.drop p).take n)[j]? = some x → W.cell? ⟨K, p + j, none⟩ = some (bv x) := fun j x hj => by
 have h2 := Row.part (W := W) (b := K) (o := 0) (l := B) h.lt (fun j x hj => by rw [Nat.zero_add, @block_cells W K j _ _ h]; exact bkC_at hj) p n j x hj
 rwa [Nat.zero_add] at h2
set_option maxHeartbeats 1000000 in
theorem cut_any (B : Byt) (b f t : Nat) (hB : B.length = 256) (h1 : f < t) (h2 : t ≤ 4) (w : World) :
  Calls Tryz.prog 69 #[.agg (bkC B), .agg #[.int .i64 (b : Int), .int .i64 (f : Int), .int .i64 (t : Int)]] w fun e w' => ∃ v, e = .returned v ∧ OwnN bE w.heap.size w' v (cutK B ⟨b, f, t⟩) ∧ Gr w w' := by
 have hl : (cutK B ⟨b, f, t⟩).length = t * 64 - f * 64 := by simp [cutK, hB]; omega
 have hp : ∀ (W : World) (K : Nat) (T : TypeId) (h : BlockAt W K (bkC B) T) (j : Nat) x, (cutK B ⟨b, f, t⟩)[j]? = some x → W.cell? ⟨K, f * 64 + j, none⟩ = some (bv x) := fun W K T h j x hj => by
  have := blk_part h (64 * f) (64 * (t - f)) j x hj
  rwa [Nat.mul_comm 64 f] at this
 have HL := Lib.hid hl
 have HP := Lib.hid hp
 haveI := bkC_row hB
 have hs := fun B W => sliceBlk B f t h1 h2 W
 clear hl hp
 go_enter Tryz.func69, Tryz.ntmps69
 go_wp2_with ((go_at_call 88; ((with_reducible refine (clone_any w.heap.size (f * 64) (t * 64 - f * 64) _ (cutK B ⟨b, f, t⟩) _ HL.out (by omega) (by omega) (Old.lt (b := w.heap.size)) (HP.out _ _ _ inferInstance)).mono ?_); rintro _ W1 ⟨v1, rfl, ho, ⟨g1, rfl⟩⟩)))
 have HO := Lib.hid ho
 clear ho hs
 go_wp2
 go_ret
 exact ⟨_, rfl, HO.out.more (by exact past), gri⟩
set_option maxRecDepth 100000
theorem place_any (b f t at_ s n c : Nat) (A : Option Addr) (P1 P2 P3 : Nat) (w : World) [h1 : BlockAt w P1 #[.int .i64 (b : Int), .int .i64 (f : Int), .int .i64 (t : Int)] 146] [h2 : BlockAt w P2 #[.int .i64 (at_ : Int)] 3] [h3 : BlockAt w P3 #[.slice A n c] 41]
  (hb : b ≤ 1000000) (hs : s ≤ 4) (ha : at_ ≤ 4 * b + s) (hn : 4 * b + s ≤ at_ + n / 64) (hn2 : n ≤ 1000000) :
  Calls Tryz.prog 143 #[.int .i64 (s : Int), .pointer (some ⟨P1, 0, none⟩), .pointer (some ⟨P2, 0, none⟩), .pointer (some ⟨P3, 0, none⟩)] w fun e w' => e = .returned (.int .i64 (((4 * b + s - at_ : Nat) : Int) * 64)) ∧ Gr w w' := by
 have x1 : w.cell? ⟨P1, 0, none⟩ = some (.int .i64 (b : Int)) := (@block_cells _ _ 0 _ _ h1).trans rfl
 have x2 : w.cell? ⟨P2, 0, none⟩ = some (.int .i64 (at_ : Int)) := (@block_cells _ _ 0 _ _ h2).trans rfl
 have x3 : w.cell? ⟨P3, 0, none⟩ = some (.slice A n c) := (@block_cells _ _ 0 _ _ h3).trans rfl
 haveI := h1.old
 haveI := h2.old
 haveI := h3.old
 obtain ⟨q, hq⟩ : ∃ q, 4 * b + s - at_ = q := ⟨_, rfl⟩
 have hqn : q ≤ n / 64 := by omega
 rw [hq]
 have e0 : ((b : Int) * 4 + (s : Int) - (at_ : Int)) = (q : Int) := by omega
 have e1 : ¬ (n / 64 < q) := by omega
 have e2 : q ≤ 1000000 := by omega
 clear hq
 go_enter Tryz.func143, Tryz.ntmps143
 go_wp2
 go_ret
 exact ⟨rfl, gri⟩
theorem elemB : Tryz.prog.elem 41 = 5 := by kernel_rfl
theorem sliceRow (b p n c x y : Nat) (h1 : x < y) (h2 : y * 64 ≤ n) (h3 : n ≤ c) (w : World) : (Instr.slice 41 (.slice (some ⟨b, p, none⟩) n c) (some (.int .i64 ((x : Int) * 64))) (some (.int .i64 ((y : Int) * 64))) none).run Tryz.prog w = .ok (.slice (some ⟨b, p + x * 64, none⟩) (y * 64 - x * 64) (c - x * 64)) w := by
 have h := run_slice_lh (P := Tryz.prog) w 41 (some ⟨b, p, none⟩) n c (by rw [elemB]; exact Tryz.underlying41) .i64 .i64 ((x : Int) * 64) ((y : Int) * 64) (by omega) (by omega) (by omega)
 rw [h, elemB, asize]
 have e1 : ((x : Int) * 64).toNat = x * 64 := by omega
 have e2 : ((y : Int) * 64).toNat = y * 64 := by omega
 rw [e1, e2]
 simp only [Result.andThen_ok, sliced]
 rw [if_neg (by omega)]
 simp [Go.WideShapes.add_plain]
set_option maxHeartbeats 2000000 in
theorem data_any (b f t at_ n c B p : Nat) (D : Byt) (w : World) (hb : b ≤ 1000000) (h1 : f < t) (h2 : t ≤ 4) (ha : at_ ≤ 4 * b + f) (hat : at_ ≤ 1073741824) (hn : 4 * b + t ≤ at_ + n / 64) (hn2 : n ≤ 1000000) (hl : D.length = n) (hnc : n ≤ c) (hB : B < w.heap.size)
  (hc : ∀ (j : Nat) x, D[j]? = some x → w.cell? ⟨B, p + j, none⟩ = some (bv x)) :
  Calls Tryz.prog 121 #[.agg #[.int .i64 (b : Int), .int .i64 (f : Int), .int .i64 (t : Int)], .int .i64 (at_ : Int), .slice (some ⟨B, p, none⟩) n c] w fun e w' => ∃ v, e = .returned v ∧ OwnN bE w.heap.size w' v (segK ⟨b, f, t⟩ at_ D) ∧ Gr w w' := by
 haveI : Old B w := ⟨hB⟩
 have hr := Row.part hB hc (64 * (4 * b + f - at_)) (64 * (t - f))
 have hll : (segK ⟨b, f, t⟩ at_ D).length = (4 * b + t - at_) * 64 - (4 * b + f - at_) * 64 := by simp [segK, hl]; omega
 have HL := Lib.hid hll
 have HR : Hid (∀ (j : Nat) x, (segK ⟨b, f, t⟩ at_ D)[j]? = some x → w.cell? ⟨B, p + (4 * b + f - at_) * 64 + j, none⟩ = some (bv x)) := Lib.hid (fun j x hj => by
  have := hr j x hj
  rwa [Nat.mul_comm 64 (4 * b + f - at_)] at this)
 have hs := fun W => sliceRow B p n c (4 * b + f - at_) (4 * b + t - at_) (by omega) (by omega) hnc W
 have hf := fun (W : World) (P1 P2 P3 s : Nat) [BlockAt W P1 #[.int .i64 (b : Int), .int .i64 (f : Int), .int .i64 (t : Int)] 146] [BlockAt W P2 #[.int .i64 (at_ : Int)] 3] [BlockAt W P3 #[.slice (some ⟨B, p, none⟩) n c] 41] (hs : s = f ∨ s = t) => place_any b f t at_ s n c (some ⟨B, p, none⟩) P1 P2 P3 W hb (by omega) (by omega) (by omega) hn2
 have HF := Lib.hid hf
 have hq : (4 * b + t - at_) * 64 - (4 * b + f - at_) * 64 ≤ 1000000 := by omega
 have hq0 : 0 < (4 * b + t - at_) * 64 - (4 * b + f - at_) * 64 := by omega
 clear hf hr hll hc hl
 go_enter Tryz.func121, Tryz.ntmps121
 go_wp2
 refine wp_region_grow_tail 10 (by kernel_rfl) (by kernel_rfl) ?_
 simp only [List.take_succ_cons, List.take_zero, List.drop_succ_cons, List.drop_zero]
 repeat (go_big_quiet_step ((go_at_call 143; exact grow_call (HF.out _ _ _ _ _ (by first | exact .inl rfl | exact .inr rfl)))))
 refine wpQuiet_nil ?_
 intro g2
 go_wp2_with ((go_at_call 88; ((with_reducible refine (clone_any B (p + (4 * b + f - at_) * 64) _ _ (segK ⟨b, f, t⟩ at_ D) _ HL.out hq0 hq (Old.lt (b := B)) (fun j x hj => ((Gr.below gri).cell (p := ⟨B, p + (4 * b + f - at_) * 64 + j, none⟩) hB).trans (HR.out j x hj))).mono ?_); rintro _ W1 ⟨v1, rfl, ho, ⟨g1, rfl⟩⟩)))
 have HO := Lib.hid ho
 clear ho hs
 go_wp2
 go_ret
 exact ⟨_, rfl, HO.out.more (by exact past), gri⟩
def besK (x y : Option Byt) : Int := match x, y with
 | none, none => 1
 | some _, none => 5
 | none, some _ => 6
 | some a, some b => if a = b then 3 else 4
def kindK (d : Dev) (l r : Int) (b : Int) : Int := besK (blkK d l b) (blkK d r b)
abbrev Str := Int × Int × Int
def addS (out : List Str) (b : Nat) (k : Int) : List Str := match out.getLast? with
 | some x => if x.2.2 = k then out.dropLast ++ [(x.1, x.2.1 + 1, k)] else out ++ [((b : Int), 1, k)]
 | none => out ++ [((b : Int), 1, k)]
def strK (f : Nat → Int) : Nat → List Str
 | 0 => []
 | n + 1 => addS (strK f n) n (f n)
def chkK (d : Dev) (l : List Int) : Int := if l.Nodup then (if l.all fun v => (getK d v).isSome then 0 else 6) else 2
def maxK (d : Dev) (l r : Int) : Nat := max (sizeK d l).toNat (sizeK d r).toNat
def rowsK (d : Dev) (l r : Int) : List Str := if chkK d [l, r] = 0 then strK (fun b => kindK d l r b) (maxK d l r) else []
theorem addS_len (out : List Str) (b : Nat) (k : Int) : (addS out b k).length ≤ out.length + 1 := by
 unfold addS
 split
 ·split
  ·simp
  ·simp
 ·simp
theorem strK_len (f : Nat → Int) (n : Nat) : (strK f n).length ≤ n := by
 induction n with
 | zero => simp [strK]
 | succ n ih => have := addS_len (strK f n) n (f n); rw [strK]; omega
theorem addS_mem {out : List Str} {b : Nat} {k : Int} {y : Str} (h : y ∈ addS out b k) : y ∈ out ∨ y = ((b : Int), 1, k) ∨ ∃ x ∈ out, y = (x.1, x.2.1 + 1, k) := by
 unfold addS at h
 cases hl : out.getLast? with
 | none =>
  rw [hl] at h
  rcases List.mem_append.1 h with h | h
  ·exact .inl h
  ·exact .inr (.inl (by simpa using h))
 | some x =>
  rw [hl] at h
  simp only at h
  split at h
  ·rcases List.mem_append.1 h with h | h
   ·exact .inl (List.dropLast_subset _ h)
   ·exact .inr (.inr ⟨x, List.mem_of_getLast? hl, by simpa using h⟩)
  ·rcases List.mem_append.1 h with h | h
   ·exact .inl h
   ·exact .inr (.inl (by simpa using h))
theorem strK_each (f : Nat → Int) (n : Nat) : ∀ x ∈ strK f n, 1 ≤ x.2.1 ∧ x.2.1 ≤ n ∧ 0 ≤ x.1 ∧ x.1 < n := by
 induction n with
 | zero => simp [strK]
 | succ n ih =>
  intro y hy
  rcases addS_mem hy with h | rfl | ⟨x, hx, rfl⟩
  ·have := ih y h; omega
  ·simp only; omega
  ·have := ih x hx; simp only; omega
theorem addS_last (L0 : List Str) (x : Str) (b : Nat) (k : Int) : addS (L0 ++ [x]) b k = if x.2.2 = k then L0 ++ [(x.1, x.2.1 + 1, k)] else L0 ++ [x] ++ [((b : Int), 1, k)] := by
 unfold addS
 simp
def besB (l r s q : Bool) : Int := if l && !r then 5 else if r && !l then 6 else if !l then 1 else if s then 2 else if q then 3 else 4
theorem beside_any (l r s q : Bool) (w : World) : Calls Tryz.prog 35 #[.bool l, .bool r, .bool s, .bool q] w fun e w' => e = .returned (.int .i64 (besB l r s q)) ∧ Gr w w' := by
 cases l <;> cases r <;> cases s <;> cases q
 all_goals
  go_enter Tryz.func35, Tryz.ntmps35
  go_wp2
  go_ret
  exact ⟨rfl, gri⟩
theorem eqBlk (B C : Byt) (hB : B.length = 256) (hC : C.length = 256) (w : World) : (binOp .eql 88 (.agg (bkC B)) (.agg (bkC C))).run Tryz.prog w = .ok (.bool (B == C)) w :=
 run_eql_bytes w 88 5 256 Tryz.underlying88 Tryz.underlying5 (fun _ => by kernel_rfl) B C hB hC
theorem besB_kind (x y : Option Byt) : besB x.isSome y.isSome false (x.getD zB == y.getD zB) = besK x y := by
 cases x <;> cases y <;> simp [besB, besK]
set_option maxRecDepth 100000 in
set_option maxHeartbeats 1000000 in
theorem kind_any (base D : Nat) (d : Dev) (l r b : Int) (w : World) (h : DevAt base w D d) : Calls Tryz.prog 28 #[.pointer (some ⟨D, 0, none⟩), .int .u64 l, .int .u64 r, .int .i64 b] w fun e w' => e = .returned (.int .i64 (kindK d l r b)) ∧ Gr w w' := by
 have hok : DevOk d := by obtain ⟨M, mb, h⟩ := h; exact h.ok
 have l1 := blkK_len hok l b
 have l2 := blkK_len hok r b
 have H1 := Lib.hid (fun W (hW : Gr w W) => block_any base D d l b W (h.gr hW))
 have H2 := Lib.hid (fun W (hW : Gr w W) => block_any base D d r b W (h.gr hW))
 have HE := fun W => eqBlk _ _ l1 l2 W
 haveI := bkC_row l1
 haveI := bkC_row l2
 have HK := Lib.hid (besB_kind (blkK d l b) (blkK d r b))
 rw [kindK]
 generalize blkK d l b = X at *
 generalize blkK d r b = Y at *
 clear l1 l2 h hok
 go_enter Tryz.func28, Tryz.ntmps28
 go_wp2_with (first | ((first | (go_at_call 41; with_reducible refine (H1.out _ gri).mono ?_) | (go_at_call 41; with_reducible refine (H2.out _ gri).mono ?_) | (go_at_call 35; with_reducible refine (beside_any _ _ _ _ _).mono ?_)); rintro _ _ ⟨rfl, g1, rfl⟩) | (refine wpStoreB rfl _ _ rfl _ _ _ rfl rfl inferInstance inferInstance inferInstance ?_) | (refine wpLoadB rfl _ rfl _ _ rfl inferInstance inferInstance ?_))
 go_ret
 exact ⟨by rw [HK.out]; rfl, gri⟩
def strE : EK Str := ⟨fun x => [.int .i64 x.1, .int .i64 x.2.1, .int .i64 x.2.2], 3, 103, 24, 24, .agg #[.int .i64 0, .int .i64 0, .int .i64 0], fun _ => True⟩
theorem strIs : strE.Is where
 len := fun _ _ => rfl
 one := fun x _ v hv => by
  simp only [strE, List.mem_cons, List.mem_nil_iff, or_false] at hv
  rcases hv with rfl | rfl | rfl <;> rfl
 pos := by decide
 hT := Tryz.underlying24
 hE := by kernel_rfl
 hz := rfl
 hb := by decide
set_option maxRecDepth 100000 in
set_option maxHeartbeats 2000000 in
theorem stretches_any (F : Nat → Int) (n : Nat) (hn : n ≤ 100000) (P1 P2 P3 : Addr) (w : World)
  (hf : ∀ W, Gr w W → ∀ b : Nat, b < n → Calls Tryz.prog 27 #[.int .i64 b, .pointer (some P1), .pointer (some P2), .pointer (some P3)] W fun e w' => e = .returned (.int .i64 (F b)) ∧ Gr W w') :
  Calls Tryz.prog 26 #[.int .i64 n, .func (.func 27) #[] #[.pointer (some P1), .pointer (some P2), .pointer (some P3)]] w fun e w' => ∃ v, e = .returned v ∧ OwnN strE w.heap.size w' v (strK F n) ∧ Gr w w' := by
 have HF := Lib.hid hf; clear hf
 go_enter Tryz.func26, Tryz.ntmps26
 go_wp2
 go_step3
 go_wp2
 go_step3
 go_wp2
 go_loopw [4, 9] (fun v i wr => ∃ k : Nat, k ≤ n ∧ i = .int .i64 k ∧ OwnN strE w.heap.size wr v (strK F k) ∧ Gr w wr) (fun _ i _ => n - (intOf i).toNat)
 case atStart => exact ⟨0, Nat.zero_le _, rfl, OwnN.nil _ _, Gr.refl _⟩
 case round =>
  obtain ⟨k, hk, rfl, hown, hg⟩ := hrel
  have HO := Lib.hid hown; clear hown
  haveI := grc_of hg
  haveI := from_of hg
  have HG := Lib.hid hg; clear hg
  by_cases hlt : k < n
  ·obtain ⟨L, hL⟩ : ∃ L, strK F k = L := ⟨_, rfl⟩
   have hLn : L.length ≤ k := by rw [← hL]; exact strK_len F k
   have hnx : strK F (k + 1) = addS L k (F k) := by rw [← hL]; rfl
   have hbd := strK_each F k
   rw [hL] at hbd
   have ho := HO.out
   rw [hL] at ho
   have HN := Lib.hid hnx
   clear hL hnx HO
   rcases List.eq_nil_or_concat L with rfl | ⟨L0, x, rfl⟩
   ·obtain ⟨A, c, rfl, _, _, _⟩ := ho.form strIs
    have HO := Lib.hid ho
    clear ho hLn hbd
    go_wp2_with (first | ((go_at_call 27; ((with_reducible refine (HF.out _ HG.out k hlt).mono ?_); rintro _ _ ⟨rfl, g1, rfl⟩))) | (at_builtin; refine wp_append_n strIs rfl _ _ rfl rfl (HO.out.gr gri) _ 0 [((k : Int), 1, F k)] 1 1 rfl rfl (fun _ _ => trivial) (CellsN.block _ inferInstance rfl) (by simp) past (by simp) ?_; intro v1 W1 h1; have H1 := Lib.hid h1; clear h1))
    go_roundw
    case rel => exact ⟨k + 1, by omega, by go_num, by rw [HN.out]; exact H1.out.own, by haveI := H1.out.grc w (Nat.le_refl _); exact gri⟩
    case measure => simp [intOf]; omega
   ·rw [List.concat_eq_append] at hLn ho HN
    have hm : (L0 ++ [x]).length = L0.length + 1 := by simp
    obtain ⟨g, c, hv, hbg, hgl, _, hcm, hcl, hfz⟩ := ho.cells strIs (by simp)
    rw [hm] at hv hLn
    subst hv
    have hx := hcl L0.length x (by simp)
    have x1 : wr.cell? ⟨g, L0.length * 3 + 1, none⟩ = some (.int .i64 x.2.1) := by have := hx 1 _ rfl; rwa [Nat.zero_add] at this
    have x2 : wr.cell? ⟨g, L0.length * 3 + 2, none⟩ = some (.int .i64 x.2.2) := by have := hx 2 _ rfl; rwa [Nat.zero_add] at this
    haveI : Old g wr := ⟨hgl⟩
    have u1 := hfz (L0.length * 3 + 1)
    have HO := Lib.hid ho
    have HM := Lib.hid hm
    have hm2 : L0.length + 1 ≤ 100000 := by omega
    have hxb := hbd x (by simp)
    have b1 : 0 ≤ x.2.1 := by omega
    have b2 : x.2.1 ≤ 100000 := by omega
    have HX : Hid ((L0 ++ [x])[L0.length]? = some x) := Lib.hid (by simp)
    have HS : Hid (∀ y, (L0 ++ [x]).set L0.length y = L0 ++ [y]) := Lib.hid (by simp)
    clear hx hfz hcl ho hm hbd hxb
    generalize L0.length = m at *
    by_cases hq : x.2.2 = F k
    ·have hb : (x.2.2 == F k) = true := by simpa using hq
     have HQ := Lib.hid hq; clear hq
     go_wp2_with (first | ((go_at_call 27; ((with_reducible refine (HF.out _ HG.out k hlt).mono ?_); rintro _ _ ⟨rfl, g1, rfl⟩))))
     go_roundw
     case rel => exact ⟨k + 1, by omega, by go_num, by
      rw [HN.out, addS_last, if_pos HQ.out, ← HS.out, ← HQ.out]
      exact (HO.out.gr gri).store strIs m 1 x _ _ HX.out (by decide) rfl trivial, by haveI : Past w g := ⟨hbg⟩; exact gri⟩
     case measure => simp [intOf]; omega
    ·have hb : (x.2.2 == F k) = false := by simpa using hq
     have HQ := Lib.hid hq; clear hq
     go_wp2_with (first | ((go_at_call 27; ((with_reducible refine (HF.out _ HG.out k hlt).mono ?_); rintro _ _ ⟨rfl, g1, rfl⟩))) | (at_builtin; refine wp_append_n strIs rfl _ _ rfl rfl (HO.out.gr gri) _ 0 [((k : Int), 1, F k)] 1 1 rfl rfl (fun _ _ => trivial) (CellsN.block _ inferInstance rfl) (by rw [HM.out, List.length_singleton]; omega) past (by simp) ?_; intro v1 W1 h1; have H1 := Lib.hid h1; clear h1))
     go_roundw
     case rel => exact ⟨k + 1, by omega, by go_num, by rw [HN.out, addS_last, if_neg HQ.out]; exact H1.out.own, by haveI := H1.out.grc w (Nat.le_refl _); exact gri⟩
     case measure => simp [intOf]; omega
  ·have : k = n := by omega
   subst this
   go_wp2
   rw [Exit.noGoto_ret]
   go_ret
   exact ⟨_, rfl, HO.out, HG.out⟩
set_option maxRecDepth 100000
theorem bkC_splice (X D : Byt) (off : Nat) : ((bkC X).toList.take off ++ (D.map bv ++ (bkC X).toList.drop (off + D.length))).toArray = bkC (X.take off ++ (D ++ X.drop (off + D.length))) := by
 simp [bkC, List.map_take, List.map_drop]
theorem wpCopyB {W : World} {ops : Array Oper} {rest : List Oper} {o : Oper} {a : Act} {Q : Exit → Act → World → Prop} (hgd : o.guard = none) (d s : Operand) (ho : o.op = .call { callee := .builtin .copy, args := #[d, s], argTypes := #[41, 41] })
  (K off dl dc : Nat) (X : Byt) (T : TypeId) (b p m c : Nat) (D : Byt) (hd : a.eval d = .slice (some ⟨K, off, none⟩) dl dc) (hs : a.eval s = .slice (some ⟨b, p, none⟩) m c) (hl : D.length = m) (hle : m ≤ dl) (hK : BlockAt W K (bkC X) T) (hfit : off + m ≤ X.length)
  (hsrc : ∀ (j : Nat) x, D[j]? = some x → W.cell? ⟨b, p + j, none⟩ = some (bv x))
  (h : wpList Tryz.prog ops Q rest (a.put o.dst (goInt m)) (W.setRow K (bkC (X.take off ++ (D ++ X.drop (off + m)))))) : wpList Tryz.prog ops Q (o :: rest) a W := by
 subst hl
 refine wpList_copy_own hgd d s _ _ ho 5 Tryz.underlying41 (by kernel_rfl) K off dl dc ⟨b, p, none⟩ D.length c hd hs (bkC X) T hK.eq (D.map bv) ?_ ?_ ?_ ?_ ?_
 ·rw [List.length_map]; exact (Nat.min_eq_left hle).symm
 ·intro j v hj
  rw [List.getElem?_map] at hj
  cases hx : D[j]? with
  | none => rw [hx] at hj; cases hj
  | some x =>
   rw [hx] at hj
   cases hj
   rw [Go.WideShapes.add_plain]
   exact hsrc j x hx
 ·rw [List.length_map, bkC_size]; exact hfit
 ·intro v hv
  obtain ⟨x, _, rfl⟩ := List.mem_map.1 hv
  rfl
 ·rw [List.length_map, bkC_splice]
  exact h
set_option maxHeartbeats 2000000 in
theorem merge_any (B D : Byt) (f n c b p : Nat) (w : World) (hB : B.length = 256) (hf : f < 4) (hl : D.length = n) (h0 : 0 < n) (h64 : n % 64 = 0) (hn : n ≤ (4 - f) * 64) (hb : b < w.heap.size) (hc : ∀ (j : Nat) x, D[j]? = some x → w.cell? ⟨b, p + j, none⟩ = some (bv x)) :
  Calls Tryz.prog 120 #[.agg (bkC B), .int .i64 (f : Int), .slice (some ⟨b, p, none⟩) n c] w fun e w' => e = .returned (.tuple #[.agg (bkC (mergeB B f D)), .int .i64 0]) ∧ Gr w w' := by
 haveI : Old b w := ⟨hb⟩
 have hm : B.take (f * 64) ++ (D ++ B.drop (f * 64 + n)) = mergeB B f D := by
  rw [mergeB, hl, Nat.mul_comm 64 f, List.append_assoc]
 have hM : (mergeB B f D).length = 256 := mergeB_len B f D hB (by omega)
 have HC := Lib.hid hc
 have HL := Lib.hid hl
 have HM := Lib.hid hm
 haveI := bkC_row hB
 haveI := bkC_row hM
 have HB := Lib.hid hB
 have hs := fun K W => sliceBlkL K f hf W
 have he := fun W => eqBlk _ _ hM hB W
 have hmod : (n : Int) % 64 = 0 := by omega
 have hle : (n : Int) ≤ (4 - (f : Int)) * 64 := by omega
 clear hc hl hm
 generalize mergeB B f D = M at *
 clear hM hB
 rcases Bool.eq_false_or_eq_true (M == B) with hq | hq
 all_goals
  go_enter Tryz.func120, Tryz.ntmps120
  go_wp2_with (first | (refine wpStoreB rfl _ _ rfl _ _ _ rfl rfl inferInstance inferInstance inferInstance ?_) | (refine wpLoadB rfl _ rfl _ _ rfl inferInstance inferInstance ?_) | (refine wpCopyB rfl _ _ rfl w.heap.size (f * 64) (256 - f * 64) (256 - f * 64) B _ b p n c D rfl rfl HL.out (by omega) inferInstance (by rw [HB.out]; omega) (fun j x hj => ((Gr.below gri).cell (p := ⟨b, p + j, none⟩) hb).trans (HC.out j x hj)) ?_; rw [HM.out]))
  exact bodyPost_ret (run_resB rfl _ _ _ _ rfl rfl inferInstance inferInstance) rfl ⟨by first | rfl | (rw [eq_of_beq hq]; rfl), gri⟩
end Go.Proofs.YtipeblmgochdfaaGreat
namespace Go.Proofs.YtipeblmgochdfaaGreat
open Go.RowKit Go.Shelf
set_option linter.unusedVariables false
set_option linter.unusedSimpArgs false
set_option linter.unnecessarySimpa false
set_option maxRecDepth 100000
attribute [local go_sem] Oper.semAt_some
def rowX (W : World) (X : Nat) : Option Nat := (W.cell? ⟨X, 0, none⟩).bind Value.ownBlock
structure KpX (X : Nat) (W W' : World) : Prop where
 size : W.heap.size ≤ W'.heap.size
 keep : ∀ (b : Nat) cs t f, W.heap[b]? = some (.cells cs t f) → b ≠ X → rowX W X ≠ some b → W'.heap[b]? = W.heap[b]?
 row : ∀ b, rowX W' X = some b → rowX W X = some b ∨ W.heap.size ≤ b
 lt : (∀ b, rowX W X = some b → b < W.heap.size) → ∀ b, rowX W' X = some b → b < W'.heap.size
theorem KpX.trans {X : Nat} {A B C : World} (h : KpX X A B) (k : KpX X B C) : KpX X A C where
 size := Nat.le_trans h.size k.size
 keep := fun b cs t f hb hx hr => by
  have h1 := h.keep b cs t f hb hx hr
  have hlt := (Array.getElem?_eq_some_iff.1 hb).1
  exact (k.keep b cs t f (h1.trans hb) hx (fun e => (h.row b e).elim hr (fun h2 => by omega))).trans h1
 row := fun b hb => (k.row b hb).elim (fun e => h.row b e) (fun h2 => .inr (Nat.le_trans h.size h2))
 lt := fun h0 => k.lt (h.lt h0)
theorem KpX.putObj {X : Nat} (W : World) (l : Nat) (o o' : Obj) (hX : X ≠ l) (hl : W.heap[l]? = some o) (ho : o.isCells = false) : KpX X W (W.putObj l o') := by
 have hr : rowX (W.putObj l o') X = rowX W X := by
  unfold rowX World.cell?
  simp only
  rw [World.putObj_heap_other hX]
 have hs : (W.putObj l o').heap.size = W.heap.size := by simp [World.putObj]
 refine ⟨by omega, fun b cs t f hb hx _ => ?_, fun b hb => .inl (hr ▸ hb), fun h0 b hb => by rw [hs]; exact h0 b (hr ▸ hb)⟩
 have hne : b ≠ l := by
  rintro rfl
  rw [hb] at hl
  cases hl
  cases ho
 exact World.putObj_heap_other hne
theorem KpX.block {X : Nat} {W W' : World} (h : KpX X W W') {b : Nat} {cs : Array Value} {t : TypeId} (hb : BlockAt W b cs t) (hx : b ≠ X) (hr : rowX W X ≠ some b) : BlockAt W' b cs t := ⟨(h.keep b _ _ _ hb.eq hx hr).trans hb.eq⟩
theorem rowX_alloc {W : World} {X : Nat} (o : Obj) (h : X < W.heap.size) : rowX (W.alloc o) X = rowX W X := by
 unfold rowX
 haveI : Old X W := ⟨h⟩
 rw [alloc_cells]
abbrev OvX := Nat × Spn
abbrev encO (x : OvX) : Array Value := #[.int .i64 (x.1 : Int), .agg #[.int .i64 (x.2.b : Int), .int .i64 (x.2.f : Int), .int .i64 (x.2.t : Int)]]
def overK (d : Nat) : List Spn → List OvX
 | [] => []
 | s :: r => (d, s) :: overK (d + (s.t - s.f)) r
theorem overK_snd : ∀ (l : List Spn) (d : Nat), (overK d l).map (·.2) = l
 | [], _ => rfl
 | s :: r, d => by simp [overK, overK_snd r]
def rowOk (X P1 P2 : Nat) (W : World) : Prop := ∀ b, rowX W X = some b → b < W.heap.size ∧ b ≠ P1 ∧ b ≠ P2
set_option maxHeartbeats 2000000 in
theorem over_stops (n : Nat) (hn : 1 ≤ n) (X P1 P2 a c : Nat) (w0 : World) (h1 : BlockAt w0 P1 #[.int .i64 (a : Int)] 3) (h2 : BlockAt w0 P2 #[.int .i64 (c : Int)] 3) (hX : X < w0.heap.size) (x1 : P1 ≠ X) (x2 : P2 ≠ X) (hrow : rowOk X P1 P2 w0) (ha : a ≤ 1048576) (hc : 1 ≤ c) (hc2 : c ≤ 1048576) :
  SeqStopsK Fence.wide n Tryz.prog 144 #[.pointer (some ⟨P1, 0, none⟩), .pointer (some ⟨P2, 0, none⟩)] encO (KpX X) (fun xs => xs = overK 0 (spans a c)) (fun _ => True) (spans a c).length w0 := fun l J Jx W hW hJ hJx hY h0 => by
 have hb1 : BlockAt W P1 #[.int .i64 (a : Int)] 3 := ⟨(hW.block P1 h1.lt).trans h1.eq⟩
 have hb2 : BlockAt W P2 #[.int .i64 (c : Int)] 3 := ⟨(hW.block P2 h2.lt).trans h2.eq⟩
 have hXW : X < W.heap.size := Nat.lt_of_lt_of_le hX hW.size
 have hr0 : rowX W X = rowX w0 X := by
  unfold rowX
  rw [hW.cell (p := ⟨X, 0, none⟩) hX]
 have hrW : rowOk X P1 P2 W := fun b hb => by
  have := hrow b (hr0 ▸ hb)
  exact ⟨Nat.lt_of_lt_of_le this.1 hW.size, this.2⟩
 have y1 : W.cell? ⟨P1, 0, none⟩ = some (.int .i64 (a : Int)) := (@block_cells _ _ 0 _ _ hb1).trans rfl
 have y2 : W.cell? ⟨P2, 0, none⟩ = some (.int .i64 (c : Int)) := (@block_cells _ _ 0 _ _ hb2).trans rfl
 have HJ := Lib.hid hJ
 have HY := Lib.hid hY
 have H0 := Lib.hid h0
 have HB1 := Lib.hid hb1
 have HB2 := Lib.hid hb2
 have HRW := Lib.hid hrW
 clear hJ hY h0 hb1 hb2 hr0 hrow h1 h2 hrW hW hJx
 refine callsIn_of_wp Tryz.func144 rfl trivial ?_ rfl
 simp only [Tryz.ntmps144, List.size_toArray, List.length_cons, List.length_nil, Nat.reduceAdd, Nat.reduceSub, Array.replicate_succ, Array.replicate_zero, List.push_toArray, List.append_toArray, List.nil_append, List.cons_append]
 gi_wp2
 gi_loopw [4] (fun i wr => ∃ (pre : List OvX) (d : Nat), i = .int .i64 d ∧ d ≤ c ∧ pre ++ overK d (spans (a + d) (c - d)) = overK 0 (spans a c) ∧ J pre wr ∧ BlockAt wr P1 #[.int .i64 (a : Int)] 3 ∧ BlockAt wr P2 #[.int .i64 (c : Int)] 3 ∧ rowOk X P1 P2 wr ∧ X < wr.heap.size) (fun i _ => c - (intOf i).toNat)
 case atStart => exact ⟨[], 0, rfl, Nat.zero_le _, by simp, H0.out, HB1.out, HB2.out, HRW.out, hXW⟩
 case round =>
  obtain ⟨pre, d, rfl, hd, hpre, hJs, hb1, hb2, hrw, hXr⟩ := hrel
  clear y1 y2
  have y1 : wr.cell? ⟨P1, 0, none⟩ = some (.int .i64 (a : Int)) := (@block_cells _ _ 0 _ _ hb1).trans rfl
  have y2 : wr.cell? ⟨P2, 0, none⟩ = some (.int .i64 (c : Int)) := (@block_cells _ _ 0 _ _ hb2).trans rfl
  haveI := hb1.old
  haveI := hb2.old
  by_cases hlt : d < c
  ·have hsp := spans_cons (a + d) (c - d) (by omega)
   obtain ⟨k, hk⟩ : ∃ k, min (4 - (a + d) % 4) (c - d) = k := ⟨_, rfl⟩
   rw [hk] at hsp
   rw [hsp] at hpre
   have hk1 : 1 ≤ k := by omega
   have hk2 : k ≤ c - d := by omega
   have hk4 : (a + d) % 4 + k ≤ 4 := by omega
   have hlen : pre.length < (spans a c).length := by
    have h9 := congrArg List.length hpre
    have h8 := congrArg List.length (overK_snd (spans a c) 0)
    simp [overK] at h9 h8
    omega
   have HP := Lib.hid hpre
   have HSP := Lib.hid hsp
   have HK := Lib.hid hk
   clear hpre hsp hk
   by_cases h4 : ((a : Int) + (d : Int)) % 4 + (c : Int) - (d : Int) < 4
   all_goals
    obtain ⟨T, hT⟩ : ∃ T : Int, T = if ((a : Int) + (d : Int)) % 4 + (c : Int) - (d : Int) < 4 then ((a : Int) + (d : Int)) % 4 + (c : Int) - (d : Int) else 4 := ⟨_, rfl⟩
    first | rw [if_pos h4] at hT | rw [if_neg h4] at hT
    have hE : encO (d, ⟨(a + d) / 4, (a + d) % 4, (a + d) % 4 + k⟩) = #[.int .i64 (d : Int), .agg #[.int .i64 (((a : Int) + (d : Int)) / 4), .int .i64 (((a : Int) + (d : Int)) % 4), .int .i64 T]] := by
     have := HK.out
     unfold encO
     have e3 : (((a + d) % 4 + k : Nat) : Int) = T := by omega
     simp only [e3]
     simp
    have hn1 : n - 1 = n - 1 := rfl
    have hY2 := HY.out pre (d, ⟨(a + d) / 4, (a + d) % 4, (a + d) % 4 + k⟩) (wr.alloc (.cells #[.int .i64 (((a : Int) + (d : Int)) / 4), .int .i64 (((a : Int) + (d : Int)) % 4), .int .i64 T] 146)) (HJ.out _ _ _ none hJs (World.grownBy_alloc wr _ none) (fun r e => by cases e)) hlen
    rw [hE] at hY2
    obtain ⟨fn, tmps, assign, body, hy, hR⟩ := hY2
    have HE := Lib.hid hE
    clear hE
    subst hT
    gi_wp2
    refine hR.mono ?_
    rintro e W3 (⟨rfl, hJ3, hk3⟩ | ⟨rfl, hJx3⟩)
    ·have hne : ∀ o : Obj, ∀ b, b = P1 ∨ b = P2 ∨ b = wr.heap.size → rowX (wr.alloc o) X ≠ some b := fun o b hb e => by
      rw [rowX_alloc o hXr] at e
      have := hrw b e
      omega
     have hbs := hk3.block (b := wr.heap.size) inferInstance (by omega) (hne _ _ (by simp))
     have hbp1 := hk3.block (b := P1) inferInstance x1 (hne _ _ (by simp))
     have hbp2 := hk3.block (b := P2) inferInstance x2 (hne _ _ (by simp))
     have hsz := hk3.size
     have hro : rowOk X P1 P2 W3 := fun b hb => by
      have hl := hk3.lt (fun b hb => by rw [rowX_alloc _ hXr] at hb; have := hrw b hb; simp; omega) b hb
      rcases hk3.row b hb with h9 | h9
      ·rw [rowX_alloc _ hXr] at h9
       have := hrw b h9
       exact ⟨hl, this.2⟩
      ·have p1 := hb1.lt
       have p2 := hb2.lt
       simp at h9
       exact ⟨hl, by omega, by omega⟩
     have z1 := (@block_cells _ _ 1 _ _ hbs).trans rfl
     have z2 := (@block_cells _ _ 2 _ _ hbs).trans rfl
     simp at hsz
     clear hb1 hb2 y1 y2 hy hR hJs hne hk3
     have HS := Lib.hid hsz
     have HJ3 := Lib.hid hJ3
     have HRO := Lib.hid hro
     clear hsz hJ3 hro hrw hbs
     gi_wp2
     go_roundw
     case rel =>
      refine ⟨pre ++ [(d, ⟨(a + d) / 4, (a + d) % 4, (a + d) % 4 + k⟩)], d + k, ?_, by omega, ?_, HJ3.out, hbp1, hbp2, HRO.out, by have := HS.out; omega⟩
      ·have := HK.out
       have e9 : ∀ u v : Int, u = v → Value.int .i64 u = .int .i64 v := fun u v h => by rw [h]
       refine e9 _ _ ?_
       omega
      ·have := HP.out
       rw [← this, List.append_assoc]
       simp only [overK, List.singleton_append, Nat.add_sub_cancel_left, Nat.add_assoc, Nat.sub_sub]
     case measure =>
      have := HK.out
      simp [intOf]; omega
    ·gi_wp2
     refine bodyPost_ret (results_none rfl _ _ _) rfl ?_
     exact ⟨⟨_, rfl⟩, .inr ⟨_, trivial, hJx3⟩⟩
  ·obtain rfl : d = c := by omega
   have e0 : spans (a + d) (d - d) = [] := by rw [Nat.sub_self]; rfl
   rw [e0] at hpre
   have HP := Lib.hid hpre
   clear hpre e0
   gi_wp2
   go_end0
   exact ⟨⟨_, rfl⟩, .inl ⟨_, by have := HP.out; simpa [overK] using this, hJs⟩⟩
end Go.Proofs.YtipeblmgochdfaaGreat
namespace Go.Proofs.YtipeblmgochdfaaGreat
open Go.RowKit Go.Shelf
set_option linter.unusedVariables false
set_option linter.unusedSimpArgs false
set_option linter.unnecessarySimpa false
set_option maxRecDepth 100000
attribute [local go_sem] Oper.semAt_some
def spE : EK Spn := ⟨fun s => [.int .i64 (s.b : Int), .int .i64 (s.f : Int), .int .i64 (s.t : Int)], 3, 146, 214, 24, .agg #[.int .i64 0, .int .i64 0, .int .i64 0], fun _ => True⟩
theorem spIs : spE.Is where
 len := fun _ _ => rfl
 one := fun x _ v hv => by
  simp only [spE, List.mem_cons, List.mem_nil_iff, or_false] at hv
  rcases hv with rfl | rfl | rfl <;> rfl
 pos := by decide
 hT := Tryz.underlying214
 hE := by kernel_rfl
 hz := rfl
 hb := by decide
section
variable {α : Type} {e : EK α}
def LI (e : EK α) (base X m : Nat) (T : TypeId) (w : World) (f : List OvX → List α) (pre : List OvX) (W : World) : Prop := (∃ v, BlockAt W X #[v] T ∧ OwnN e base W v (f pre)) ∧ Below base w W ∧ m ≤ W.heap.size
theorem LI.own {base X m : Nat} {T : TypeId} {w : World} {f : List OvX → List α} {B : Nat} (hB : base ≤ B) (hw : base ≤ w.heap.size) : OwnFrom B (LI e base X m T w f) := fun s W W' row hs hg hr => by
 obtain ⟨⟨v, hv, ho⟩, hb, hm⟩ := hs
 have hc : ∀ (k : Nat) cs t fz, W.heap[k]? = some (Obj.cells cs t fz) → W'.heap[k]? = W.heap[k]? := fun k cs t fz hk => hg.block k (Array.getElem?_eq_some_iff.1 hk).1 (fun e2 => by
  obtain ⟨_, o, h1, h2⟩ := hr k e2.symm
  rw [hk] at h1; cases h1; cases h2)
 refine ⟨⟨v, ⟨(hc X _ _ _ hv.eq).trans hv.eq⟩, ho.keep fun k hk => ?_⟩, hb.grown hg (Nat.le_trans hw hb.size) (fun k e2 => Nat.le_trans hB (hr k e2).1), Nat.le_trans hm hg.size⟩
 rcases ho.own.2 with ⟨rfl, _⟩ | ⟨g, cap, cur, rfl, _, hh, _⟩
 ·cases hk
 ·have : k = g := by simpa [Value.ownBlock] using hk.symm
  subst this
  exact hc _ _ _ _ hh
theorem kpx_append {base X : Nat} {T : TypeId} {W W2 W3 : World} {v v' : Value} {xs ys : List α} (g : Gr W W2) (hX : BlockAt W X #[v] T) (hT : T ≠ e.E) (h : AppN e base W2 v xs ys v' W3) : KpX X W (W3.setCell ⟨X, 0, none⟩ v') := by
 have hX3 : BlockAt W3 X #[v] T := h.keep X _ _ (hX.gr g) hT
 have hX4 : (W3.setCell ⟨X, 0, none⟩ v').cell? ⟨X, 0, none⟩ = some v' := World.cell?_setCell_same' _ _ _ (by rw [@block_cells _ _ 0 _ _ hX3]; rfl)
 have hr0 : rowX W X = v.ownBlock := by
  unfold rowX
  rw [@block_cells _ _ 0 _ _ hX]; rfl
 have hr4 : rowX (W3.setCell ⟨X, 0, none⟩ v') X = v'.ownBlock := by
  unfold rowX
  rw [hX4]; rfl
 have hs4 : (W3.setCell ⟨X, 0, none⟩ v').heap.size = W3.heap.size := by simp [World.setCell]
 have hs2 := g.below.size
 have hs3 := h.size
 refine ⟨by omega, fun b cs t f hb hx hr => ?_, fun b hb => ?_, fun h0 b hb => ?_⟩
 ·have hlt := (Array.getElem?_eq_some_iff.1 hb).1
  rw [hr0] at hr
  rw [Below.heap_setCell W3 ⟨X, 0, none⟩ v' b hx, h.gb.block b (by omega) (fun e2 => hr e2.symm), g.below.block b hlt]
 ·rw [hr4] at hb
  rw [hr0]
  rcases h.row b hb with h9 | h9
  ·exact .inl h9
  ·exact .inr (by omega)
 ·rw [hr4] at hb
  rw [hs4]
  exact (h.own.lt b hb).2
end
theorem kpx_gr {X : Nat} {W W' : World} (g : Gr W W') (hX : X < W.heap.size) : KpX X W W' := by
 have hr : rowX W' X = rowX W X := by
  unfold rowX
  rw [g.below.cell (p := ⟨X, 0, none⟩) hX]
 exact ⟨g.below.size, fun b cs t f hb _ _ => g.below.block b (Array.getElem?_eq_some_iff.1 hb).1, fun b hb => .inl (hr ▸ hb), fun h0 b hb => Nat.lt_of_lt_of_le (h0 b (hr ▸ hb)) g.below.size⟩
theorem KeepsOthers.of_gr {W W' : World} (g : Gr W W') : KeepsOthers W W' := ⟨g.below.size, fun k o hk _ => (g.below.block k (Array.getElem?_eq_some_iff.1 hk).1).trans hk⟩
theorem KeepsOthers.of_app {α : Type} {e : EK α} {base : Nat} {W W' : World} {v v' : Value} {xs ys : List α} (h : AppN e base W v xs ys v' W') : KeepsOthers W W' := ⟨h.size, fun k o hk ho => (h.block k (Array.getElem?_eq_some_iff.1 hk).1 (fun cs f h2 => by rw [hk] at h2; cases h2; cases ho)).trans hk⟩
theorem OwnN.cellsBlock {α : Type} {e : EK α} {base : Nat} {W : World} {v : Value} {xs : List α} (h : OwnN e base W v xs) : ∀ k, v.ownBlock = some k → ∃ cs, W.heap[k]? = some (Obj.cells cs e.E (0, 0)) := fun k hk => by
 rcases h.own.2 with ⟨rfl, _⟩ | ⟨g, cap, cur, rfl, _, hh, _⟩
 ·cases hk
 ·have : k = g := by simpa [Value.ownBlock] using hk.symm
  subst this
  exact ⟨_, hh⟩
theorem OwnN.put {α : Type} {e : EK α} {base : Nat} {W : World} {v : Value} {xs : List α} (h : OwnN e base W v xs) (D : Nat) (o o' : Obj) (hD : W.heap[D]? = some o) (ho : o.isCells = false) : OwnN e base (W.putObj D o') v xs := h.keep fun k hk => by
 obtain ⟨cs, hh⟩ := h.cellsBlock k hk
 refine World.putObj_heap_other fun e2 => ?_
 subst e2
 rw [hh] at hD
 cases hD
 cases ho
theorem wpIn_append_n {α : Type} {e : EK α} {base : Nat} {W : World} {v : Value} {xs : List α} {F : Fence} {n : Nat} (he : e.Is) {ops : Array Oper} {rest : List Oper} {o : Oper} {a : Act} {Q : Exit → Act → World → Prop} (hgd : o.guard = none) (s x : Operand)
  (ho : o.op = .call { callee := .builtin .append, args := #[s, x], argTypes := #[e.T, e.T] })
  (hs : a.eval s = v) (hown : OwnN e base W v xs) (b p : Nat) (ys : List α) (m c : Nat) (hm : ys.length = m) (hx : a.eval x = .slice (some ⟨b, p, none⟩) m c)
  (hys : ∀ y ∈ ys, e.ok y) (hc : CellsN e W b p ys) (hlen : xs.length + ys.length ≤ 100000000) (hbase : base ≤ W.heap.size) (hp : 0 < ys.length)
  (h : ∀ v' W', AppN e base W v xs ys v' W' → wpListIn F n Tryz.prog ops Q rest (a.put o.dst v') W') : wpListIn F n Tryz.prog ops Q (o :: rest) a W := by
 subst hm
 refine wpListIn_plain hgd fun K hK' => ?_
 obtain ⟨v', W', hrun, happ⟩ := run_append_n he o.type hown b p ys c hys hc hlen hbase hp
 unfold Oper.wpIn
 refine ⟨?_, ?_⟩
 ·simp [Oper.about, ho, resolve, Target.leads, Sem.run_pure]
 ·rw [Oper.semAt_plain F _ _ (by rw [ho]; intro c hc'; cases hc')]
  simp [execOp, ho, resolve, invoke, builtin, hs, hx, hrun, Result.andThen]
  exact hK' _ _ (h v' W' happ)
theorem over_any (a c : Int) (w : World) : Calls Tryz.prog 122 #[.int .i64 a, .int .i64 c] w fun e w' => e = .returned (.func (.func 144) #[] #[.pointer (some ⟨w.heap.size, 0, none⟩), .pointer (some ⟨w.heap.size + 1, 0, none⟩)]) ∧ w' = (w.alloc (.cells #[.int .i64 a] 3)).alloc (.cells #[.int .i64 c] 3) := by
 go_enter Tryz.func122, Tryz.ntmps122
 go_wp2
 go_ret
 exact ⟨rfl, rfl⟩
set_option maxHeartbeats 4000000 in
theorem split_any (a c : Nat) (ha : a ≤ 1048576) (hc : 1 ≤ c) (hc2 : c ≤ 1048576) (w : World) : Calls Tryz.prog 119 #[.int .i64 (a : Int), .int .i64 (c : Int)] w fun e w' => ∃ v, e = .returned v ∧ OwnN spE w.heap.size w' v (spans a c) ∧ Gr w w' := by
 refine (callsIn_wide (n := 3)).1 ?_
 have h1 : 1 ≤ 3 := by omega
 refine callsIn_of_wp_marks Tryz.func119 rfl trivial ?_ rfl
 simp only [Tryz.ntmps119, List.size_toArray, List.length_cons, List.length_nil, Nat.reduceAdd, Nat.reduceSub, Array.replicate_succ, Array.replicate_zero, List.push_toArray, List.append_toArray, List.nil_append, List.cons_append]
 have hnf : ∀ (W : World) (A : Array Value), (binOp .eql 219 (.func (.func 144) #[] A) .nilFunc).run Tryz.prog W = .ok (.bool false) W := fun W A => by kernel_rfl
 gi_wp2_with (refine ⟨trivial, ?_⟩; gi_at_call 122; refine (callsIn_wide.2 (over_any _ _ _)).mono ?_; rintro e w' ⟨rfl, rfl⟩)
 obtain ⟨W0, hW0⟩ : ∃ W0, ((w.alloc (.cells #[.slice none 0 0] 214)).alloc (.cells #[.int .i64 (a : Int)] 3)).alloc (.cells #[.int .i64 (c : Int)] 3) = W0 := ⟨_, rfl⟩
 have hs0 : W0.heap.size = w.heap.size + 1 + 1 + 1 := by rw [← hW0]; simp
 have hbX : BlockAt W0 w.heap.size #[.slice none 0 0] 214 := by rw [← hW0]; infer_instance
 have hb1 : BlockAt W0 (w.heap.size + 1) #[.int .i64 (a : Int)] 3 := by rw [← hW0]; infer_instance
 have hb2 : BlockAt W0 (w.heap.size + 1 + 1) #[.int .i64 (c : Int)] 3 := by rw [← hW0]; infer_instance
 have hg0 : Gr w W0 := by rw [← hW0]; exact gri
 rw [hW0]
 have hrX : rowOk w.heap.size (w.heap.size + 1) (w.heap.size + 1 + 1) W0 := fun b hb => by
  unfold rowX at hb
  rw [@block_cells _ _ 0 _ _ hbX] at hb
  cases hb
 refine wpIn_rangeFunc_ownH (F := Fence.wide) (n := 3) rfl h1 (gf := 144) (lb := #[.pointer (some ⟨w.heap.size + 1, 0, none⟩), .pointer (some ⟨w.heap.size + 1 + 1, 0, none⟩)]) rfl trivial (enters_of Tryz.func144 (by kernel_rfl) rfl)
  (over_stops (3 - 1) (by omega) w.heap.size (w.heap.size + 1) (w.heap.size + 1 + 1) a c W0 hb1 hb2 (by omega) (by omega) (by omega) hrX ha hc hc2) (fun h k => h.trans k) (fun W l o o' hl ho hc' _ => KpX.putObj W l o o' (by omega) ho hc') (Below.refl _ _) (fun _ => rfl)
  (LI spE w.heap.size w.heap.size W0.heap.size 214 w (fun pre => pre.map (·.2))) (fun _ _ _ => False) (LI.own (by omega) (Nat.le_refl _)) (fun _ _ _ _ _ h _ _ => h.elim) ⟨⟨_, hbX, OwnN.nil _ _⟩, hg0.below, Nat.le_refl _⟩
  (fun x a' W => ∃ Bx, w.heap.size + 1 + 1 < Bx ∧ BlockAt W Bx #[.int .i64 (x.2.b : Int), .int .i64 (x.2.f : Int), .int .i64 (x.2.t : Int)] 146 ∧ a' = { tmps := #[.int .i64 (a : Int), .int .i64 (c : Int), undef, undef, .slice none 0 0, .pointer (some ⟨w.heap.size, 0, none⟩), undef, .pointer (some ⟨Bx, 0, none⟩), .int .i64 (a : Int), .int .i64 (c : Int), .func (.func 144) #[] #[.pointer (some ⟨w.heap.size + 1, 0, none⟩), .pointer (some ⟨w.heap.size + 1 + 1, 0, none⟩)], .int .i64 (x.1 : Int), .agg #[.int .i64 (x.2.b : Int), .int .i64 (x.2.f : Int), .int .i64 (x.2.t : Int)], undef, undef, undef, undef, undef], defers := [] })
  (fun x a' s W W' row hs hg hr => ?hax) ?assign ?body ?done ?stop
 case hax =>
  obtain ⟨Bx, hlt, hbx, ha'⟩ := hs
  refine ⟨Bx, hlt, ⟨(hg.block Bx hbx.lt (fun e2 => ?_)).trans hbx.eq⟩, ha'⟩
  obtain ⟨_, o, h1, h2⟩ := hr Bx e2.symm
  rw [hbx.eq] at h1; cases h1; cases h2
 case assign =>
  rintro l pre x W K ⟨⟨v, hv, ho⟩, hb, hm⟩ hK
  have hlt := hv.lt
  have hsz := hb.size
  gi_wp2
  exact hK _ _ ((KeepsOthers.alloc _ _).from _) (kpx_gr gri hlt) ⟨⟨v, hv.gr gri, ho.gr gri⟩, hb.alloc hsz _, by simp; omega⟩ ⟨W.heap.size, by omega, inferInstance, rfl⟩
 case body =>
  rintro l pre x a' W hl ⟨r, hr⟩ ⟨⟨v, hv, ho⟩, hb, hm⟩ ⟨Bx, hlt, hbx, rfl⟩ hN
  have x0 : W.cell? ⟨w.heap.size, 0, none⟩ = some v := (@block_cells _ _ 0 _ _ hv).trans rfl
  have u0 : W.frozen? ⟨w.heap.size, 0, none⟩ = false := @block_frozen _ _ 0 _ _ hv
  have y0 : W.cell? ⟨Bx, 0, none⟩ = some (.int .i64 (x.2.b : Int)) := (@block_cells _ _ 0 _ _ hbx).trans rfl
  have y1 : W.cell? ⟨Bx, 1, none⟩ = some (.int .i64 (x.2.f : Int)) := (@block_cells _ _ 1 _ _ hbx).trans rfl
  have y2 : W.cell? ⟨Bx, 2, none⟩ = some (.int .i64 (x.2.t : Int)) := (@block_cells _ _ 2 _ _ hbx).trans rfl
  haveI := hv.old
  haveI := hbx.old
  have hsz := hb.size
  have hsl := spans_len a c
  have HV := Lib.hid hv
  have HO := Lib.hid ho
  have HB := Lib.hid hb
  have HL : Hid (pre.length ≤ 2000000) := Lib.hid (by omega)
  have HSZ := Lib.hid hsz
  clear hv ho hb hbx hr hN hsl hsz hbX hb1 hb2 hg0 hrX hW0
  gi_wp2_with (first | (gi_at_builtin; refine wpIn_append_n (v := v) spIs rfl _ _ rfl rfl (HO.out.gr gri) _ 0 [x.2] 1 1 rfl rfl (fun _ _ => trivial) (CellsN.block _ inferInstance rfl) (by have := HL.out; simp; omega) (by have := HSZ.out; simp; omega) (by simp) ?_; intro v1 W1 h1; obtain ⟨A1, c1, hv1, _, _, _⟩ := h1.own.form spIs; simp only [List.length_append, List.length_map, List.length_cons, List.length_nil, Nat.zero_add] at hv1; subst hv1; have H1 := Lib.hid h1; clear h1; have z0 := (@block_cells _ _ 0 _ _ (H1.out.keep _ _ _ (HV.out.gr gri) (by decide))).trans rfl; have zf := @block_frozen _ _ 0 _ _ (H1.out.keep _ _ _ (HV.out.gr gri) (by decide))))
  haveI hX1 := H1.out.keep _ _ _ (HV.out.gr gri) (by decide)
  refine ⟨(((KeepsOthers.of_gr (gri : Gr W _)).trans (KeepsOthers.of_app H1.out)).trans (KeepsOthers.setCell _ _ _)).from _, kpx_append (e := spE) gri HV.out (by decide) H1.out, ⟨(.slice A1 (pre.length + 1) c1 : Value), ?blk, ?own⟩, ?bel, ?siz⟩
  case blk =>
   show BlockAt _ _ (#[v].setIfInBounds 0 _) _
   infer_instance
  case own =>
   have h9 := H1.out.own.set_ w.heap.size 0 (.slice A1 (pre.length + 1) c1) (by decide)
   show OwnN spE w.heap.size _ _ ((pre ++ [x]).map (·.2))
   rw [List.map_append]
   exact h9
  case bel =>
   exact ((HB.out.alloc HSZ.out _).trans (H1.out.below)).setCell (p := ⟨w.heap.size, 0, none⟩) (Nat.le_refl _) _
  case siz =>
   have := H1.out.size
   simp [World.setCell] at this ⊢
   omega
 case done =>
  rintro D ys W hD hS ⟨⟨v, hv, ho⟩, hb, hm⟩ hK
  have x0 : W.cell? ⟨w.heap.size, 0, none⟩ = some v := (@block_cells _ _ 0 _ _ hv).trans rfl
  have hS2 : ys = overK 0 (spans a c) := hS
  subst hS2
  have ho2 : OwnN spE w.heap.size W v (spans a c) := by
   have := ho
   rw [show (fun pre : List OvX => pre.map (·.2)) (overK 0 (spans a c)) = spans a c from overK_snd _ _] at this
   exact this
  have HO := Lib.hid ho2
  have HB := Lib.hid hb
  have HV := Lib.hid hv
  clear ho ho2 hb hv hbX hb1 hb2 hg0 hrX hW0
  gi_wp2
  refine ⟨by simp, .inl ⟨_, _, rfl, run_takeDeferred hK, ?_⟩⟩
  exact ⟨_, results_tmp rfl _ _ _, v, rfl, HO.out.put D _ _ hK rfl, Gr.of (HB.out.trans (belowK_b (Nat.le_refl _) W D _ _ (by omega) hK rfl rfl))⟩
 case stop =>
  rintro D c pre W hD _ h _
  exact h.elim
end Go.Proofs.YtipeblmgochdfaaGreat
