/- linear.Worlds, of a history whose moments stand in order. Conditions: at most 9 calls; what the plain run asks. Two forced operations of a tree, in either order. Conditions: none. linear.Worlds, walked. Conditions: a history whose moments stand in order; what the plain run asks. The reference's device: Copy. Conditions: the device stands in memory; at most 1000 volumes. The reference's Ways; SameAnswer. Conditions: the device and the operation stand in memory; at most 1000 volumes. Operations that came in as an argument, opened. Conditions: none. The reference's device: a volume's whole element is stored. Conditions: the device stands in memory. The walk of LinearWays, but for known. Conditions: the operations that came in stand in memory. -/
import Derived.Test.YtddckdhnolmjoaaGreatV15
import Derived.Test.YtddckdhnolmjoaaGreatV08
import Derived.Test.YtddckdhnolmjoaaGreatV14
import Derived.Test.YtddckdhnolmjoaaGreatV09
import Derived.Test.YtddckdhnolmjoaaGreatV13
import Derived.ChangeSlices
import Derived.Test.YtddckdhnolmjoaaGreatV12
namespace Go.Proofs.YtddckdhnolmjoaaGreat
open Go.RowKit
set_option linter.unusedVariables false
set_option linter.unusedSimpArgs false
set_option linter.unnecessarySimpa false
set_option maxRecDepth 100000
set_option maxHeartbeats 4000000
structure SK where
 ws : List WM
 q0 : Option (Int × OpM)
 q1 : Option (Int × OpM)
 gn : List (Int × OpM)
def cp (c : CallC) : Int × OpM := (c.num, c.o.o)
def stepK (f : Nat) (s : SK) (m : MomC) : Option (SK ⊕ Int) :=
 if m.2.2.dn && (m.2.2.an.code == 11 || m.2.2.an.code == 13 || m.2.2.an.code == 10) then none
 else if m.2.1 then
  if m.2.2.node = 0 then
   match s.q0 with
   | none => some (.inl { s with q0 := some (cp m.2.2) })
   | some _ => none
  else
   match s.q1 with
   | none => some (.inl { s with q1 := some (cp m.2.2) })
   | some _ => none
 else if m.2.2.dn then
  if m.2.2.node = 0 then none
  else
   match s.q1 with
   | none => none
   | some x =>
    if x.1 = m.2.2.num then
     match closeM f (s.gn ++ (s.q0.toList ++ s.q1.toList)) s.ws with
     | none => none
     | some st =>
      if (st.2.filterMap (phiM m.2.2.num m.2.2.an.m)).length = 0 then some (.inr 9) else some (.inl { s with ws := st.2.filterMap (phiM m.2.2.num m.2.2.an.m), q1 := none })
    else none
 else if m.2.2.node = 0 then
  match s.q0 with
  | none => none
  | some x => if x.1 = m.2.2.num ∧ s.gn.length = 0 then some (.inl { s with q0 := none, gn := [cp m.2.2] }) else none
 else none
def runK (f : Nat) : List MomC → SK → Option (Nat × Int)
 | [], s => some (s.ws.length, 0)
 | m :: l, s =>
  match stepK f s m with
  | none => none
  | some (.inr e) => some (0, e)
  | some (.inl s') => runK f l s'
def WS (w : World) (B : Nat) (s : SK) (W : World) : Prop := ∃ ws q0 q1 gn wv v0 v1 gv, BkA w B ws q0 q1 gn wv v0 v1 gv W ∧ ws.map WrC.p = s.ws ∧ q0.map cp = s.q0 ∧ q1.map cp = s.q1 ∧ gn.map cp = s.gn ∧ (gn = [] → gv = .slice none 0 0) ∧ gn.length ≤ 1 ∧ ws.length ≤ 5000
theorem WS.grow {w W W' : World} {B : Nat} {s : SK} (h : WS w B s W) (g : Gr W W') : WS w B s W' := by
 obtain ⟨ws, q0, q1, gn, wv, v0, v1, gv, hb, hr⟩ := h
 exact ⟨ws, q0, q1, gn, wv, v0, v1, gv, hb.grow g, hr⟩
theorem WS.gr0 {w W : World} {B : Nat} {s : SK} (h : WS w B s W) : Gr w W := by
 obtain ⟨ws, q0, q1, gn, wv, v0, v1, gv, hb, hr⟩ := h
 exact hb.gr
theorem wpList_storeMom {W0 W : World} {ops : Array Oper} {rest : List Oper} {o : Oper} {a : Act} {Q : Exit → Act → World → Prop} (hgd : o.guard = none) (x y : Operand) (ho : o.op = .store 85 x y) (B : Nat) (m : MomC) (zs : Array Value) (hx : a.eval x = .pointer (some ⟨B, 0, none⟩)) (hy : a.eval y = .agg (momL m).toArray) (hB : BlockAt W B zs 85) (hz : zs.size = 20) (g0 : Gr W0 W) (hle : W0.heap.size ≤ B)
  (h : ∀ W7, Gr W0 W7 → BlockAt W7 B (momL m).toArray 85 → wpList Tryz.prog ops Q rest (a.put o.dst undef) W7) : wpList Tryz.prog ops Q (o :: rest) a W :=
 wpList_storeRow hgd _ x y ho B zs (momL m).toArray hx hy hB (by kernel_rfl) (by rw [hz]; rfl) (fun u hu => momIs.one m trivial u (by simpa [momE] using hu))
  (h _ (Gr.of (below_row g0.below hle _)) (blockAt_row (h := hB) _ _ _ _ _))
theorem ws_start {W W1 W2 : World} {D M R B : Nat} {b0 : Nat} (hg1 : Gr W W1) (hd : DevAt b0 W1 D []) (hb0 : W.heap.size ≤ b0) (hb1 : b0 ≤ W1.heap.size) (hg2 : Gr W1 W2) (hm : MapAt .u64 W2 M []) (hM : W1.heap.size ≤ M) (hR : BlockAt W2 R #[.pointer (some ⟨D, 0, none⟩), .map (some M)] 79) (hRb : W.heap.size ≤ R) (hB : BlockAt W2 B #[.slice (some ⟨R, 0, none⟩) 1 1, .slice none 0 0, .slice none 0 0, .slice none 0 0] 83) (hBb : W.heap.size ≤ B) : WS W B ⟨[([], [])], none, none, []⟩ W2 := by
 have hs1 := hg1.below.size
 have hq : QAt W2 (.slice none 0 0) none := ⟨none, 0, 0, rfl, Nat.le_refl _, Nat.zero_le _, rfl, fun x hx => by cases hx⟩
 refine ⟨[⟨D, M, b0, W1.heap.size, M + 1, [], []⟩], none, none, [], _, _, _, _, ⟨hB, OwnN.blk (e := wrE) hR hRb rfl rfl (by omega) (fun _ _ => trivial) rfl, hq, hq, OwnN.nil _ _, hg1.trans hg2, hBb, fun x hx => ?_, by simp, fun c hc => by simp at hc, fun x hx => by rw [List.mem_singleton.1 hx]; exact hb0⟩, rfl, rfl, rfl, rfl, fun _ => rfl, by simp, by simp⟩
 rw [List.mem_singleton.1 hx]
 exact ⟨(devR_of hd).keep fun b _ hb => hg2.below.block b hb, hm, hM, Nat.lt_succ_self _, Nat.succ_le_of_lt hm.lt, hb1, fun p hp => (by cases hp), fun p hp => (by cases hp)⟩
theorem run_cons {f : Nat} {m : MomC} {l : List MomC} {s : SK} {r : Nat × Int} (h : runK f (m :: l) s = some r) : (∃ e, stepK f s m = some (.inr e) ∧ r = (0, e)) ∨ (∃ s', stepK f s m = some (.inl s') ∧ runK f l s' = some r) := by
 unfold runK at h
 cases hst : stepK f s m with
 | none => rw [hst] at h; cases h
 | some v =>
  rw [hst] at h
  cases v with
  | inl s' => exact .inr ⟨s', rfl, h⟩
  | inr e => exact .inl ⟨e, rfl, (Option.some.inj h).symm⟩
inductive StepI (f : Nat) (s : SK) (m : MomC) : SK ⊕ Int → Prop
 | ask0 (ha : m.2.1 = true) (hn : m.2.2.node = 0) (hq : s.q0 = none) : StepI f s m (.inl { s with q0 := some (cp m.2.2) })
 | ask1 (ha : m.2.1 = true) (hn : m.2.2.node ≠ 0) (hq : s.q1 = none) : StepI f s m (.inl { s with q1 := some (cp m.2.2) })
 | ans (ha : m.2.1 = false) (hd : m.2.2.dn = true) (hn : m.2.2.node ≠ 0) (x : Int × OpM) (st : SoM) (hq : s.q1 = some x) (hx : x.1 = m.2.2.num) (hc : closeM f (s.gn ++ (s.q0.toList ++ s.q1.toList)) s.ws = some st) (hl : (st.2.filterMap (phiM m.2.2.num m.2.2.an.m)).length ≠ 0) : StepI f s m (.inl { s with ws := st.2.filterMap (phiM m.2.2.num m.2.2.an.m), q1 := none })
 | err (ha : m.2.1 = false) (hd : m.2.2.dn = true) (hn : m.2.2.node ≠ 0) (x : Int × OpM) (st : SoM) (hq : s.q1 = some x) (hx : x.1 = m.2.2.num) (hc : closeM f (s.gn ++ (s.q0.toList ++ s.q1.toList)) s.ws = some st) (hl : (st.2.filterMap (phiM m.2.2.num m.2.2.an.m)).length = 0) : StepI f s m (.inr 9)
 | left (ha : m.2.1 = false) (hd : m.2.2.dn = false) (hn : m.2.2.node = 0) (x : Int × OpM) (hq : s.q0 = some x) (hx : x.1 = m.2.2.num) (hg : s.gn.length = 0) : StepI f s m (.inl { s with q0 := none, gn := [cp m.2.2] })
theorem step_inv {f : Nat} {s : SK} {m : MomC} {r : SK ⊕ Int} (h : stepK f s m = some r) : (m.2.2.dn && (m.2.2.an.code == 11 || m.2.2.an.code == 13 || m.2.2.an.code == 10)) = false ∧ StepI f s m r := by
 unfold stepK at h
 split at h
 ·cases h
 rename_i hnev
 refine ⟨by simpa using hnev, ?_⟩
 split at h
 ·rename_i ha
  split at h
  ·rename_i hn
   split at h
   ·rename_i hq
    cases h
    exact .ask0 ha hn hq
   ·cases h
  ·rename_i hn
   split at h
   ·rename_i hq
    cases h
    exact .ask1 ha hn hq
   ·cases h
 ·rename_i ha
  have ha : m.2.1 = false := by simpa using ha
  split at h
  ·rename_i hd
   split at h
   ·cases h
   rename_i hn
   split at h
   ·cases h
   rename_i x hq
   split at h
   ·rename_i hx
    split at h
    ·cases h
    rename_i st hc
    split at h
    ·rename_i hl
     cases h
     exact .err ha hd hn x st hq hx hc hl
    ·rename_i hl
     cases h
     exact .ans ha hd hn x st hq hx hc hl
   ·cases h
  ·rename_i hd
   have hd : m.2.2.dn = false := by simpa using hd
   split at h
   ·rename_i hn
    split at h
    ·cases h
    rename_i x hq
    split at h
    ·rename_i hx
     cases h
     exact .left ha hd hn x hq hx.1 hx.2
    ·cases h
   ·cases h
theorem left_ws {w W : World} {B : Nat} {s : SK} (h : WS w B s W) (c : CallC) (hn : c.node = 0) (x : Int × OpM) (hq : s.q0 = some x) (hx : x.1 = c.num) (hg : s.gn.length = 0) (hco : CallOk w c) : Calls Tryz.prog 33 #[ptrB B, .agg (callL c).toArray] W (fun e w' => e = .returned (.tuple #[]) ∧ CKB B W w' ∧ WS w B { s with q0 := none, gn := [cp c] } w') := by
 obtain ⟨ws, q0, q1, gn, wv, v0, v1, gv, hb, h1, h2, h3, h4, h5, h6, h7⟩ := h
 obtain rfl : gn = [] := List.eq_nil_of_length_eq_zero (by rw [← List.length_map, h4]; exact hg)
 obtain rfl := h5 rfl
 cases q0 with
 | none => rw [hq] at h2; cases h2
 | some x0 =>
  rw [hq] at h2
  have hnum : x0.num = c.num := by rw [← hx, ← Option.some.inj h2]; rfl
  refine (left_0 c x0 hb hn hnum hco).mono ?_
  rintro e w' ⟨rfl, hk, v0', gv', hb'⟩
  exact ⟨rfl, hk, ws, none, q1, [c], wv, v0', v1, gv', hb', h1, rfl, h3, rfl, (fun e => (by cases e)), by simp, h7⟩
theorem answered_ws {f : Nat} {w W : World} {B : Nat} {s : SK} (h : WS w B s W) (c : CallC) (hn : c.node = 1) (x : Int × OpM) (st : SoM) (hq : s.q1 = some x) (hx : x.1 = c.num) (hc : closeM f (s.gn ++ (s.q0.toList ++ s.q1.toList)) s.ws = some st) (hco : CallOk w c) : Calls Tryz.prog 34 #[ptrB B, .agg (callL c).toArray] W (fun e w' => e = .returned (.int .i64 (if (st.2.filterMap (phiM c.num c.an.m)).length = 0 then 9 else 0)) ∧ CKB B W w' ∧ WS w B { s with ws := st.2.filterMap (phiM c.num c.an.m), q1 := none } w') := by
 obtain ⟨ws, q0, q1, gn, wv, v0, v1, gv, hb, h1, h2, h3, h4, h5, h6, h7⟩ := h
 cases q1 with
 | none => rw [hq] at h3; cases h3
 | some x1 =>
  have h3' := h3
  rw [hq] at h3
  have hnum : x1.num = c.num := by rw [← hx, ← Option.some.inj h3]; rfl
  have hc2 : closeM f (mayP (gn ++ (q0.toList ++ [x1]))) (ws.map WrC.p) = some (st.1, st.2) := by
   rw [← h1, ← h2, ← h3', ← h4] at hc
   rw [← hc]
   congr 1
   cases q0 <;> simp [cp]
  refine (answered_1 hb (by omega) h7 c hn hnum hco hc2).mono ?_
  rintro e w' ⟨rfl, hk, ws', wv', v1', hb', hw'⟩
  refine ⟨rfl, hk, ws', q0, none, gn, wv', v0, v1', gv, hb', hw', h2, rfl, h4, h5, h6, ?_⟩
  have h8 := closeM_len hc
  have h9 := List.length_filterMap_le (phiM c.num c.an.m) st.2
  rw [← List.length_map (f := WrC.p), hw']
  omega
section
variable {P : Program} {md : Region.Mode} {W : World} {S : Type} {I : S → World → Prop} {ops : Array Oper} {L : Array Bool → S → Act → Prop} {f n : Nat} {listed : Array Bool} {s : S} {a : Act}
theorem fe_effD {K : S → Act → Prop} {i : Nat} {o : Oper} {d : Tmp} (ho : ops[i]? = some o) (hg : o.guard = none) (hd : o.dst = some d) (h : ∀ w, I s w → EffAt P o a w (fun v w' => ∃ s', I s' w' ∧ K s' (a.put (some d) v))) : feOp P ops W I i K s a :=
 fe_eff o ho hg (by rw [hd]; exact h)
end
theorem qat_app {base : Nat} {W W' : World} {v : Value} {x : CallC} (h : AppN callE base W (.slice none 0 0) [] [x] v W') : QAt W' v (some x) := by
 have ho := h.own
 rw [List.nil_append] at ho
 obtain ⟨g, c, rfl, h1, h2, h3, h4, h5, h6⟩ := ho.cells callIs (by simp)
 rcases ho.own.2 with ⟨e, _⟩ | ⟨g', cap, cur, e, hb, hh, _⟩
 ·cases e
 ·cases e
  exact ⟨_, _, _, rfl, h3, h4, rfl, fun y hy => by
   cases hy
   exact ⟨g, 0, _, _, rfl, hh, h5⟩⟩
set_option maxRecDepth 100000
set_option maxHeartbeats 4000000
theorem worlds_any (f : Nat) (l : List CallC) (A : Option Addr) (n cap : Nat) (W : World) (hn : l.length = n) (hne : l ≠ []) (hn9 : n ≤ 9) (hok : ∀ c ∈ l, MomOk c) (hck : ∀ c ∈ l, CallOk W c) (hs : ∀ j x y, (momK l)[j]? = some x → (momK l)[j + 1]? = some y → x.1 < y.1) (hr : RowN callE W A l) {cnt : Nat} {code : Int} (hrun : runK f (momK l) ⟨[([], [])], none, none, []⟩ = some (cnt, code)) : Calls Tryz.prog 14 #[.slice A n cap] W fun e w' => e = .returned (.tuple #[.int .i64 (cnt : Int), .int .i64 code]) ∧ Gr W w' := by
 have hmm := @run_makeMap Tryz.prog
 have HM := Lib.hid (fun W' (g : Gr W W') => moments_any l A n cap W' hn hne hn9 hok hs (hr.gr g))
 have HNW := Lib.hid (fun W' => new_any W')
 have HCK := Lib.hid (show ∀ m ∈ momK l, CallOk W m.2.2 from fun m hm => by
  obtain ⟨c, hc, hm⟩ := List.mem_flatMap.1 hm
  simp only [mom2, List.mem_cons, List.mem_nil_iff, or_false] at hm
  rcases hm with rfl | rfl <;> exact hck c hc)
 have HMO := Lib.hid (show ∀ m ∈ momK l, MomOk m.2.2 from fun m hm => by
  obtain ⟨c, hc, hm⟩ := List.mem_flatMap.1 hm
  simp only [mom2, List.mem_cons, List.mem_nil_iff, or_false] at hm
  rcases hm with rfl | rfl <;> exact hok c hc)
 have hL18 : (momK l).length ≤ 18 := by rw [momK_len]; omega
 have hLne : momK l ≠ [] := fun e => by
  have := momK_len l
  rw [e] at this
  exact hne (List.eq_nil_of_length_eq_zero (by simp at this; omega))
 obtain ⟨L, hL⟩ : ∃ L, L = momK l := ⟨_, rfl⟩
 rw [← hL] at HM HCK HMO hL18 hLne hrun
 have HL18 := Lib.hid hL18
 have HLNE := Lib.hid hLne
 have HRUN := Lib.hid hrun
 clear hn hne hn9 hok hck hs hr hL18 hLne hrun hL
 go_enter Tryz.func14, Tryz.ntmps14
 go_wp2_with (first
  | (go_at_call 30; ((with_reducible refine (HM.out _ gri).mono ?_); rintro _ W1 ⟨vm, rfl, hvm, hg1⟩; obtain ⟨g, cg, hv, q2, q3, q4, q5, q6, q7⟩ := hvm.cells momIs HLNE.out; obtain ⟨N, hN⟩ : ∃ N, N = L.length := ⟨_, rfl⟩; rw [← hN] at hv; subst hv; have HG1 := Lib.hid hg1; have HCE := Lib.hid (fun W' (h : W'.heap[g]? = W1.heap[g]?) => show CellsN momE W' g 0 L from fun j x hj i u hu => by rw [← q6 j x hj i u hu]; simp [World.cell?, h]); have HGB := Lib.hid (hvm.cellsBlock g rfl); have HGL := Lib.hid q3; haveI : Old g W1 := ⟨q3⟩; have HN := Lib.hid hN; haveI := grc_of hg1; haveI := from_of hg1; clear hvm hg1 q2 q3 q4 q5 q6 q7 hN))
  | (go_at_call 7; ((with_reducible refine (HNW.out _).mono ?_); rintro _ W2 ⟨D, rfl, hd2, hg2⟩; have HD2 := Lib.hid hd2; have HG2 := Lib.hid hg2; haveI := grc_of (HG1.out.trans hg2); haveI := from_of (HG1.out.trans hg2); haveI := grc_of hg2; haveI := from_of hg2; clear hd2 hg2)))
 obtain ⟨W3, hW3⟩ : ∃ W3, W3 = ((W2.alloc (.map #[] 0)).alloc (.cells #[.pointer (some ⟨D, 0, none⟩), .map (some W2.heap.size)] 79)).alloc (.cells #[.slice (some ⟨W2.heap.size + 1, 0, none⟩) 1 1, .slice none 0 0, .slice none 0 0, .slice none 0 0] 83) := ⟨_, rfl⟩
 obtain ⟨B, hB⟩ : ∃ B, B = W2.heap.size + 1 + 1 := ⟨_, rfl⟩
 have hg12 : Gr W W2 := HG1.out.trans HG2.out
 have hg23 : Gr W2 W3 := by rw [hW3]; exact gri
 have hs2 := hg12.below.size
 have hws : WS W B ⟨[([], [])], none, none, []⟩ W3 := ws_start hg12 HD2.out HG1.out.below.size HG2.out.below.size hg23 (by rw [hW3]; exact (mapAt_new W2 .u64).gr gri) (Nat.le_refl _) (R := W2.heap.size + 1) (by rw [hW3]; infer_instance) (by omega) (by rw [hW3, hB]; infer_instance) (by omega)
 rw [← hW3, ← hB]
 have HWS := Lib.hid hws
 have HG3 := Lib.hid (HG2.out.trans hg23)
 have HNB := Lib.hid (show g ≠ B by have h1 := HGL.out; have h2 := HG2.out.below.size; omega)
 have HR0 := Lib.hid (show runK f (L.drop 0) ⟨[([], [])], none, none, []⟩ = some (cnt, code) from HRUN.out)
 have HLN := Lib.hid HN.out
 clear hW3 hB hg12 hg23 hs2 hws HRUN HD2 HG2
 go_loopw [27] (fun i wl => ∃ (k : Nat) (s : SK), k ≤ N ∧ i = .int .i64 (k : Int) ∧ runK f (L.drop k) s = some (cnt, code) ∧ WS W B s wl ∧ wl.heap[g]? = W1.heap[g]? ∧ W1.heap.size ≤ wl.heap.size) (fun i _ => N - (intOf i).toNat)
 case atStart => exact ⟨0, _, Nat.zero_le _, rfl, HR0.out, HWS.out, HG3.out.below.block g HGL.out, HG3.out.below.size⟩
 case round =>
  obtain ⟨k, s, hk, rfl, hrn, hws, hgx, hsz⟩ := hrel
  obtain ⟨W4, rfl⟩ : ∃ W4, W4 = wr := ⟨_, rfl⟩
  have hg := hws.gr0
  have HWS4 := Lib.hid hws
  have HG4 := Lib.hid hg
  have HRN := Lib.hid hrn
  haveI : Old g W4 := ⟨Nat.lt_of_lt_of_le HGL.out hsz⟩
  have HGX := Lib.hid (fun W' (g1 : Gr W4 W') => (g1.below.block g (Old.lt (b := g) (W := W4))).trans hgx)
  have HSZ := Lib.hid hsz
  have hn18 : N ≤ 18 := by rw [HLN.out]; exact HL18.out
  haveI := grc_of hg
  haveI := from_of hg
  clear hrn hws hg hgx hsz HR0 HWS HG3
  by_cases hlt : k < N
  ·have HLT := Lib.hid hlt
   have hlt2 : (k : Int) < (N : Int) := by omega
   obtain ⟨m, hm⟩ : ∃ m, L[k]? = some m := ⟨_, List.getElem?_eq_getElem (by rw [← HLN.out]; exact hlt)⟩
   have hrn := HRN.out
   have hdr : L.drop k = m :: L.drop (k + 1) := by
    obtain ⟨h3, h4⟩ := List.getElem?_eq_some_iff.1 hm
    rw [List.drop_eq_getElem_cons h3, h4]
   rw [hdr] at hrn
   have HSM := Lib.hid (run_cons hrn)
   have HRW := Lib.hid (fun W' (g1 : Gr W4 W') => show ∀ (i : Nat) u, ([.int .i64 m.1, .bool m.2.1, .int .u64 m.2.2.num, .int .i64 m.2.2.node, .int .i64 m.2.2.o.o.k, .int .u64 m.2.2.o.o.v, .int .u64 m.2.2.o.o.t, .int .i64 m.2.2.o.o.s, .int .i64 m.2.2.o.o.a, .int .i64 m.2.2.o.o.c, .slice m.2.2.o.D m.2.2.o.n m.2.2.o.q, .int .i64 m.2.2.at_, .int .i64 m.2.2.fr, .int .i64 m.2.2.tt, .bool m.2.2.dn, .int .i64 m.2.2.gone, .int .i64 m.2.2.seq, .int .i64 m.2.2.an.code, .int .i64 m.2.2.an.done, .slice m.2.2.an.D m.2.2.an.n m.2.2.an.q] )[i]? = some u → W'.cell? ((⟨g, k * 20, none⟩ : Addr).add i) = some u from fun i u hu => by
    have := HCE.out W' (HGX.out W' g1) k m hm i u hu
    rw [Go.WideShapes.add_plain]
    simpa [momE] using this)
   have hmem := List.mem_of_getElem? hm
   have HCO := Lib.hid (HCK.out m hmem)
   have HMK := Lib.hid (HMO.out m hmem)
   clear hrn hdr hm hmem HRN
   have HROW8 := Lib.hid (fun (W' : World) (B8 : Nat) (h : BlockAt W' B8 (momL m).toArray 85) => show ∀ (i : Nat) u, ([.int .u64 m.2.2.num, .int .i64 m.2.2.node, .int .i64 m.2.2.o.o.k, .int .u64 m.2.2.o.o.v, .int .u64 m.2.2.o.o.t, .int .i64 m.2.2.o.o.s, .int .i64 m.2.2.o.o.a, .int .i64 m.2.2.o.o.c, .slice m.2.2.o.D m.2.2.o.n m.2.2.o.q, .int .i64 m.2.2.at_, .int .i64 m.2.2.fr, .int .i64 m.2.2.tt, .bool m.2.2.dn, .int .i64 m.2.2.gone, .int .i64 m.2.2.seq, .int .i64 m.2.2.an.code, .int .i64 m.2.2.an.done, .slice m.2.2.an.D m.2.2.an.n m.2.2.an.q] )[i]? = some u → W'.cell? ((⟨B8, 2, none⟩ : Addr).add i) = some u from fun i u hu => by
    rw [Go.WideShapes.add_plain]
    refine (@block_cells _ _ (2 + i) _ _ h).trans ?_
    rw [Nat.add_comm 2 i]
    simpa [momL, callL] using hu)
   rcases HSM.out with ⟨e, h1, hr⟩ | ⟨s', h1, hr2⟩
   ·have hsi := (step_inv h1).2
    cases hsi with
    | err ha hd hn x st hq hx hc hl =>
     have hn1 : m.2.2.node = 1 := by have h1 := HMK.out.n0; have h2 := HMK.out.n1; omega
     have hcl : (callL m.2.2).toArray = #[.int .u64 m.2.2.num, .int .i64 m.2.2.node, .int .i64 m.2.2.o.o.k, .int .u64 m.2.2.o.o.v, .int .u64 m.2.2.o.o.t, .int .i64 m.2.2.o.o.s, .int .i64 m.2.2.o.o.a, .int .i64 m.2.2.o.o.c, .slice m.2.2.o.D m.2.2.o.n m.2.2.o.q, .int .i64 m.2.2.at_, .int .i64 m.2.2.fr, .int .i64 m.2.2.tt, .bool m.2.2.dn, .int .i64 m.2.2.gone, .int .i64 m.2.2.seq, .int .i64 m.2.2.an.code, .int .i64 m.2.2.an.done, .slice m.2.2.an.D m.2.2.an.n m.2.2.an.q]  := by simp [callL]
     have han : ∀ W', Gr W4 W' → Calls Tryz.prog 34 #[ptrB B, .agg #[.int .u64 m.2.2.num, .int .i64 m.2.2.node, .int .i64 m.2.2.o.o.k, .int .u64 m.2.2.o.o.v, .int .u64 m.2.2.o.o.t, .int .i64 m.2.2.o.o.s, .int .i64 m.2.2.o.o.a, .int .i64 m.2.2.o.o.c, .slice m.2.2.o.D m.2.2.o.n m.2.2.o.q, .int .i64 m.2.2.at_, .int .i64 m.2.2.fr, .int .i64 m.2.2.tt, .bool m.2.2.dn, .int .i64 m.2.2.gone, .int .i64 m.2.2.seq, .int .i64 m.2.2.an.code, .int .i64 m.2.2.an.done, .slice m.2.2.an.D m.2.2.an.n m.2.2.an.q] ] W' (fun e w' => e = .returned (.int .i64 (if (st.2.filterMap (phiM m.2.2.num m.2.2.an.m)).length = 0 then 9 else 0)) ∧ CKB B W' w' ∧ WS W B { s with ws := st.2.filterMap (phiM m.2.2.num m.2.2.an.m), q1 := none } w') := fun W' g1 => by
      rw [← hcl]
      exact answered_ws (HWS4.out.grow g1) m.2.2 hn1 x st hq hx hc HCO.out
     have HAN := Lib.hid han
     clear hcl
     clear han hn1
     have HNV := Lib.hid (fun W' => never_any m.2.2.an.code m.2.2.an.done m.2.2.an.D m.2.2.an.n m.2.2.an.q W' (by have := (step_inv h1).1; rw [hd] at this; simpa using this))
     have HH := Lib.hid hr
     have HA := Lib.hid ha
     have HD := Lib.hid hd
     clear hr h1 hq hx hc ha hd hn
     have HLz := Lib.hid hl
     clear hl
     go_wp2_with (first
    | (refine wpLoadCs rfl _ _ rfl ⟨g, k * 20, none⟩ ([.int .i64 m.1, .bool m.2.1, .int .u64 m.2.2.num, .int .i64 m.2.2.node, .int .i64 m.2.2.o.o.k, .int .u64 m.2.2.o.o.v, .int .u64 m.2.2.o.o.t, .int .i64 m.2.2.o.o.s, .int .i64 m.2.2.o.o.a, .int .i64 m.2.2.o.o.c, .slice m.2.2.o.D m.2.2.o.n m.2.2.o.q, .int .i64 m.2.2.at_, .int .i64 m.2.2.fr, .int .i64 m.2.2.tt, .bool m.2.2.dn, .int .i64 m.2.2.gone, .int .i64 m.2.2.seq, .int .i64 m.2.2.an.code, .int .i64 m.2.2.an.done, .slice m.2.2.an.D m.2.2.an.n m.2.2.an.q] ) _ rfl Tryz.underlying85 rfl (by kernel_rfl) (HRW.out _ gri) ?_)
    | (refine wpList_storeMom (W0 := W4) rfl _ _ rfl W4.heap.size m _ rfl rfl inferInstance rfl gri (Nat.le_refl _) ?_; obtain ⟨B8, hB8⟩ : ∃ B8, B8 = W4.heap.size := ⟨_, rfl⟩; rw [← hB8]; intro W7 g7 b8; have G7 := Lib.hid g7; have HB8 := Lib.hid b8; have HR7 := Lib.hid (fun W' (g1 : Gr W7 W') => HROW8.out W' B8 (b8.gr g1)); haveI := b8.old; haveI := grc_of g7; haveI := from_of g7; clear hB8 g7 b8)
    | (refine wpLoadCs rfl _ _ rfl ⟨B8, 2, none⟩ ([.int .u64 m.2.2.num, .int .i64 m.2.2.node, .int .i64 m.2.2.o.o.k, .int .u64 m.2.2.o.o.v, .int .u64 m.2.2.o.o.t, .int .i64 m.2.2.o.o.s, .int .i64 m.2.2.o.o.a, .int .i64 m.2.2.o.o.c, .slice m.2.2.o.D m.2.2.o.n m.2.2.o.q, .int .i64 m.2.2.at_, .int .i64 m.2.2.fr, .int .i64 m.2.2.tt, .bool m.2.2.dn, .int .i64 m.2.2.gone, .int .i64 m.2.2.seq, .int .i64 m.2.2.an.code, .int .i64 m.2.2.an.done, .slice m.2.2.an.D m.2.2.an.n m.2.2.an.q] ) _ rfl Tryz.underlying51 rfl (by kernel_rfl) (HR7.out _ gri) ?_)
    | (refine wp_storeCall (W0 := W7) rfl _ _ rfl W7.heap.size m.2.2 _ rfl rfl inferInstance rfl gri (Nat.le_refl _) ?_; obtain ⟨B9, hB9⟩ : ∃ B9, B9 = W7.heap.size := ⟨_, rfl⟩; rw [← hB9]; intro W10 g10 b9; have c1 : W10.cell? ⟨B8, 1, none⟩ = some (.bool m.2.1) := (@block_cells _ _ 1 _ _ (HB8.out.gr g10)).trans rfl; have d12 : W10.cell? ⟨B9, 12, none⟩ = some (.bool m.2.2.dn) := (@block_cells _ _ 12 _ _ b9).trans rfl; have d1 : W10.cell? ⟨B9, 1, none⟩ = some (.int .i64 m.2.2.node) := (@block_cells _ _ 1 _ _ b9).trans rfl; have d15 : W10.cell? ⟨B9, 15, none⟩ = some (.int .i64 m.2.2.an.code) := (@block_cells _ _ 15 _ _ b9).trans rfl; have d16 : W10.cell? ⟨B9, 16, none⟩ = some (.int .i64 m.2.2.an.done) := (@block_cells _ _ 16 _ _ b9).trans rfl; have d17 : W10.cell? ⟨B9, 17, none⟩ = some (.slice m.2.2.an.D m.2.2.an.n m.2.2.an.q) := (@block_cells _ _ 17 _ _ b9).trans rfl; rw [HA.out] at c1; rw [HD.out] at d12; have HB9 := Lib.hid b9; have HR10 := Lib.hid (fun W' (g1 : Gr W10 W') => show ∀ (i : Nat) u, ([.int .u64 m.2.2.num, .int .i64 m.2.2.node, .int .i64 m.2.2.o.o.k, .int .u64 m.2.2.o.o.v, .int .u64 m.2.2.o.o.t, .int .i64 m.2.2.o.o.s, .int .i64 m.2.2.o.o.a, .int .i64 m.2.2.o.o.c, .slice m.2.2.o.D m.2.2.o.n m.2.2.o.q, .int .i64 m.2.2.at_, .int .i64 m.2.2.fr, .int .i64 m.2.2.tt, .bool m.2.2.dn, .int .i64 m.2.2.gone, .int .i64 m.2.2.seq, .int .i64 m.2.2.an.code, .int .i64 m.2.2.an.done, .slice m.2.2.an.D m.2.2.an.n m.2.2.an.q] )[i]? = some u → W'.cell? ((⟨B9, 0, none⟩ : Addr).add i) = some u from fun i u hu => by rw [Go.WideShapes.add_plain, Nat.zero_add]; exact (@block_cells _ _ i _ _ (HB9.out.gr g1)).trans (by simpa [callL] using hu)); haveI := b9.old; haveI := (HB8.out.gr g10).old; have G10 := Lib.hid (G7.out.trans g10); haveI := grc_of (G7.out.trans g10); haveI := from_of (G7.out.trans g10); clear hB9 g10 b9)
    | (refine wpLoadCs rfl _ _ rfl ⟨B9, 0, none⟩ ([.int .u64 m.2.2.num, .int .i64 m.2.2.node, .int .i64 m.2.2.o.o.k, .int .u64 m.2.2.o.o.v, .int .u64 m.2.2.o.o.t, .int .i64 m.2.2.o.o.s, .int .i64 m.2.2.o.o.a, .int .i64 m.2.2.o.o.c, .slice m.2.2.o.D m.2.2.o.n m.2.2.o.q, .int .i64 m.2.2.at_, .int .i64 m.2.2.fr, .int .i64 m.2.2.tt, .bool m.2.2.dn, .int .i64 m.2.2.gone, .int .i64 m.2.2.seq, .int .i64 m.2.2.an.code, .int .i64 m.2.2.an.done, .slice m.2.2.an.D m.2.2.an.n m.2.2.an.q] ) _ rfl Tryz.underlying51 rfl (by kernel_rfl) (HR10.out _ gri) ?_)
    | (go_at_call 31; ((with_reducible refine (HNV.out _).mono ?_); rintro _ _ ⟨rfl, ⟨g11, rfl⟩⟩))
    | (go_at_call 34; ((with_reducible refine (HAN.out _ gri).mono ?_); rintro _ W12 ⟨rfl, hk12, hws12⟩; rw [if_pos HLz.out]; have hgx12 : W12.heap[g]? = W1.heap[g]? := (by obtain ⟨cs, hcs⟩ := HGB.out; exact (hk12.2 g cs _ _ HNB.out ((HGX.out _ gri).trans hcs)).trans (HGX.out _ gri)); have hsz12 : W1.heap.size ≤ W12.heap.size := Nat.le_trans HSZ.out (Nat.le_trans (gri : Gr W4 _).below.size hk12.1); have HGX12 := Lib.hid hgx12; have HSZ12 := Lib.hid hsz12; have HWS12 := Lib.hid hws12; clear hgx12 hsz12 hws12 hk12)))
     refine bodyPost_ret (results_tmp2 rfl _ _ _) rfl ?_
     have e1 := congrArg Prod.fst HH.out
     have e2 := congrArg Prod.snd HH.out
     simp only at e1 e2
     rw [e1, e2]
     exact ⟨rfl, HWS12.out.gr0⟩
   ·have hsi := (step_inv h1).2
    have HR2 := Lib.hid hr2
    clear hr2
    cases hsi with
    | ask0 ha hn hq =>
     have HA := Lib.hid ha
     have HN0 := Lib.hid hn
     obtain ⟨ws, q0, q1, gn, wv, v0, v1, gv, hb, e1, e2, e3, e4, e5, e6, e7⟩ := HWS4.out
     obtain rfl : q0 = none := by cases q0 with
      | none => rfl
      | some x => rw [hq] at e2; cases e2
     obtain ⟨A0, n0, c0, hv0, h01, h02, h03, _⟩ := hb.w0
     obtain rfl : n0 = 0 := h03
     subst hv0
     have HB4 := Lib.hid hb
     have HE := Lib.hid (And.intro e1 (And.intro e3 (And.intro e4 (And.intro e5 (And.intro e6 e7)))))
     have hbl := hb.blk
     have HBK := Lib.hid hbl
     have HNV := Lib.hid (fun W' (h : m.2.2.dn = true) => never_any m.2.2.an.code m.2.2.an.done m.2.2.an.D m.2.2.an.n m.2.2.an.q W' (by have := (step_inv h1).1; rw [h] at this; simpa using this))
     cases hd : m.2.2.dn with
     | false =>
      have HD := Lib.hid hd
      clear h1 hq ha hn hd hb e1 e2 e3 e4 e5 e6 e7 hbl h01 h02
      go_wp2_with (first
    | (refine wpLoadCs rfl _ _ rfl ⟨g, k * 20, none⟩ ([.int .i64 m.1, .bool m.2.1, .int .u64 m.2.2.num, .int .i64 m.2.2.node, .int .i64 m.2.2.o.o.k, .int .u64 m.2.2.o.o.v, .int .u64 m.2.2.o.o.t, .int .i64 m.2.2.o.o.s, .int .i64 m.2.2.o.o.a, .int .i64 m.2.2.o.o.c, .slice m.2.2.o.D m.2.2.o.n m.2.2.o.q, .int .i64 m.2.2.at_, .int .i64 m.2.2.fr, .int .i64 m.2.2.tt, .bool m.2.2.dn, .int .i64 m.2.2.gone, .int .i64 m.2.2.seq, .int .i64 m.2.2.an.code, .int .i64 m.2.2.an.done, .slice m.2.2.an.D m.2.2.an.n m.2.2.an.q] ) _ rfl Tryz.underlying85 rfl (by kernel_rfl) (HRW.out _ gri) ?_)
    | (refine wpList_storeMom (W0 := W4) rfl _ _ rfl W4.heap.size m _ rfl rfl inferInstance rfl gri (Nat.le_refl _) ?_; obtain ⟨B8, hB8⟩ : ∃ B8, B8 = W4.heap.size := ⟨_, rfl⟩; rw [← hB8]; intro W7 g7 b8; have G7 := Lib.hid g7; have HB8 := Lib.hid b8; have HR7 := Lib.hid (fun W' (g1 : Gr W7 W') => HROW8.out W' B8 (b8.gr g1)); haveI := b8.old; haveI := grc_of g7; haveI := from_of g7; clear hB8 g7 b8)
    | (refine wpLoadCs rfl _ _ rfl ⟨B8, 2, none⟩ ([.int .u64 m.2.2.num, .int .i64 m.2.2.node, .int .i64 m.2.2.o.o.k, .int .u64 m.2.2.o.o.v, .int .u64 m.2.2.o.o.t, .int .i64 m.2.2.o.o.s, .int .i64 m.2.2.o.o.a, .int .i64 m.2.2.o.o.c, .slice m.2.2.o.D m.2.2.o.n m.2.2.o.q, .int .i64 m.2.2.at_, .int .i64 m.2.2.fr, .int .i64 m.2.2.tt, .bool m.2.2.dn, .int .i64 m.2.2.gone, .int .i64 m.2.2.seq, .int .i64 m.2.2.an.code, .int .i64 m.2.2.an.done, .slice m.2.2.an.D m.2.2.an.n m.2.2.an.q] ) _ rfl Tryz.underlying51 rfl (by kernel_rfl) (HR7.out _ gri) ?_)
    | (refine wp_storeCall (W0 := W7) rfl _ _ rfl W7.heap.size m.2.2 _ rfl rfl inferInstance rfl gri (Nat.le_refl _) ?_; obtain ⟨B9, hB9⟩ : ∃ B9, B9 = W7.heap.size := ⟨_, rfl⟩; rw [← hB9]; intro W10 g10 b9; have c1 : W10.cell? ⟨B8, 1, none⟩ = some (.bool m.2.1) := (@block_cells _ _ 1 _ _ (HB8.out.gr g10)).trans rfl; have d12 : W10.cell? ⟨B9, 12, none⟩ = some (.bool m.2.2.dn) := (@block_cells _ _ 12 _ _ b9).trans rfl; have d1 : W10.cell? ⟨B9, 1, none⟩ = some (.int .i64 m.2.2.node) := (@block_cells _ _ 1 _ _ b9).trans rfl; have d15 : W10.cell? ⟨B9, 15, none⟩ = some (.int .i64 m.2.2.an.code) := (@block_cells _ _ 15 _ _ b9).trans rfl; have d16 : W10.cell? ⟨B9, 16, none⟩ = some (.int .i64 m.2.2.an.done) := (@block_cells _ _ 16 _ _ b9).trans rfl; have d17 : W10.cell? ⟨B9, 17, none⟩ = some (.slice m.2.2.an.D m.2.2.an.n m.2.2.an.q) := (@block_cells _ _ 17 _ _ b9).trans rfl; rw [HA.out] at c1; rw [HN0.out] at d1; have k1 : W10.cell? ⟨B, 1, none⟩ = some (.slice A0 0 c0) := (@block_cells _ _ 1 _ _ (HBK.out.gr (G7.out.trans g10))).trans rfl; haveI := (HBK.out.gr (G7.out.trans g10)).old; rw [HD.out] at d12; have HB9 := Lib.hid b9; have HR10 := Lib.hid (fun W' (g1 : Gr W10 W') => show ∀ (i : Nat) u, ([.int .u64 m.2.2.num, .int .i64 m.2.2.node, .int .i64 m.2.2.o.o.k, .int .u64 m.2.2.o.o.v, .int .u64 m.2.2.o.o.t, .int .i64 m.2.2.o.o.s, .int .i64 m.2.2.o.o.a, .int .i64 m.2.2.o.o.c, .slice m.2.2.o.D m.2.2.o.n m.2.2.o.q, .int .i64 m.2.2.at_, .int .i64 m.2.2.fr, .int .i64 m.2.2.tt, .bool m.2.2.dn, .int .i64 m.2.2.gone, .int .i64 m.2.2.seq, .int .i64 m.2.2.an.code, .int .i64 m.2.2.an.done, .slice m.2.2.an.D m.2.2.an.n m.2.2.an.q] )[i]? = some u → W'.cell? ((⟨B9, 0, none⟩ : Addr).add i) = some u from fun i u hu => by rw [Go.WideShapes.add_plain, Nat.zero_add]; exact (@block_cells _ _ i _ _ (HB9.out.gr g1)).trans (by simpa [callL] using hu)); haveI := b9.old; haveI := (HB8.out.gr g10).old; have G10 := Lib.hid (G7.out.trans g10); haveI := grc_of (G7.out.trans g10); haveI := from_of (G7.out.trans g10); clear hB9 g10 b9)
    | (refine wpLoadCs rfl _ _ rfl ⟨B9, 0, none⟩ ([.int .u64 m.2.2.num, .int .i64 m.2.2.node, .int .i64 m.2.2.o.o.k, .int .u64 m.2.2.o.o.v, .int .u64 m.2.2.o.o.t, .int .i64 m.2.2.o.o.s, .int .i64 m.2.2.o.o.a, .int .i64 m.2.2.o.o.c, .slice m.2.2.o.D m.2.2.o.n m.2.2.o.q, .int .i64 m.2.2.at_, .int .i64 m.2.2.fr, .int .i64 m.2.2.tt, .bool m.2.2.dn, .int .i64 m.2.2.gone, .int .i64 m.2.2.seq, .int .i64 m.2.2.an.code, .int .i64 m.2.2.an.done, .slice m.2.2.an.D m.2.2.an.n m.2.2.an.q] ) _ rfl Tryz.underlying51 rfl (by kernel_rfl) (HR10.out _ gri) ?_))
        refine wp_region_treeT (inCls_ghost _) (Cls.none _) ⟨Gr.of ((Below.refl _ _).drew), trivial⟩ [0, 1, 2, 3, 4, 5, 6, 7, 8, 9, 10, 11, 14, 15] 3 17 (by kernel_rfl) (by kernel_rfl) ?_
        simp only [pick, List.drop, List.take, List.nil_append, List.cons_append]
        repeat (refine wpCalm_step (fun K hK => ?_); go_simp; first | (refine hK _ ?_; clear hK K) | (apply Exists.intro; refine ⟨fun _ => ?_, hK _ ?_⟩; ((go_at_call 32; exact clip0 _ _ _)); clear hK K))
        refine wpCalm_load rfl rfl rfl (HB9.out.gr gri) Tryz.underlying51 rfl (by kernel_rfl) ?_
        repeat (refine wpCalm_step (fun K hK => ?_); go_simp; first | (refine hK _ ?_; clear hK K) | (apply Exists.intro; refine ⟨fun _ => ?_, hK _ ?_⟩; (skip); clear hK K))
        refine wpCalm_nil ?_
        refine ft_one 12 (by kernel_rfl) (by omega) ?_
        refine fe_effD rfl rfl rfl fun w4 hw4 => effAt_ok (.slice (some ⟨w4.heap.size, 0, none⟩) 1 1) (w' := w4.alloc (.cells (callL m.2.2).toArray 51)) (by go_simp) ?_
        obtain ⟨B2, hB2⟩ : ∃ B2, B2 = w4.heap.size := ⟨_, rfl⟩
        have hbB : BlockAt (w4.alloc (.cells (callL m.2.2).toArray 51)) B2 (callL m.2.2).toArray 51 := by rw [hB2]; infer_instance
        rw [← hB2]
        refine ⟨⟨fun w' => BlockAt w' B2 (callL m.2.2).toArray 51, fun a b h g => h.gr g⟩, ⟨hw4.1.trans gri, hbB⟩, ?_⟩
        clear hw4 hB2 hbB w4
        try simp only [Act.put, List.setIfInBounds_toArray, List.set]
        refine ft_one 13 (by kernel_rfl) (by omega) ?_
        refine fe_effD rfl rfl rfl fun w4 hw4 => effAt_append_e0 _ _ rfl A0 B2 0 1 m.2.2 rfl rfl (cellsN_call hw4.2) hw4.1.below.size ?_
        intro va Wa ha
        refine ⟨⟨fun w' => QAt w' va (some m.2.2), fun a b h g => h.gr g⟩, ⟨hw4.1.trans_below ha.below, qat_app ha⟩, ?_⟩
        clear ha hw4 Wa w4
        try simp only [Act.put, List.setIfInBounds_toArray, List.set]
        refine ft_one 16 (by kernel_rfl) (by omega) ?_
        refine fe_effD rfl rfl rfl fun w4 hw4 => effAt_ok (.pointer (some ⟨B, 1, none⟩)) (w' := w4) (by go_simp) ⟨_, hw4, ?_⟩
        clear hw4 w4
        try simp only [Act.put, List.setIfInBounds_toArray, List.set]
        refine ft_end ⟨by kernel_rfl, fun w9 hw9 => ?_⟩
        try simp only [List.drop_succ_cons, List.drop_zero]
        have hbk := (HB4.out.grow (G10.out.trans (Gr.trans gri hw9.1))).set0 hw9.2 (fun x hx => by simp only [Option.mem_toList, Option.some.injEq] at hx; subst hx; exact HCO.out)
        obtain ⟨A9, n9, c9, hv9, hq9⟩ := hw9.2
        subst hv9
        obtain ⟨W12, hW12⟩ : ∃ W12, W12 = w9.setCell ⟨B, 1, none⟩ (.slice A9 n9 c9) := ⟨_, rfl⟩
        have hrun9 := run_storeBc 1 n9 c9 A9 (HB4.out.grow (G10.out.trans (Gr.trans gri hw9.1))).blk rfl
        rw [← hW12] at hbk hrun9
        have HWS12 := Lib.hid (show WS W B { s with q0 := some (cp m.2.2) } W12 from ⟨ws, some m.2.2, q1, gn, wv, .slice A9 n9 c9, v1, gv, hbk, HE.out.1, rfl, HE.out.2.1, HE.out.2.2.1, HE.out.2.2.2.1, HE.out.2.2.2.2.1, HE.out.2.2.2.2.2⟩)
        have hgx12 : W12.heap[g]? = W1.heap[g]? := by rw [hW12]; exact (Below.heap_setCell w9 ⟨B, 1, none⟩ _ g HNB.out).trans (HGX.out _ (G10.out.trans (Gr.trans gri hw9.1)))
        have hsz12 : W1.heap.size ≤ W12.heap.size := by rw [hW12]; simp only [World.size_setCell]; exact Nat.le_trans HSZ.out (G10.out.trans (Gr.trans gri hw9.1)).below.size
        have HGX12 := Lib.hid hgx12
        have HSZ12 := Lib.hid hsz12
        clear hbk hgx12 hsz12 hW12 hw9 hq9
        refine wpStoreG rfl _ _ rfl ⟨B, 1, none⟩ _ rfl rfl W12 hrun9 ?_
        clear hrun9 w9
        go_wp2
        go_roundw
        case rel => exact ⟨k + 1, _, HLT.out, by go_num, HR2.out, HWS12.out, HGX12.out, HSZ12.out⟩
        case measure => have := HLT.out; simp [intOf]; omega
     | true =>
      have HD := Lib.hid hd
      clear h1 hq ha hn hd hb e1 e2 e3 e4 e5 e6 e7 hbl h01 h02
      go_wp2_with (first
    | (refine wpLoadCs rfl _ _ rfl ⟨g, k * 20, none⟩ ([.int .i64 m.1, .bool m.2.1, .int .u64 m.2.2.num, .int .i64 m.2.2.node, .int .i64 m.2.2.o.o.k, .int .u64 m.2.2.o.o.v, .int .u64 m.2.2.o.o.t, .int .i64 m.2.2.o.o.s, .int .i64 m.2.2.o.o.a, .int .i64 m.2.2.o.o.c, .slice m.2.2.o.D m.2.2.o.n m.2.2.o.q, .int .i64 m.2.2.at_, .int .i64 m.2.2.fr, .int .i64 m.2.2.tt, .bool m.2.2.dn, .int .i64 m.2.2.gone, .int .i64 m.2.2.seq, .int .i64 m.2.2.an.code, .int .i64 m.2.2.an.done, .slice m.2.2.an.D m.2.2.an.n m.2.2.an.q] ) _ rfl Tryz.underlying85 rfl (by kernel_rfl) (HRW.out _ gri) ?_)
    | (refine wpList_storeMom (W0 := W4) rfl _ _ rfl W4.heap.size m _ rfl rfl inferInstance rfl gri (Nat.le_refl _) ?_; obtain ⟨B8, hB8⟩ : ∃ B8, B8 = W4.heap.size := ⟨_, rfl⟩; rw [← hB8]; intro W7 g7 b8; have G7 := Lib.hid g7; have HB8 := Lib.hid b8; have HR7 := Lib.hid (fun W' (g1 : Gr W7 W') => HROW8.out W' B8 (b8.gr g1)); haveI := b8.old; haveI := grc_of g7; haveI := from_of g7; clear hB8 g7 b8)
    | (refine wpLoadCs rfl _ _ rfl ⟨B8, 2, none⟩ ([.int .u64 m.2.2.num, .int .i64 m.2.2.node, .int .i64 m.2.2.o.o.k, .int .u64 m.2.2.o.o.v, .int .u64 m.2.2.o.o.t, .int .i64 m.2.2.o.o.s, .int .i64 m.2.2.o.o.a, .int .i64 m.2.2.o.o.c, .slice m.2.2.o.D m.2.2.o.n m.2.2.o.q, .int .i64 m.2.2.at_, .int .i64 m.2.2.fr, .int .i64 m.2.2.tt, .bool m.2.2.dn, .int .i64 m.2.2.gone, .int .i64 m.2.2.seq, .int .i64 m.2.2.an.code, .int .i64 m.2.2.an.done, .slice m.2.2.an.D m.2.2.an.n m.2.2.an.q] ) _ rfl Tryz.underlying51 rfl (by kernel_rfl) (HR7.out _ gri) ?_)
    | (refine wp_storeCall (W0 := W7) rfl _ _ rfl W7.heap.size m.2.2 _ rfl rfl inferInstance rfl gri (Nat.le_refl _) ?_; obtain ⟨B9, hB9⟩ : ∃ B9, B9 = W7.heap.size := ⟨_, rfl⟩; rw [← hB9]; intro W10 g10 b9; have c1 : W10.cell? ⟨B8, 1, none⟩ = some (.bool m.2.1) := (@block_cells _ _ 1 _ _ (HB8.out.gr g10)).trans rfl; have d12 : W10.cell? ⟨B9, 12, none⟩ = some (.bool m.2.2.dn) := (@block_cells _ _ 12 _ _ b9).trans rfl; have d1 : W10.cell? ⟨B9, 1, none⟩ = some (.int .i64 m.2.2.node) := (@block_cells _ _ 1 _ _ b9).trans rfl; have d15 : W10.cell? ⟨B9, 15, none⟩ = some (.int .i64 m.2.2.an.code) := (@block_cells _ _ 15 _ _ b9).trans rfl; have d16 : W10.cell? ⟨B9, 16, none⟩ = some (.int .i64 m.2.2.an.done) := (@block_cells _ _ 16 _ _ b9).trans rfl; have d17 : W10.cell? ⟨B9, 17, none⟩ = some (.slice m.2.2.an.D m.2.2.an.n m.2.2.an.q) := (@block_cells _ _ 17 _ _ b9).trans rfl; rw [HA.out] at c1; rw [HN0.out] at d1; have k1 : W10.cell? ⟨B, 1, none⟩ = some (.slice A0 0 c0) := (@block_cells _ _ 1 _ _ (HBK.out.gr (G7.out.trans g10))).trans rfl; haveI := (HBK.out.gr (G7.out.trans g10)).old; rw [HD.out] at d12; have HB9 := Lib.hid b9; have HR10 := Lib.hid (fun W' (g1 : Gr W10 W') => show ∀ (i : Nat) u, ([.int .u64 m.2.2.num, .int .i64 m.2.2.node, .int .i64 m.2.2.o.o.k, .int .u64 m.2.2.o.o.v, .int .u64 m.2.2.o.o.t, .int .i64 m.2.2.o.o.s, .int .i64 m.2.2.o.o.a, .int .i64 m.2.2.o.o.c, .slice m.2.2.o.D m.2.2.o.n m.2.2.o.q, .int .i64 m.2.2.at_, .int .i64 m.2.2.fr, .int .i64 m.2.2.tt, .bool m.2.2.dn, .int .i64 m.2.2.gone, .int .i64 m.2.2.seq, .int .i64 m.2.2.an.code, .int .i64 m.2.2.an.done, .slice m.2.2.an.D m.2.2.an.n m.2.2.an.q] )[i]? = some u → W'.cell? ((⟨B9, 0, none⟩ : Addr).add i) = some u from fun i u hu => by rw [Go.WideShapes.add_plain, Nat.zero_add]; exact (@block_cells _ _ i _ _ (HB9.out.gr g1)).trans (by simpa [callL] using hu)); haveI := b9.old; haveI := (HB8.out.gr g10).old; have G10 := Lib.hid (G7.out.trans g10); haveI := grc_of (G7.out.trans g10); haveI := from_of (G7.out.trans g10); clear hB9 g10 b9)
    | (refine wpLoadCs rfl _ _ rfl ⟨B9, 0, none⟩ ([.int .u64 m.2.2.num, .int .i64 m.2.2.node, .int .i64 m.2.2.o.o.k, .int .u64 m.2.2.o.o.v, .int .u64 m.2.2.o.o.t, .int .i64 m.2.2.o.o.s, .int .i64 m.2.2.o.o.a, .int .i64 m.2.2.o.o.c, .slice m.2.2.o.D m.2.2.o.n m.2.2.o.q, .int .i64 m.2.2.at_, .int .i64 m.2.2.fr, .int .i64 m.2.2.tt, .bool m.2.2.dn, .int .i64 m.2.2.gone, .int .i64 m.2.2.seq, .int .i64 m.2.2.an.code, .int .i64 m.2.2.an.done, .slice m.2.2.an.D m.2.2.an.n m.2.2.an.q] ) _ rfl Tryz.underlying51 rfl (by kernel_rfl) (HR10.out _ gri) ?_)
    | (go_at_call 31; ((with_reducible refine (HNV.out _ HD.out).mono ?_); rintro _ _ ⟨rfl, ⟨g11, rfl⟩⟩)))
        refine wp_region_treeT (inCls_ghost _) (Cls.none _) ⟨Gr.of ((Below.refl _ _).drew), trivial⟩ [0, 1, 2, 3, 4, 5, 6, 7, 8, 9, 10, 11, 14, 15] 3 17 (by kernel_rfl) (by kernel_rfl) ?_
        simp only [pick, List.drop, List.take, List.nil_append, List.cons_append]
        repeat (refine wpCalm_step (fun K hK => ?_); go_simp; first | (refine hK _ ?_; clear hK K) | (apply Exists.intro; refine ⟨fun _ => ?_, hK _ ?_⟩; ((go_at_call 32; exact clip0 _ _ _)); clear hK K))
        refine wpCalm_load rfl rfl rfl (HB9.out.gr gri) Tryz.underlying51 rfl (by kernel_rfl) ?_
        repeat (refine wpCalm_step (fun K hK => ?_); go_simp; first | (refine hK _ ?_; clear hK K) | (apply Exists.intro; refine ⟨fun _ => ?_, hK _ ?_⟩; (skip); clear hK K))
        refine wpCalm_nil ?_
        refine ft_one 12 (by kernel_rfl) (by omega) ?_
        refine fe_effD rfl rfl rfl fun w4 hw4 => effAt_ok (.slice (some ⟨w4.heap.size, 0, none⟩) 1 1) (w' := w4.alloc (.cells (callL m.2.2).toArray 51)) (by go_simp) ?_
        obtain ⟨B2, hB2⟩ : ∃ B2, B2 = w4.heap.size := ⟨_, rfl⟩
        have hbB : BlockAt (w4.alloc (.cells (callL m.2.2).toArray 51)) B2 (callL m.2.2).toArray 51 := by rw [hB2]; infer_instance
        rw [← hB2]
        refine ⟨⟨fun w' => BlockAt w' B2 (callL m.2.2).toArray 51, fun a b h g => h.gr g⟩, ⟨hw4.1.trans gri, hbB⟩, ?_⟩
        clear hw4 hB2 hbB w4
        try simp only [Act.put, List.setIfInBounds_toArray, List.set]
        refine ft_one 13 (by kernel_rfl) (by omega) ?_
        refine fe_effD rfl rfl rfl fun w4 hw4 => effAt_append_e0 _ _ rfl A0 B2 0 1 m.2.2 rfl rfl (cellsN_call hw4.2) hw4.1.below.size ?_
        intro va Wa ha
        refine ⟨⟨fun w' => QAt w' va (some m.2.2), fun a b h g => h.gr g⟩, ⟨hw4.1.trans_below ha.below, qat_app ha⟩, ?_⟩
        clear ha hw4 Wa w4
        try simp only [Act.put, List.setIfInBounds_toArray, List.set]
        refine ft_one 16 (by kernel_rfl) (by omega) ?_
        refine fe_effD rfl rfl rfl fun w4 hw4 => effAt_ok (.pointer (some ⟨B, 1, none⟩)) (w' := w4) (by go_simp) ⟨_, hw4, ?_⟩
        clear hw4 w4
        try simp only [Act.put, List.setIfInBounds_toArray, List.set]
        refine ft_end ⟨by kernel_rfl, fun w9 hw9 => ?_⟩
        try simp only [List.drop_succ_cons, List.drop_zero]
        have hbk := (HB4.out.grow (G10.out.trans (Gr.trans gri hw9.1))).set0 hw9.2 (fun x hx => by simp only [Option.mem_toList, Option.some.injEq] at hx; subst hx; exact HCO.out)
        obtain ⟨A9, n9, c9, hv9, hq9⟩ := hw9.2
        subst hv9
        obtain ⟨W12, hW12⟩ : ∃ W12, W12 = w9.setCell ⟨B, 1, none⟩ (.slice A9 n9 c9) := ⟨_, rfl⟩
        have hrun9 := run_storeBc 1 n9 c9 A9 (HB4.out.grow (G10.out.trans (Gr.trans gri hw9.1))).blk rfl
        rw [← hW12] at hbk hrun9
        have HWS12 := Lib.hid (show WS W B { s with q0 := some (cp m.2.2) } W12 from ⟨ws, some m.2.2, q1, gn, wv, .slice A9 n9 c9, v1, gv, hbk, HE.out.1, rfl, HE.out.2.1, HE.out.2.2.1, HE.out.2.2.2.1, HE.out.2.2.2.2.1, HE.out.2.2.2.2.2⟩)
        have hgx12 : W12.heap[g]? = W1.heap[g]? := by rw [hW12]; exact (Below.heap_setCell w9 ⟨B, 1, none⟩ _ g HNB.out).trans (HGX.out _ (G10.out.trans (Gr.trans gri hw9.1)))
        have hsz12 : W1.heap.size ≤ W12.heap.size := by rw [hW12]; simp only [World.size_setCell]; exact Nat.le_trans HSZ.out (G10.out.trans (Gr.trans gri hw9.1)).below.size
        have HGX12 := Lib.hid hgx12
        have HSZ12 := Lib.hid hsz12
        clear hbk hgx12 hsz12 hW12 hw9 hq9
        refine wpStoreG rfl _ _ rfl ⟨B, 1, none⟩ _ rfl rfl W12 hrun9 ?_
        clear hrun9 w9
        go_wp2
        go_roundw
        case rel => exact ⟨k + 1, _, HLT.out, by go_num, HR2.out, HWS12.out, HGX12.out, HSZ12.out⟩
        case measure => have := HLT.out; simp [intOf]; omega
    | ask1 ha hn hq =>
     have hn : m.2.2.node = 1 := by have h1 := HMK.out.n0; have h2 := HMK.out.n1; omega
     have HA := Lib.hid ha
     have HN0 := Lib.hid hn
     obtain ⟨ws, q0, q1, gn, wv, v0, v1, gv, hb, e1, e2, e3, e4, e5, e6, e7⟩ := HWS4.out
     obtain rfl : q1 = none := by cases q1 with
      | none => rfl
      | some x => rw [hq] at e3; cases e3
     obtain ⟨A0, n0, c0, hv0, h01, h02, h03, _⟩ := hb.w1
     obtain rfl : n0 = 0 := h03
     subst hv0
     have HB4 := Lib.hid hb
     have HE := Lib.hid (And.intro e1 (And.intro e2 (And.intro e4 (And.intro e5 (And.intro e6 e7)))))
     have hbl := hb.blk
     have HBK := Lib.hid hbl
     have HNV := Lib.hid (fun W' (h : m.2.2.dn = true) => never_any m.2.2.an.code m.2.2.an.done m.2.2.an.D m.2.2.an.n m.2.2.an.q W' (by have := (step_inv h1).1; rw [h] at this; simpa using this))
     cases hd : m.2.2.dn with
     | false =>
      have HD := Lib.hid hd
      clear h1 hq ha hn hd hb e1 e2 e3 e4 e5 e6 e7 hbl h01 h02
      go_wp2_with (first
    | (refine wpLoadCs rfl _ _ rfl ⟨g, k * 20, none⟩ ([.int .i64 m.1, .bool m.2.1, .int .u64 m.2.2.num, .int .i64 m.2.2.node, .int .i64 m.2.2.o.o.k, .int .u64 m.2.2.o.o.v, .int .u64 m.2.2.o.o.t, .int .i64 m.2.2.o.o.s, .int .i64 m.2.2.o.o.a, .int .i64 m.2.2.o.o.c, .slice m.2.2.o.D m.2.2.o.n m.2.2.o.q, .int .i64 m.2.2.at_, .int .i64 m.2.2.fr, .int .i64 m.2.2.tt, .bool m.2.2.dn, .int .i64 m.2.2.gone, .int .i64 m.2.2.seq, .int .i64 m.2.2.an.code, .int .i64 m.2.2.an.done, .slice m.2.2.an.D m.2.2.an.n m.2.2.an.q] ) _ rfl Tryz.underlying85 rfl (by kernel_rfl) (HRW.out _ gri) ?_)
    | (refine wpList_storeMom (W0 := W4) rfl _ _ rfl W4.heap.size m _ rfl rfl inferInstance rfl gri (Nat.le_refl _) ?_; obtain ⟨B8, hB8⟩ : ∃ B8, B8 = W4.heap.size := ⟨_, rfl⟩; rw [← hB8]; intro W7 g7 b8; have G7 := Lib.hid g7; have HB8 := Lib.hid b8; have HR7 := Lib.hid (fun W' (g1 : Gr W7 W') => HROW8.out W' B8 (b8.gr g1)); haveI := b8.old; haveI := grc_of g7; haveI := from_of g7; clear hB8 g7 b8)
    | (refine wpLoadCs rfl _ _ rfl ⟨B8, 2, none⟩ ([.int .u64 m.2.2.num, .int .i64 m.2.2.node, .int .i64 m.2.2.o.o.k, .int .u64 m.2.2.o.o.v, .int .u64 m.2.2.o.o.t, .int .i64 m.2.2.o.o.s, .int .i64 m.2.2.o.o.a, .int .i64 m.2.2.o.o.c, .slice m.2.2.o.D m.2.2.o.n m.2.2.o.q, .int .i64 m.2.2.at_, .int .i64 m.2.2.fr, .int .i64 m.2.2.tt, .bool m.2.2.dn, .int .i64 m.2.2.gone, .int .i64 m.2.2.seq, .int .i64 m.2.2.an.code, .int .i64 m.2.2.an.done, .slice m.2.2.an.D m.2.2.an.n m.2.2.an.q] ) _ rfl Tryz.underlying51 rfl (by kernel_rfl) (HR7.out _ gri) ?_)
    | (refine wp_storeCall (W0 := W7) rfl _ _ rfl W7.heap.size m.2.2 _ rfl rfl inferInstance rfl gri (Nat.le_refl _) ?_; obtain ⟨B9, hB9⟩ : ∃ B9, B9 = W7.heap.size := ⟨_, rfl⟩; rw [← hB9]; intro W10 g10 b9; have c1 : W10.cell? ⟨B8, 1, none⟩ = some (.bool m.2.1) := (@block_cells _ _ 1 _ _ (HB8.out.gr g10)).trans rfl; have d12 : W10.cell? ⟨B9, 12, none⟩ = some (.bool m.2.2.dn) := (@block_cells _ _ 12 _ _ b9).trans rfl; have d1 : W10.cell? ⟨B9, 1, none⟩ = some (.int .i64 m.2.2.node) := (@block_cells _ _ 1 _ _ b9).trans rfl; have d15 : W10.cell? ⟨B9, 15, none⟩ = some (.int .i64 m.2.2.an.code) := (@block_cells _ _ 15 _ _ b9).trans rfl; have d16 : W10.cell? ⟨B9, 16, none⟩ = some (.int .i64 m.2.2.an.done) := (@block_cells _ _ 16 _ _ b9).trans rfl; have d17 : W10.cell? ⟨B9, 17, none⟩ = some (.slice m.2.2.an.D m.2.2.an.n m.2.2.an.q) := (@block_cells _ _ 17 _ _ b9).trans rfl; rw [HA.out] at c1; rw [HN0.out] at d1; have k1 : W10.cell? ⟨B, 2, none⟩ = some (.slice A0 0 c0) := (@block_cells _ _ 2 _ _ (HBK.out.gr (G7.out.trans g10))).trans rfl; haveI := (HBK.out.gr (G7.out.trans g10)).old; rw [HD.out] at d12; have HB9 := Lib.hid b9; have HR10 := Lib.hid (fun W' (g1 : Gr W10 W') => show ∀ (i : Nat) u, ([.int .u64 m.2.2.num, .int .i64 m.2.2.node, .int .i64 m.2.2.o.o.k, .int .u64 m.2.2.o.o.v, .int .u64 m.2.2.o.o.t, .int .i64 m.2.2.o.o.s, .int .i64 m.2.2.o.o.a, .int .i64 m.2.2.o.o.c, .slice m.2.2.o.D m.2.2.o.n m.2.2.o.q, .int .i64 m.2.2.at_, .int .i64 m.2.2.fr, .int .i64 m.2.2.tt, .bool m.2.2.dn, .int .i64 m.2.2.gone, .int .i64 m.2.2.seq, .int .i64 m.2.2.an.code, .int .i64 m.2.2.an.done, .slice m.2.2.an.D m.2.2.an.n m.2.2.an.q] )[i]? = some u → W'.cell? ((⟨B9, 0, none⟩ : Addr).add i) = some u from fun i u hu => by rw [Go.WideShapes.add_plain, Nat.zero_add]; exact (@block_cells _ _ i _ _ (HB9.out.gr g1)).trans (by simpa [callL] using hu)); haveI := b9.old; haveI := (HB8.out.gr g10).old; have G10 := Lib.hid (G7.out.trans g10); haveI := grc_of (G7.out.trans g10); haveI := from_of (G7.out.trans g10); clear hB9 g10 b9)
    | (refine wpLoadCs rfl _ _ rfl ⟨B9, 0, none⟩ ([.int .u64 m.2.2.num, .int .i64 m.2.2.node, .int .i64 m.2.2.o.o.k, .int .u64 m.2.2.o.o.v, .int .u64 m.2.2.o.o.t, .int .i64 m.2.2.o.o.s, .int .i64 m.2.2.o.o.a, .int .i64 m.2.2.o.o.c, .slice m.2.2.o.D m.2.2.o.n m.2.2.o.q, .int .i64 m.2.2.at_, .int .i64 m.2.2.fr, .int .i64 m.2.2.tt, .bool m.2.2.dn, .int .i64 m.2.2.gone, .int .i64 m.2.2.seq, .int .i64 m.2.2.an.code, .int .i64 m.2.2.an.done, .slice m.2.2.an.D m.2.2.an.n m.2.2.an.q] ) _ rfl Tryz.underlying51 rfl (by kernel_rfl) (HR10.out _ gri) ?_))
        refine wp_region_treeT (inCls_ghost _) (Cls.none _) ⟨Gr.of ((Below.refl _ _).drew), trivial⟩ [0, 1, 2, 3, 4, 5, 6, 7, 8, 9, 10, 11, 14, 15] 3 17 (by kernel_rfl) (by kernel_rfl) ?_
        simp only [pick, List.drop, List.take, List.nil_append, List.cons_append]
        repeat (refine wpCalm_step (fun K hK => ?_); go_simp; first | (refine hK _ ?_; clear hK K) | (apply Exists.intro; refine ⟨fun _ => ?_, hK _ ?_⟩; ((go_at_call 32; exact clip0 _ _ _)); clear hK K))
        refine wpCalm_load rfl rfl rfl (HB9.out.gr gri) Tryz.underlying51 rfl (by kernel_rfl) ?_
        repeat (refine wpCalm_step (fun K hK => ?_); go_simp; first | (refine hK _ ?_; clear hK K) | (apply Exists.intro; refine ⟨fun _ => ?_, hK _ ?_⟩; (skip); clear hK K))
        refine wpCalm_nil ?_
        refine ft_one 12 (by kernel_rfl) (by omega) ?_
        refine fe_effD rfl rfl rfl fun w4 hw4 => effAt_ok (.slice (some ⟨w4.heap.size, 0, none⟩) 1 1) (w' := w4.alloc (.cells (callL m.2.2).toArray 51)) (by go_simp) ?_
        obtain ⟨B2, hB2⟩ : ∃ B2, B2 = w4.heap.size := ⟨_, rfl⟩
        have hbB : BlockAt (w4.alloc (.cells (callL m.2.2).toArray 51)) B2 (callL m.2.2).toArray 51 := by rw [hB2]; infer_instance
        rw [← hB2]
        refine ⟨⟨fun w' => BlockAt w' B2 (callL m.2.2).toArray 51, fun a b h g => h.gr g⟩, ⟨hw4.1.trans gri, hbB⟩, ?_⟩
        clear hw4 hB2 hbB w4
        try simp only [Act.put, List.setIfInBounds_toArray, List.set]
        refine ft_one 13 (by kernel_rfl) (by omega) ?_
        refine fe_effD rfl rfl rfl fun w4 hw4 => effAt_append_e0 _ _ rfl A0 B2 0 1 m.2.2 rfl rfl (cellsN_call hw4.2) hw4.1.below.size ?_
        intro va Wa ha
        refine ⟨⟨fun w' => QAt w' va (some m.2.2), fun a b h g => h.gr g⟩, ⟨hw4.1.trans_below ha.below, qat_app ha⟩, ?_⟩
        clear ha hw4 Wa w4
        try simp only [Act.put, List.setIfInBounds_toArray, List.set]
        refine ft_one 16 (by kernel_rfl) (by omega) ?_
        refine fe_effD rfl rfl rfl fun w4 hw4 => effAt_ok (.pointer (some ⟨B, 2, none⟩)) (w' := w4) (by go_simp) ⟨_, hw4, ?_⟩
        clear hw4 w4
        try simp only [Act.put, List.setIfInBounds_toArray, List.set]
        refine ft_end ⟨by kernel_rfl, fun w9 hw9 => ?_⟩
        try simp only [List.drop_succ_cons, List.drop_zero]
        have hbk := (HB4.out.grow (G10.out.trans (Gr.trans gri hw9.1))).set1 hw9.2 (fun x hx => by simp only [Option.mem_toList, Option.some.injEq] at hx; subst hx; exact HCO.out)
        obtain ⟨A9, n9, c9, hv9, hq9⟩ := hw9.2
        subst hv9
        obtain ⟨W12, hW12⟩ : ∃ W12, W12 = w9.setCell ⟨B, 2, none⟩ (.slice A9 n9 c9) := ⟨_, rfl⟩
        have hrun9 := run_storeBc 2 n9 c9 A9 (HB4.out.grow (G10.out.trans (Gr.trans gri hw9.1))).blk rfl
        rw [← hW12] at hbk hrun9
        have HWS12 := Lib.hid (show WS W B { s with q1 := some (cp m.2.2) } W12 from ⟨ws, q0, some m.2.2, gn, wv, v0, .slice A9 n9 c9, gv, hbk, HE.out.1, HE.out.2.1, rfl, HE.out.2.2.1, HE.out.2.2.2.1, HE.out.2.2.2.2.1, HE.out.2.2.2.2.2⟩)
        have hgx12 : W12.heap[g]? = W1.heap[g]? := by rw [hW12]; exact (Below.heap_setCell w9 ⟨B, 2, none⟩ _ g HNB.out).trans (HGX.out _ (G10.out.trans (Gr.trans gri hw9.1)))
        have hsz12 : W1.heap.size ≤ W12.heap.size := by rw [hW12]; simp only [World.size_setCell]; exact Nat.le_trans HSZ.out (G10.out.trans (Gr.trans gri hw9.1)).below.size
        have HGX12 := Lib.hid hgx12
        have HSZ12 := Lib.hid hsz12
        clear hbk hgx12 hsz12 hW12 hw9 hq9
        refine wpStoreG rfl _ _ rfl ⟨B, 2, none⟩ _ rfl rfl W12 hrun9 ?_
        clear hrun9 w9
        go_wp2
        go_roundw
        case rel => exact ⟨k + 1, _, HLT.out, by go_num, HR2.out, HWS12.out, HGX12.out, HSZ12.out⟩
        case measure => have := HLT.out; simp [intOf]; omega
     | true =>
      have HD := Lib.hid hd
      clear h1 hq ha hn hd hb e1 e2 e3 e4 e5 e6 e7 hbl h01 h02
      go_wp2_with (first
    | (refine wpLoadCs rfl _ _ rfl ⟨g, k * 20, none⟩ ([.int .i64 m.1, .bool m.2.1, .int .u64 m.2.2.num, .int .i64 m.2.2.node, .int .i64 m.2.2.o.o.k, .int .u64 m.2.2.o.o.v, .int .u64 m.2.2.o.o.t, .int .i64 m.2.2.o.o.s, .int .i64 m.2.2.o.o.a, .int .i64 m.2.2.o.o.c, .slice m.2.2.o.D m.2.2.o.n m.2.2.o.q, .int .i64 m.2.2.at_, .int .i64 m.2.2.fr, .int .i64 m.2.2.tt, .bool m.2.2.dn, .int .i64 m.2.2.gone, .int .i64 m.2.2.seq, .int .i64 m.2.2.an.code, .int .i64 m.2.2.an.done, .slice m.2.2.an.D m.2.2.an.n m.2.2.an.q] ) _ rfl Tryz.underlying85 rfl (by kernel_rfl) (HRW.out _ gri) ?_)
    | (refine wpList_storeMom (W0 := W4) rfl _ _ rfl W4.heap.size m _ rfl rfl inferInstance rfl gri (Nat.le_refl _) ?_; obtain ⟨B8, hB8⟩ : ∃ B8, B8 = W4.heap.size := ⟨_, rfl⟩; rw [← hB8]; intro W7 g7 b8; have G7 := Lib.hid g7; have HB8 := Lib.hid b8; have HR7 := Lib.hid (fun W' (g1 : Gr W7 W') => HROW8.out W' B8 (b8.gr g1)); haveI := b8.old; haveI := grc_of g7; haveI := from_of g7; clear hB8 g7 b8)
    | (refine wpLoadCs rfl _ _ rfl ⟨B8, 2, none⟩ ([.int .u64 m.2.2.num, .int .i64 m.2.2.node, .int .i64 m.2.2.o.o.k, .int .u64 m.2.2.o.o.v, .int .u64 m.2.2.o.o.t, .int .i64 m.2.2.o.o.s, .int .i64 m.2.2.o.o.a, .int .i64 m.2.2.o.o.c, .slice m.2.2.o.D m.2.2.o.n m.2.2.o.q, .int .i64 m.2.2.at_, .int .i64 m.2.2.fr, .int .i64 m.2.2.tt, .bool m.2.2.dn, .int .i64 m.2.2.gone, .int .i64 m.2.2.seq, .int .i64 m.2.2.an.code, .int .i64 m.2.2.an.done, .slice m.2.2.an.D m.2.2.an.n m.2.2.an.q] ) _ rfl Tryz.underlying51 rfl (by kernel_rfl) (HR7.out _ gri) ?_)
    | (refine wp_storeCall (W0 := W7) rfl _ _ rfl W7.heap.size m.2.2 _ rfl rfl inferInstance rfl gri (Nat.le_refl _) ?_; obtain ⟨B9, hB9⟩ : ∃ B9, B9 = W7.heap.size := ⟨_, rfl⟩; rw [← hB9]; intro W10 g10 b9; have c1 : W10.cell? ⟨B8, 1, none⟩ = some (.bool m.2.1) := (@block_cells _ _ 1 _ _ (HB8.out.gr g10)).trans rfl; have d12 : W10.cell? ⟨B9, 12, none⟩ = some (.bool m.2.2.dn) := (@block_cells _ _ 12 _ _ b9).trans rfl; have d1 : W10.cell? ⟨B9, 1, none⟩ = some (.int .i64 m.2.2.node) := (@block_cells _ _ 1 _ _ b9).trans rfl; have d15 : W10.cell? ⟨B9, 15, none⟩ = some (.int .i64 m.2.2.an.code) := (@block_cells _ _ 15 _ _ b9).trans rfl; have d16 : W10.cell? ⟨B9, 16, none⟩ = some (.int .i64 m.2.2.an.done) := (@block_cells _ _ 16 _ _ b9).trans rfl; have d17 : W10.cell? ⟨B9, 17, none⟩ = some (.slice m.2.2.an.D m.2.2.an.n m.2.2.an.q) := (@block_cells _ _ 17 _ _ b9).trans rfl; rw [HA.out] at c1; rw [HN0.out] at d1; have k1 : W10.cell? ⟨B, 2, none⟩ = some (.slice A0 0 c0) := (@block_cells _ _ 2 _ _ (HBK.out.gr (G7.out.trans g10))).trans rfl; haveI := (HBK.out.gr (G7.out.trans g10)).old; rw [HD.out] at d12; have HB9 := Lib.hid b9; have HR10 := Lib.hid (fun W' (g1 : Gr W10 W') => show ∀ (i : Nat) u, ([.int .u64 m.2.2.num, .int .i64 m.2.2.node, .int .i64 m.2.2.o.o.k, .int .u64 m.2.2.o.o.v, .int .u64 m.2.2.o.o.t, .int .i64 m.2.2.o.o.s, .int .i64 m.2.2.o.o.a, .int .i64 m.2.2.o.o.c, .slice m.2.2.o.D m.2.2.o.n m.2.2.o.q, .int .i64 m.2.2.at_, .int .i64 m.2.2.fr, .int .i64 m.2.2.tt, .bool m.2.2.dn, .int .i64 m.2.2.gone, .int .i64 m.2.2.seq, .int .i64 m.2.2.an.code, .int .i64 m.2.2.an.done, .slice m.2.2.an.D m.2.2.an.n m.2.2.an.q] )[i]? = some u → W'.cell? ((⟨B9, 0, none⟩ : Addr).add i) = some u from fun i u hu => by rw [Go.WideShapes.add_plain, Nat.zero_add]; exact (@block_cells _ _ i _ _ (HB9.out.gr g1)).trans (by simpa [callL] using hu)); haveI := b9.old; haveI := (HB8.out.gr g10).old; have G10 := Lib.hid (G7.out.trans g10); haveI := grc_of (G7.out.trans g10); haveI := from_of (G7.out.trans g10); clear hB9 g10 b9)
    | (refine wpLoadCs rfl _ _ rfl ⟨B9, 0, none⟩ ([.int .u64 m.2.2.num, .int .i64 m.2.2.node, .int .i64 m.2.2.o.o.k, .int .u64 m.2.2.o.o.v, .int .u64 m.2.2.o.o.t, .int .i64 m.2.2.o.o.s, .int .i64 m.2.2.o.o.a, .int .i64 m.2.2.o.o.c, .slice m.2.2.o.D m.2.2.o.n m.2.2.o.q, .int .i64 m.2.2.at_, .int .i64 m.2.2.fr, .int .i64 m.2.2.tt, .bool m.2.2.dn, .int .i64 m.2.2.gone, .int .i64 m.2.2.seq, .int .i64 m.2.2.an.code, .int .i64 m.2.2.an.done, .slice m.2.2.an.D m.2.2.an.n m.2.2.an.q] ) _ rfl Tryz.underlying51 rfl (by kernel_rfl) (HR10.out _ gri) ?_)
    | (go_at_call 31; ((with_reducible refine (HNV.out _ HD.out).mono ?_); rintro _ _ ⟨rfl, ⟨g11, rfl⟩⟩)))
        refine wp_region_treeT (inCls_ghost _) (Cls.none _) ⟨Gr.of ((Below.refl _ _).drew), trivial⟩ [0, 1, 2, 3, 4, 5, 6, 7, 8, 9, 10, 11, 14, 15] 3 17 (by kernel_rfl) (by kernel_rfl) ?_
        simp only [pick, List.drop, List.take, List.nil_append, List.cons_append]
        repeat (refine wpCalm_step (fun K hK => ?_); go_simp; first | (refine hK _ ?_; clear hK K) | (apply Exists.intro; refine ⟨fun _ => ?_, hK _ ?_⟩; ((go_at_call 32; exact clip0 _ _ _)); clear hK K))
        refine wpCalm_load rfl rfl rfl (HB9.out.gr gri) Tryz.underlying51 rfl (by kernel_rfl) ?_
        repeat (refine wpCalm_step (fun K hK => ?_); go_simp; first | (refine hK _ ?_; clear hK K) | (apply Exists.intro; refine ⟨fun _ => ?_, hK _ ?_⟩; (skip); clear hK K))
        refine wpCalm_nil ?_
        refine ft_one 12 (by kernel_rfl) (by omega) ?_
        refine fe_effD rfl rfl rfl fun w4 hw4 => effAt_ok (.slice (some ⟨w4.heap.size, 0, none⟩) 1 1) (w' := w4.alloc (.cells (callL m.2.2).toArray 51)) (by go_simp) ?_
        obtain ⟨B2, hB2⟩ : ∃ B2, B2 = w4.heap.size := ⟨_, rfl⟩
        have hbB : BlockAt (w4.alloc (.cells (callL m.2.2).toArray 51)) B2 (callL m.2.2).toArray 51 := by rw [hB2]; infer_instance
        rw [← hB2]
        refine ⟨⟨fun w' => BlockAt w' B2 (callL m.2.2).toArray 51, fun a b h g => h.gr g⟩, ⟨hw4.1.trans gri, hbB⟩, ?_⟩
        clear hw4 hB2 hbB w4
        try simp only [Act.put, List.setIfInBounds_toArray, List.set]
        refine ft_one 13 (by kernel_rfl) (by omega) ?_
        refine fe_effD rfl rfl rfl fun w4 hw4 => effAt_append_e0 _ _ rfl A0 B2 0 1 m.2.2 rfl rfl (cellsN_call hw4.2) hw4.1.below.size ?_
        intro va Wa ha
        refine ⟨⟨fun w' => QAt w' va (some m.2.2), fun a b h g => h.gr g⟩, ⟨hw4.1.trans_below ha.below, qat_app ha⟩, ?_⟩
        clear ha hw4 Wa w4
        try simp only [Act.put, List.setIfInBounds_toArray, List.set]
        refine ft_one 16 (by kernel_rfl) (by omega) ?_
        refine fe_effD rfl rfl rfl fun w4 hw4 => effAt_ok (.pointer (some ⟨B, 2, none⟩)) (w' := w4) (by go_simp) ⟨_, hw4, ?_⟩
        clear hw4 w4
        try simp only [Act.put, List.setIfInBounds_toArray, List.set]
        refine ft_end ⟨by kernel_rfl, fun w9 hw9 => ?_⟩
        try simp only [List.drop_succ_cons, List.drop_zero]
        have hbk := (HB4.out.grow (G10.out.trans (Gr.trans gri hw9.1))).set1 hw9.2 (fun x hx => by simp only [Option.mem_toList, Option.some.injEq] at hx; subst hx; exact HCO.out)
        obtain ⟨A9, n9, c9, hv9, hq9⟩ := hw9.2
        subst hv9
        obtain ⟨W12, hW12⟩ : ∃ W12, W12 = w9.setCell ⟨B, 2, none⟩ (.slice A9 n9 c9) := ⟨_, rfl⟩
        have hrun9 := run_storeBc 2 n9 c9 A9 (HB4.out.grow (G10.out.trans (Gr.trans gri hw9.1))).blk rfl
        rw [← hW12] at hbk hrun9
        have HWS12 := Lib.hid (show WS W B { s with q1 := some (cp m.2.2) } W12 from ⟨ws, q0, some m.2.2, gn, wv, v0, .slice A9 n9 c9, gv, hbk, HE.out.1, HE.out.2.1, rfl, HE.out.2.2.1, HE.out.2.2.2.1, HE.out.2.2.2.2.1, HE.out.2.2.2.2.2⟩)
        have hgx12 : W12.heap[g]? = W1.heap[g]? := by rw [hW12]; exact (Below.heap_setCell w9 ⟨B, 2, none⟩ _ g HNB.out).trans (HGX.out _ (G10.out.trans (Gr.trans gri hw9.1)))
        have hsz12 : W1.heap.size ≤ W12.heap.size := by rw [hW12]; simp only [World.size_setCell]; exact Nat.le_trans HSZ.out (G10.out.trans (Gr.trans gri hw9.1)).below.size
        have HGX12 := Lib.hid hgx12
        have HSZ12 := Lib.hid hsz12
        clear hbk hgx12 hsz12 hW12 hw9 hq9
        refine wpStoreG rfl _ _ rfl ⟨B, 2, none⟩ _ rfl rfl W12 hrun9 ?_
        clear hrun9 w9
        go_wp2
        go_roundw
        case rel => exact ⟨k + 1, _, HLT.out, by go_num, HR2.out, HWS12.out, HGX12.out, HSZ12.out⟩
        case measure => have := HLT.out; simp [intOf]; omega
    | ans ha hd hn x st hq hx hc hl =>
     have hn1 : m.2.2.node = 1 := by have h1 := HMK.out.n0; have h2 := HMK.out.n1; omega
     have hcl : (callL m.2.2).toArray = #[.int .u64 m.2.2.num, .int .i64 m.2.2.node, .int .i64 m.2.2.o.o.k, .int .u64 m.2.2.o.o.v, .int .u64 m.2.2.o.o.t, .int .i64 m.2.2.o.o.s, .int .i64 m.2.2.o.o.a, .int .i64 m.2.2.o.o.c, .slice m.2.2.o.D m.2.2.o.n m.2.2.o.q, .int .i64 m.2.2.at_, .int .i64 m.2.2.fr, .int .i64 m.2.2.tt, .bool m.2.2.dn, .int .i64 m.2.2.gone, .int .i64 m.2.2.seq, .int .i64 m.2.2.an.code, .int .i64 m.2.2.an.done, .slice m.2.2.an.D m.2.2.an.n m.2.2.an.q]  := by simp [callL]
     have han : ∀ W', Gr W4 W' → Calls Tryz.prog 34 #[ptrB B, .agg #[.int .u64 m.2.2.num, .int .i64 m.2.2.node, .int .i64 m.2.2.o.o.k, .int .u64 m.2.2.o.o.v, .int .u64 m.2.2.o.o.t, .int .i64 m.2.2.o.o.s, .int .i64 m.2.2.o.o.a, .int .i64 m.2.2.o.o.c, .slice m.2.2.o.D m.2.2.o.n m.2.2.o.q, .int .i64 m.2.2.at_, .int .i64 m.2.2.fr, .int .i64 m.2.2.tt, .bool m.2.2.dn, .int .i64 m.2.2.gone, .int .i64 m.2.2.seq, .int .i64 m.2.2.an.code, .int .i64 m.2.2.an.done, .slice m.2.2.an.D m.2.2.an.n m.2.2.an.q] ] W' (fun e w' => e = .returned (.int .i64 (if (st.2.filterMap (phiM m.2.2.num m.2.2.an.m)).length = 0 then 9 else 0)) ∧ CKB B W' w' ∧ WS W B { s with ws := st.2.filterMap (phiM m.2.2.num m.2.2.an.m), q1 := none } w') := fun W' g1 => by
      rw [← hcl]
      exact answered_ws (HWS4.out.grow g1) m.2.2 hn1 x st hq hx hc HCO.out
     have HAN := Lib.hid han
     clear hcl
     clear han hn1
     have HNV := Lib.hid (fun W' => never_any m.2.2.an.code m.2.2.an.done m.2.2.an.D m.2.2.an.n m.2.2.an.q W' (by have := (step_inv h1).1; rw [hd] at this; simpa using this))
     have HA := Lib.hid ha
     have HD := Lib.hid hd
     clear h1 hq hx hc ha hd hn
     have HLz := Lib.hid hl
     clear hl
     go_wp2_with (first
    | (refine wpLoadCs rfl _ _ rfl ⟨g, k * 20, none⟩ ([.int .i64 m.1, .bool m.2.1, .int .u64 m.2.2.num, .int .i64 m.2.2.node, .int .i64 m.2.2.o.o.k, .int .u64 m.2.2.o.o.v, .int .u64 m.2.2.o.o.t, .int .i64 m.2.2.o.o.s, .int .i64 m.2.2.o.o.a, .int .i64 m.2.2.o.o.c, .slice m.2.2.o.D m.2.2.o.n m.2.2.o.q, .int .i64 m.2.2.at_, .int .i64 m.2.2.fr, .int .i64 m.2.2.tt, .bool m.2.2.dn, .int .i64 m.2.2.gone, .int .i64 m.2.2.seq, .int .i64 m.2.2.an.code, .int .i64 m.2.2.an.done, .slice m.2.2.an.D m.2.2.an.n m.2.2.an.q] ) _ rfl Tryz.underlying85 rfl (by kernel_rfl) (HRW.out _ gri) ?_)
    | (refine wpList_storeMom (W0 := W4) rfl _ _ rfl W4.heap.size m _ rfl rfl inferInstance rfl gri (Nat.le_refl _) ?_; obtain ⟨B8, hB8⟩ : ∃ B8, B8 = W4.heap.size := ⟨_, rfl⟩; rw [← hB8]; intro W7 g7 b8; have G7 := Lib.hid g7; have HB8 := Lib.hid b8; have HR7 := Lib.hid (fun W' (g1 : Gr W7 W') => HROW8.out W' B8 (b8.gr g1)); haveI := b8.old; haveI := grc_of g7; haveI := from_of g7; clear hB8 g7 b8)
    | (refine wpLoadCs rfl _ _ rfl ⟨B8, 2, none⟩ ([.int .u64 m.2.2.num, .int .i64 m.2.2.node, .int .i64 m.2.2.o.o.k, .int .u64 m.2.2.o.o.v, .int .u64 m.2.2.o.o.t, .int .i64 m.2.2.o.o.s, .int .i64 m.2.2.o.o.a, .int .i64 m.2.2.o.o.c, .slice m.2.2.o.D m.2.2.o.n m.2.2.o.q, .int .i64 m.2.2.at_, .int .i64 m.2.2.fr, .int .i64 m.2.2.tt, .bool m.2.2.dn, .int .i64 m.2.2.gone, .int .i64 m.2.2.seq, .int .i64 m.2.2.an.code, .int .i64 m.2.2.an.done, .slice m.2.2.an.D m.2.2.an.n m.2.2.an.q] ) _ rfl Tryz.underlying51 rfl (by kernel_rfl) (HR7.out _ gri) ?_)
    | (refine wp_storeCall (W0 := W7) rfl _ _ rfl W7.heap.size m.2.2 _ rfl rfl inferInstance rfl gri (Nat.le_refl _) ?_; obtain ⟨B9, hB9⟩ : ∃ B9, B9 = W7.heap.size := ⟨_, rfl⟩; rw [← hB9]; intro W10 g10 b9; have c1 : W10.cell? ⟨B8, 1, none⟩ = some (.bool m.2.1) := (@block_cells _ _ 1 _ _ (HB8.out.gr g10)).trans rfl; have d12 : W10.cell? ⟨B9, 12, none⟩ = some (.bool m.2.2.dn) := (@block_cells _ _ 12 _ _ b9).trans rfl; have d1 : W10.cell? ⟨B9, 1, none⟩ = some (.int .i64 m.2.2.node) := (@block_cells _ _ 1 _ _ b9).trans rfl; have d15 : W10.cell? ⟨B9, 15, none⟩ = some (.int .i64 m.2.2.an.code) := (@block_cells _ _ 15 _ _ b9).trans rfl; have d16 : W10.cell? ⟨B9, 16, none⟩ = some (.int .i64 m.2.2.an.done) := (@block_cells _ _ 16 _ _ b9).trans rfl; have d17 : W10.cell? ⟨B9, 17, none⟩ = some (.slice m.2.2.an.D m.2.2.an.n m.2.2.an.q) := (@block_cells _ _ 17 _ _ b9).trans rfl; rw [HA.out] at c1; rw [HD.out] at d12; have HB9 := Lib.hid b9; have HR10 := Lib.hid (fun W' (g1 : Gr W10 W') => show ∀ (i : Nat) u, ([.int .u64 m.2.2.num, .int .i64 m.2.2.node, .int .i64 m.2.2.o.o.k, .int .u64 m.2.2.o.o.v, .int .u64 m.2.2.o.o.t, .int .i64 m.2.2.o.o.s, .int .i64 m.2.2.o.o.a, .int .i64 m.2.2.o.o.c, .slice m.2.2.o.D m.2.2.o.n m.2.2.o.q, .int .i64 m.2.2.at_, .int .i64 m.2.2.fr, .int .i64 m.2.2.tt, .bool m.2.2.dn, .int .i64 m.2.2.gone, .int .i64 m.2.2.seq, .int .i64 m.2.2.an.code, .int .i64 m.2.2.an.done, .slice m.2.2.an.D m.2.2.an.n m.2.2.an.q] )[i]? = some u → W'.cell? ((⟨B9, 0, none⟩ : Addr).add i) = some u from fun i u hu => by rw [Go.WideShapes.add_plain, Nat.zero_add]; exact (@block_cells _ _ i _ _ (HB9.out.gr g1)).trans (by simpa [callL] using hu)); haveI := b9.old; haveI := (HB8.out.gr g10).old; have G10 := Lib.hid (G7.out.trans g10); haveI := grc_of (G7.out.trans g10); haveI := from_of (G7.out.trans g10); clear hB9 g10 b9)
    | (refine wpLoadCs rfl _ _ rfl ⟨B9, 0, none⟩ ([.int .u64 m.2.2.num, .int .i64 m.2.2.node, .int .i64 m.2.2.o.o.k, .int .u64 m.2.2.o.o.v, .int .u64 m.2.2.o.o.t, .int .i64 m.2.2.o.o.s, .int .i64 m.2.2.o.o.a, .int .i64 m.2.2.o.o.c, .slice m.2.2.o.D m.2.2.o.n m.2.2.o.q, .int .i64 m.2.2.at_, .int .i64 m.2.2.fr, .int .i64 m.2.2.tt, .bool m.2.2.dn, .int .i64 m.2.2.gone, .int .i64 m.2.2.seq, .int .i64 m.2.2.an.code, .int .i64 m.2.2.an.done, .slice m.2.2.an.D m.2.2.an.n m.2.2.an.q] ) _ rfl Tryz.underlying51 rfl (by kernel_rfl) (HR10.out _ gri) ?_)
    | (go_at_call 31; ((with_reducible refine (HNV.out _).mono ?_); rintro _ _ ⟨rfl, ⟨g11, rfl⟩⟩))
    | (go_at_call 34; ((with_reducible refine (HAN.out _ gri).mono ?_); rintro _ W12 ⟨rfl, hk12, hws12⟩; rw [if_neg HLz.out]; have hgx12 : W12.heap[g]? = W1.heap[g]? := (by obtain ⟨cs, hcs⟩ := HGB.out; exact (hk12.2 g cs _ _ HNB.out ((HGX.out _ gri).trans hcs)).trans (HGX.out _ gri)); have hsz12 : W1.heap.size ≤ W12.heap.size := Nat.le_trans HSZ.out (Nat.le_trans (gri : Gr W4 _).below.size hk12.1); have HGX12 := Lib.hid hgx12; have HSZ12 := Lib.hid hsz12; have HWS12 := Lib.hid hws12; clear hgx12 hsz12 hws12 hk12)))
     go_roundw
     case rel => exact ⟨k + 1, _, HLT.out, by go_num, HR2.out, HWS12.out, HGX12.out, HSZ12.out⟩
     case measure => have := HLT.out; simp [intOf]; omega
    | left ha hd hn x hq hx hg =>
     have hcl : (callL m.2.2).toArray = #[.int .u64 m.2.2.num, .int .i64 m.2.2.node, .int .i64 m.2.2.o.o.k, .int .u64 m.2.2.o.o.v, .int .u64 m.2.2.o.o.t, .int .i64 m.2.2.o.o.s, .int .i64 m.2.2.o.o.a, .int .i64 m.2.2.o.o.c, .slice m.2.2.o.D m.2.2.o.n m.2.2.o.q, .int .i64 m.2.2.at_, .int .i64 m.2.2.fr, .int .i64 m.2.2.tt, .bool m.2.2.dn, .int .i64 m.2.2.gone, .int .i64 m.2.2.seq, .int .i64 m.2.2.an.code, .int .i64 m.2.2.an.done, .slice m.2.2.an.D m.2.2.an.n m.2.2.an.q]  := by simp [callL]
     have hlf : ∀ W', Gr W4 W' → Calls Tryz.prog 33 #[ptrB B, .agg #[.int .u64 m.2.2.num, .int .i64 m.2.2.node, .int .i64 m.2.2.o.o.k, .int .u64 m.2.2.o.o.v, .int .u64 m.2.2.o.o.t, .int .i64 m.2.2.o.o.s, .int .i64 m.2.2.o.o.a, .int .i64 m.2.2.o.o.c, .slice m.2.2.o.D m.2.2.o.n m.2.2.o.q, .int .i64 m.2.2.at_, .int .i64 m.2.2.fr, .int .i64 m.2.2.tt, .bool m.2.2.dn, .int .i64 m.2.2.gone, .int .i64 m.2.2.seq, .int .i64 m.2.2.an.code, .int .i64 m.2.2.an.done, .slice m.2.2.an.D m.2.2.an.n m.2.2.an.q] ] W' (fun e w' => e = .returned (.tuple #[]) ∧ CKB B W' w' ∧ WS W B { s with q0 := none, gn := [cp m.2.2] } w') := fun W' g1 => by
      rw [← hcl]
      exact left_ws (HWS4.out.grow g1) m.2.2 hn x hq hx hg HCO.out
     have HLF := Lib.hid hlf
     clear hcl
     have HA := Lib.hid ha
     have HD := Lib.hid hd
     clear hlf h1 hq hx hg ha hd hn
     go_wp2_with (first
    | (refine wpLoadCs rfl _ _ rfl ⟨g, k * 20, none⟩ ([.int .i64 m.1, .bool m.2.1, .int .u64 m.2.2.num, .int .i64 m.2.2.node, .int .i64 m.2.2.o.o.k, .int .u64 m.2.2.o.o.v, .int .u64 m.2.2.o.o.t, .int .i64 m.2.2.o.o.s, .int .i64 m.2.2.o.o.a, .int .i64 m.2.2.o.o.c, .slice m.2.2.o.D m.2.2.o.n m.2.2.o.q, .int .i64 m.2.2.at_, .int .i64 m.2.2.fr, .int .i64 m.2.2.tt, .bool m.2.2.dn, .int .i64 m.2.2.gone, .int .i64 m.2.2.seq, .int .i64 m.2.2.an.code, .int .i64 m.2.2.an.done, .slice m.2.2.an.D m.2.2.an.n m.2.2.an.q] ) _ rfl Tryz.underlying85 rfl (by kernel_rfl) (HRW.out _ gri) ?_)
    | (refine wpList_storeMom (W0 := W4) rfl _ _ rfl W4.heap.size m _ rfl rfl inferInstance rfl gri (Nat.le_refl _) ?_; obtain ⟨B8, hB8⟩ : ∃ B8, B8 = W4.heap.size := ⟨_, rfl⟩; rw [← hB8]; intro W7 g7 b8; have G7 := Lib.hid g7; have HB8 := Lib.hid b8; have HR7 := Lib.hid (fun W' (g1 : Gr W7 W') => HROW8.out W' B8 (b8.gr g1)); haveI := b8.old; haveI := grc_of g7; haveI := from_of g7; clear hB8 g7 b8)
    | (refine wpLoadCs rfl _ _ rfl ⟨B8, 2, none⟩ ([.int .u64 m.2.2.num, .int .i64 m.2.2.node, .int .i64 m.2.2.o.o.k, .int .u64 m.2.2.o.o.v, .int .u64 m.2.2.o.o.t, .int .i64 m.2.2.o.o.s, .int .i64 m.2.2.o.o.a, .int .i64 m.2.2.o.o.c, .slice m.2.2.o.D m.2.2.o.n m.2.2.o.q, .int .i64 m.2.2.at_, .int .i64 m.2.2.fr, .int .i64 m.2.2.tt, .bool m.2.2.dn, .int .i64 m.2.2.gone, .int .i64 m.2.2.seq, .int .i64 m.2.2.an.code, .int .i64 m.2.2.an.done, .slice m.2.2.an.D m.2.2.an.n m.2.2.an.q] ) _ rfl Tryz.underlying51 rfl (by kernel_rfl) (HR7.out _ gri) ?_)
    | (refine wp_storeCall (W0 := W7) rfl _ _ rfl W7.heap.size m.2.2 _ rfl rfl inferInstance rfl gri (Nat.le_refl _) ?_; obtain ⟨B9, hB9⟩ : ∃ B9, B9 = W7.heap.size := ⟨_, rfl⟩; rw [← hB9]; intro W10 g10 b9; have c1 : W10.cell? ⟨B8, 1, none⟩ = some (.bool m.2.1) := (@block_cells _ _ 1 _ _ (HB8.out.gr g10)).trans rfl; have d12 : W10.cell? ⟨B9, 12, none⟩ = some (.bool m.2.2.dn) := (@block_cells _ _ 12 _ _ b9).trans rfl; have d1 : W10.cell? ⟨B9, 1, none⟩ = some (.int .i64 m.2.2.node) := (@block_cells _ _ 1 _ _ b9).trans rfl; have d15 : W10.cell? ⟨B9, 15, none⟩ = some (.int .i64 m.2.2.an.code) := (@block_cells _ _ 15 _ _ b9).trans rfl; have d16 : W10.cell? ⟨B9, 16, none⟩ = some (.int .i64 m.2.2.an.done) := (@block_cells _ _ 16 _ _ b9).trans rfl; have d17 : W10.cell? ⟨B9, 17, none⟩ = some (.slice m.2.2.an.D m.2.2.an.n m.2.2.an.q) := (@block_cells _ _ 17 _ _ b9).trans rfl; rw [HA.out] at c1; rw [HD.out] at d12; have HB9 := Lib.hid b9; have HR10 := Lib.hid (fun W' (g1 : Gr W10 W') => show ∀ (i : Nat) u, ([.int .u64 m.2.2.num, .int .i64 m.2.2.node, .int .i64 m.2.2.o.o.k, .int .u64 m.2.2.o.o.v, .int .u64 m.2.2.o.o.t, .int .i64 m.2.2.o.o.s, .int .i64 m.2.2.o.o.a, .int .i64 m.2.2.o.o.c, .slice m.2.2.o.D m.2.2.o.n m.2.2.o.q, .int .i64 m.2.2.at_, .int .i64 m.2.2.fr, .int .i64 m.2.2.tt, .bool m.2.2.dn, .int .i64 m.2.2.gone, .int .i64 m.2.2.seq, .int .i64 m.2.2.an.code, .int .i64 m.2.2.an.done, .slice m.2.2.an.D m.2.2.an.n m.2.2.an.q] )[i]? = some u → W'.cell? ((⟨B9, 0, none⟩ : Addr).add i) = some u from fun i u hu => by rw [Go.WideShapes.add_plain, Nat.zero_add]; exact (@block_cells _ _ i _ _ (HB9.out.gr g1)).trans (by simpa [callL] using hu)); haveI := b9.old; haveI := (HB8.out.gr g10).old; have G10 := Lib.hid (G7.out.trans g10); haveI := grc_of (G7.out.trans g10); haveI := from_of (G7.out.trans g10); clear hB9 g10 b9)
    | (refine wpLoadCs rfl _ _ rfl ⟨B9, 0, none⟩ ([.int .u64 m.2.2.num, .int .i64 m.2.2.node, .int .i64 m.2.2.o.o.k, .int .u64 m.2.2.o.o.v, .int .u64 m.2.2.o.o.t, .int .i64 m.2.2.o.o.s, .int .i64 m.2.2.o.o.a, .int .i64 m.2.2.o.o.c, .slice m.2.2.o.D m.2.2.o.n m.2.2.o.q, .int .i64 m.2.2.at_, .int .i64 m.2.2.fr, .int .i64 m.2.2.tt, .bool m.2.2.dn, .int .i64 m.2.2.gone, .int .i64 m.2.2.seq, .int .i64 m.2.2.an.code, .int .i64 m.2.2.an.done, .slice m.2.2.an.D m.2.2.an.n m.2.2.an.q] ) _ rfl Tryz.underlying51 rfl (by kernel_rfl) (HR10.out _ gri) ?_)
    | (go_at_call 33; ((with_reducible refine (HLF.out _ gri).mono ?_); rintro _ W12 ⟨rfl, hk12, hws12⟩; have hgx12 : W12.heap[g]? = W1.heap[g]? := (by obtain ⟨cs, hcs⟩ := HGB.out; exact (hk12.2 g cs _ _ HNB.out ((HGX.out _ gri).trans hcs)).trans (HGX.out _ gri)); have hsz12 : W1.heap.size ≤ W12.heap.size := Nat.le_trans HSZ.out (Nat.le_trans (gri : Gr W4 _).below.size hk12.1); have HGX12 := Lib.hid hgx12; have HSZ12 := Lib.hid hsz12; have HWS12 := Lib.hid hws12; clear hgx12 hsz12 hws12 hk12)))
     go_roundw
     case rel => exact ⟨k + 1, _, HLT.out, by go_num, HR2.out, HWS12.out, HGX12.out, HSZ12.out⟩
     case measure => have := HLT.out; simp [intOf]; omega
  ·have : k = N := by omega
   subst this
   have hrn := HRN.out
   rw [List.drop_eq_nil_of_le (by rw [HLN.out]; exact Nat.le_refl _)] at hrn
   obtain ⟨ws, q0, q1, gn, wv, v0, v1, gv, hb, h1, h2, h3, h4, h5, h6, h7⟩ := HWS4.out
   have hcnt : (ws.length : Int) = (cnt : Int) ∧ (0 : Int) = code := by
    have := Option.some.inj hrn
    have e1 := congrArg Prod.fst this
    have e2 := congrArg Prod.snd this
    simp only at e1 e2
    rw [← h1, List.length_map] at e1
    exact ⟨by rw [← e1], e2⟩
   have HCNT := Lib.hid hcnt
   obtain ⟨Aw, cw, hvw, _, _, _⟩ := hb.own.form wrIs
   obtain ⟨nw, hnw⟩ : ∃ nw, nw = ws.length := ⟨_, rfl⟩
   rw [← hnw] at hvw
   subst hvw
   have HNW2 := Lib.hid hnw
   have b0 : W4.cell? ⟨B, 0, none⟩ = some (.slice Aw nw cw) := (@block_cells _ _ 0 _ _ hb.blk).trans rfl
   haveI := hb.blk.old
   clear hnw hcnt hrn h1 h2 h3 h4 h5 h6 h7 hb
   go_wp2
   refine bodyPost_ret (results_tmp2 rfl _ _ _) rfl ?_
   exact ⟨by rw [← HCNT.out.1, ← HCNT.out.2, HNW2.out]; rfl, HG4.out⟩
set_option maxRecDepth 100000
set_option maxHeartbeats 4000000
set_option maxRecDepth 100000
set_option maxHeartbeats 4000000
theorem BK.row {W : World} {B : Nat} {cs cs' : Array Value} {T : TypeId} (h : BlockAt W B cs T) (hT : T ≠ 5) : BK W (W.setRow B cs') := fun b cs2 f hb => setRow_other W B b cs' (fun e => by
 subst e
 rw [h.eq] at hb
 exact hT (Obj.cells.inj (Option.some.inj hb)).2.1)
end Go.Proofs.YtddckdhnolmjoaaGreat
namespace Go.Proofs.YtddckdhnolmjoaaGreat
open Go.RowKit Go.ChangeShapes Go.WideShapes
set_option linter.unusedVariables false
set_option linter.unusedSimpArgs false
set_option linter.unnecessarySimpa false
structure OpCa (W : World) (x : OpC) : Prop where
 len : x.o.l.length = x.n
 cap : x.n ≤ x.q
 big : x.n ≤ 9223372036854775807
 row : Row bv W x.D x.o.l
 v0 : 0 ≤ x.o.v
 t0 : 0 ≤ x.o.t
theorem OpCa.ok {W : World} {x : OpC} (h : OpCa W x) (hn : x.n ≤ 9000) : OpOk W x := ⟨h.len, h.cap, by omega, h.row, h.v0, h.t0⟩
section
variable {H : Type} {enc : TypeId × Value → H}
end
end Go.Proofs.YtddckdhnolmjoaaGreat
namespace Go.Proofs.YtddckdhnolmjoaaGreat
open Go.RowKit
set_option linter.unusedVariables false
set_option linter.unusedSimpArgs false
set_option linter.unnecessarySimpa false
set_option maxRecDepth 100000
theorem DevIn.rk {base : Nat} {W W' : World} {D M : Nat} {mb : Int → Nat} {d : Dev} (h : DevIn base W D M mb d) (k : RK W W') : DevIn base W' D M mb d := by
 have hmap : ∀ {q : IntKind} {b : Nat} {L : List (Int × Value)}, MapAt q W b L → MapAt q W' b L := fun hm => by
  obtain ⟨es, clock, he, h1, h2, h3⟩ := hm
  exact ⟨es, clock, k.keep _ _ he (fun cs t f e => by cases e), h1, h2, h3⟩
 exact ⟨k.block h.blk (by unfold refT; decide), hmap h.all, fun p hp => hmap (h.vol p hp), h.inj, h.ne, h.bD, h.bM, h.bV, h.ok⟩
theorem DevAt.rk {base D : Nat} {W W' : World} {d : Dev} (h : DevAt base W D d) (k : RK W W') : DevAt base W' D d := by
 obtain ⟨M, mb, h⟩ := h
 exact ⟨M, mb, h.rk k⟩
set_option maxRecDepth 100000
set_option maxHeartbeats 4000000
abbrev KnownOk : Prop := ∀ W, Calls Tryz.prog 6 #[] W fun e w' => e = .returned (.bool true) ∧ Gr W w'
theorem RefAt.ck {base R : Nat} {W W' : World} {d : Dev} (h : RefAt base W R d) (g : CK W W') : RefAt base W' R d := by
 obtain ⟨v, vf, h⟩ := h
 exact ⟨v, vf, h.ck g⟩
end Go.Proofs.YtddckdhnolmjoaaGreat
