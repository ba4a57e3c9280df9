/- Device.Bytes. Conditions: the device stands in memory, at most 40 volumes. The reference's Low of four bytes; its device's Bytes. Conditions: numbers below 2^32; the device stands in memory. The law's turned and whole: stretches the other way round; have they no gaps? Conditions: the stretches stand in memory; at most 1000. The law's whole: have stretches no gaps? Conditions: the stretches stand in memory, and have none; at most 1000. Operations that came in as an argument, opened. Conditions: none. The chapter's row: known. Conditions: none. A row of bytes as a string; the reference's Same. Conditions: what is read stands in memory. A region that draws its order, walked by a plan: at each place either an operation that hands out the same and turns nothing as long as what has been learnt for good holds, whenever it comes; or the one operation that is ready, of any effect. Conditions: each step is known. -/
import Derived.Test.YtipeblmgochdfaaGreatR16
import Derived.Test.YtipeblmgochdfaaGreatR18
import Derived.Test.YtipeblmgochdfaaGreatR05
import Derived.Test.YtipeblmgochdfaaGreatR13
import Derived.Test.YtipeblmgochdfaaGreatR03
import Derived.Test.YtipeblmgochdfaaGreatR07
import Derived.Test.YtipeblmgochdfaaGreatR02
import Derived.Test.YtipeblmgochdfaaGreatR01
import Derived.Test.YtipeblmgochdfaaGreatR12
import Derived.ChangeSlices
import Derived.Laws.BytesArg
namespace Go.Proofs.YtipeblmgochdfaaGreat
open Go.RowKit
set_option linter.unusedVariables false
set_option linter.unusedSimpArgs false
set_option linter.unnecessarySimpa false
set_option maxRecDepth 100000
set_option maxHeartbeats 4000000
theorem OwnN.keepY {α β : Type} {e : EK α} {e2 : EK β} {base b2 : Nat} {W W' : World} {v u u' : Value} {xs : List α} {ys zs : List β} (h : OwnN e base W v xs) (k : AppN e2 b2 W u ys zs u' W') (hne : e.E ≠ e2.E) : OwnN e base W' v xs := h.keep fun q hq => by
 rcases h.own.2 with ⟨e1, _⟩ | ⟨g, cap, cur, e1, _, hh, _⟩
 ·rw [e1] at hq
  cases hq
 ·rw [e1] at hq
  have : g = q := by simpa [Value.ownBlock] using hq
  subst this
  exact k.block g (Array.getElem?_eq_some_iff.1 hh).1 (fun cs f e3 => by rw [hh] at e3; simp only [Option.some.injEq, Obj.cells.injEq] at e3; exact hne e3.2.1)
def itsM (m : List (Int × Byt)) : List It := m.flatMap fun q => [.num q.1, .blk q.2]
def itsV (p : Int × VolM) : List It := [.num p.1, .num p.2.1, .num p.2.2.length] ++ itsM p.2.2
def itsK (d : Dev) : List It := .num d.length :: d.flatMap itsV
def bytesK (d : Dev) : List UInt8 := (itsK d).flatMap It.bytes
def itS (l : List It) : ByteArray := ⟨(l.map It.letter).toArray⟩
theorem pack_anyS (l : List It) (hok : ∀ x ∈ l, x.ok) (hn : l.length ≤ 30000) (A : Option Addr) (c : Nat) (hcl : l.length ≤ c) (w : World) (hr : RowN anE w A l) :
  Calls Tryz.prog 53 #[.string (itS l), .slice A l.length c] w fun e w' => ∃ v, e = .returned (.tuple #[v, .int .i64 0]) ∧ OwnN bE w.heap.size w' v (l.flatMap It.bytes) ∧ Gr w w' := pack_any l hok hn A c hcl w hr
theorem itS_app (a b : List It) : itS (a ++ b) = itS a ++ itS b := by
 apply ByteArray.ext
 simp [itS]
theorem itS_size (a : List It) : (itS a).size = a.length := by simp [itS, ByteArray.size]
theorem itsM_len : ∀ m, (itsM m).length = 2 * m.length
 | [] => rfl
 | q :: m => by
  have := itsM_len m
  unfold itsM at *
  rw [List.flatMap_cons, List.length_append, this]
  simp; omega
theorem itsM_take {m : List (Int × Byt)} {j : Nat} {q : Int × Byt} (h : m[j]? = some q) : itsM (m.take (j + 1)) = itsM (m.take j) ++ [.num q.1, .blk q.2] := by
 unfold itsM
 rw [List.take_add_one, h, List.flatMap_append]; simp
theorem itsV_take {d : Dev} {j : Nat} {q : Int × VolM} (h : d[j]? = some q) : (d.take (j + 1)).flatMap itsV = (d.take j).flatMap itsV ++ itsV q := by
 rw [List.take_add_one, h, List.flatMap_append]; simp
theorem vol_len {v : VolM} (h : VolOk v) : v.2.length ≤ 256 := keysK_len h.sort h.keys h.s1
theorem itsV_len {p : Int × VolM} (h : VolOk p.2) : (itsV p).length ≤ 515 := by
 have := vol_len h
 unfold itsV
 rw [List.length_append, itsM_len]
 simp; omega
theorem itsD_len : ∀ (d : Dev), (∀ p ∈ d, VolOk p.2) → (d.flatMap itsV).length ≤ 515 * d.length
 | [], _ => by simp
 | p :: d, h => by
  have h1 := itsD_len d fun q hq => h q (List.mem_cons_of_mem _ hq)
  have h2 := itsV_len (h p List.mem_cons_self)
  rw [List.flatMap_cons, List.length_append, List.length_cons]
  omega
theorem itsV_ok {d : Dev} (h : DevOk d) {p : Int × VolM} (hp : p ∈ d) : ∀ x ∈ itsV p, x.ok := by
 have hv := h.vols p hp
 have hk := h.keys p hp
 have hl := vol_len hv
 have h0 := hv.s0
 have h1 := hv.s1
 intro x hx
 unfold itsV itsM at hx
 rcases List.mem_append.1 hx with hx | hx
 ·simp only [List.mem_cons, List.mem_nil_iff, or_false] at hx
  rcases hx with rfl | rfl | rfl
  ·exact ⟨by omega, by omega⟩
  ·exact ⟨by omega, by omega⟩
  ·exact ⟨by omega, by omega⟩
 ·obtain ⟨q, hq, hx⟩ := List.mem_flatMap.1 hx
  have hq2 := hv.keys q hq
  simp only [List.mem_cons, List.mem_nil_iff, or_false] at hx
  rcases hx with rfl | rfl
  ·exact ⟨by omega, by omega⟩
  ·exact hv.len q hq
theorem itsK_ok {d : Dev} (h : DevOk d) (hn : d.length ≤ 40) : ∀ x ∈ itsK d, x.ok := by
 intro x hx
 rcases List.mem_cons.1 hx with rfl | hx
 ·exact ⟨by omega, by omega⟩
 ·obtain ⟨p, hp, hx⟩ := List.mem_flatMap.1 hx
  exact itsV_ok h hp x hx
theorem OwnN.blk {α : Type} {e : EK α} {base : Nat} {W : World} {g n : Nat} {cs : Array Value} {xs : List α} (h : BlockAt W g cs e.E) (hb : base ≤ g) (hcs : cs.toList = xs.flatMap e.cs) (hn : xs.length = n) (hm : n ≤ 1000) (hok : ∀ x ∈ xs, e.ok x) (hs : cs.size = n * e.k) : OwnN e base W (.slice (some ⟨g, 0, none⟩) n n) xs := by
 subst hn
 have hl : cs.toList.length = xs.length * e.k := by simpa using hs
 refine ⟨hok, by rw [← hcs]; exact hl, .inr ⟨g, xs.length, cs, rfl, hb, h.eq, Nat.le_refl _, by unfold maxLen; omega, hs, ?_⟩⟩
 rw [← hcs]
 exact List.take_of_length_le (by omega)
theorem CellsN.blk {α : Type} {e : EK α} (he : e.Is) {W : World} {g : Nat} {cs : Array Value} {xs : List α} {T : TypeId} (h : BlockAt W g cs T) (hcs : cs.toList = xs.flatMap e.cs) (hok : ∀ x ∈ xs, e.ok x) : CellsN e W g 0 xs := by
 intro j x hj i u hu
 rw [Nat.zero_add, block_cells W g _ cs T, ← Array.getElem?_toList, hcs]
 exact flatN_at he xs hok j i x u hj hu
theorem bytes_any (base D : Nat) (d : Dev) (hn : d.length ≤ 40) (w : World) (h : DevAt base w D d) : Calls Tryz.prog 20 #[.pointer (some ⟨D, 0, none⟩)] w fun e w' => ∃ v, e = .returned v ∧ OwnN bE w.heap.size w' v (bytesK d) ∧ Gr w w' := by
 have HDA := Lib.hid h
 obtain ⟨M, mb, h⟩ := h
 have HD := Lib.hid h
 have HT := Lib.hid (fun W (hW : Gr w W) => there_yes D M W (HD.out.blk.gr hW))
 haveI := h.blk
 have x0 : w.cell? ⟨D, 0, none⟩ = some (.map (some M)) := (@block_cells _ _ 0 _ _ h.blk).trans rfl
 haveI : Old D w := h.blk.old
 have HLO := Lib.hid (itsD_len d h.ok.vols)
 have HN := Lib.hid hn
 have HOK := Lib.hid h.ok
 have hwr : IntKind.u64.wrap (d.length : Int) = (d.length : Int) := by have := HN.out; simp [IntKind.wrap, IntKind.bits, IntKind.signed]; omega
 clear h hn
 go_enter Tryz.func20, Tryz.ntmps20
 go_wp2_with (first | (go_at_call 50; ((with_reducible refine (HT.out _ gri).mono ?_); rintro _ _ ⟨rfl, g1, rfl⟩)) | (go_at_call 51; ((with_reducible refine (volumes_any base D d (by have := HN.out; omega) _ (HDA.out.gr gri)).mono ?_); rintro _ W2 ⟨v2, rfl, hv, hg⟩; obtain ⟨A, c, hA, -, -, -⟩ := hv.form sIs; rw [List.length_map] at hA; subst hA; haveI := grc_of (Gr.trans (gri : Gr w (grown w g1)) hg); haveI := from_of (Gr.trans (gri : Gr w (grown w g1)) hg); have HV := Lib.hid hv; have HG := Lib.hid hg; clear hv hg)))
 have HB0 := Lib.hid (show w.heap.size ≤ W2.heap.size from Nat.le_trans (grown_below w g1).size HG.out.below.size)
 go_loopw [4, 5, 25] (fun v4 v5 v25 wr => ∃ i : Nat, i ≤ d.length ∧ v25 = .int .i64 (i : Int) ∧ v4 = .string (itS (.num d.length :: (d.take i).flatMap itsV)) ∧ OwnN anE w.heap.size wr v5 (.num d.length :: (d.take i).flatMap itsV) ∧ OwnN sE w.heap.size wr (.slice A d.length c) (d.map (·.1)) ∧ Gr w wr) (fun _ _ v _ => d.length - (intOf v).toNat)
 case atStart =>
  refine ⟨0, Nat.zero_le _, rfl, rfl, ?_, (HV.out.gr gri).more (by have := (grown_below w g1).size; omega), gri⟩
  exact OwnN.blk (e := anE) (xs := [.num d.length]) inferInstance HB0.out rfl rfl (by decide) (by intro x hx; rw [List.mem_singleton] at hx; subst hx; exact ⟨by omega, by have := HN.out; omega⟩) rfl
 case round =>
  obtain ⟨i, hi, rfl, rfl, ho, hk, hg⟩ := hrel
  haveI := grc_of hg
  haveI := from_of hg
  have HG := Lib.hid hg
  have HO := Lib.hid ho
  have HK := Lib.hid hk
  clear hg ho hk
  by_cases hlt : i < d.length
  ·obtain ⟨p, hp⟩ := Option.isSome_iff_exists.1 (show (d[i]?).isSome by simp; omega)
   have hpm := List.mem_of_getElem? hp
   have hgk : getK d p.1 = some p.2 := (getK_mem HOK.out.sort).2 hpm
   have hgl := getK_vols d mb p.1
   rw [hgk] at hgl
   obtain ⟨g, c', hAe, -, hgw, -, -, hcl, -⟩ := HK.out.cells sIs (by intro e; rw [List.map_eq_nil_iff] at e; rw [e] at hlt; simp at hlt)
   rw [List.length_map] at hAe
   simp only [Value.slice.injEq] at hAe
   obtain ⟨rfl, -, rfl⟩ := hAe
   have x1 : wr.cell? ⟨g, i, none⟩ = some (.int .u64 p.1) := by
    have := hcl i p.1 (by rw [List.getElem?_map, hp]; rfl) 0 _ rfl
    simpa [sE] using this
   haveI : Old g wr := ⟨hgw⟩
   have HVO := Lib.hid (HOK.out.vols p hpm)
   have HMM := Lib.hid (HD.out.vol p hpm)
   obtain ⟨n, s, m⟩ := p
   have hml : m.length ≤ 256 := vol_len HVO.out
   have hwr2 : IntKind.u64.wrap (m.length : Int) = (m.length : Int) := by simp [IntKind.wrap, IntKind.bits, IntKind.signed]; omega
   have hwr3 : IntKind.u64.wrap s = s := by have h8 : 0 ≤ s := HVO.out.s0; have h9 : s ≤ 256 := HVO.out.s1; simp [IntKind.wrap, IntKind.bits, IntKind.signed]; omega
   have HL := Lib.hid hgl
   have HGK := Lib.hid hgk
   have HPT := Lib.hid (itsV_take hp)
   have HLN := Lib.hid (show ((.num d.length :: (d.take i).flatMap itsV : List It)).length ≤ 30000 from by have := itsD_len (d.take i) (fun q hq => HOK.out.vols q (List.mem_of_mem_take hq)); have := HN.out; simp at *; omega)
   have hsz : ¬ 9223372036854775807 < (itS (.num d.length :: (d.take i).flatMap itsV)).size + 3 := by have := HLN.out; rw [itS_size]; omega
   have HOK3 := Lib.hid (show ∀ x ∈ [It.num n, It.num s, It.num m.length], x.ok from fun x hx => itsV_ok HOK.out hpm x (List.mem_append_left _ hx))
   clear hpm hp hgl hgk hcl
   go_wp2_with (first | (go_at_call 52; ((with_reducible refine (mapped_any base D d n (s, m) HGK.out _ (HDA.out.gr gri)).mono ?_); rintro _ W3 ⟨v3, rfl, hv, hg⟩; obtain ⟨A3, c3, hA, -, -, -⟩ := hv.form I.sIs; rw [List.length_map] at hA; subst hA; haveI := grc_of hg; haveI := from_of hg; haveI := grc_of (HG.out.trans hg); haveI := from_of (HG.out.trans hg); have z3 : W3.cell? ⟨D, 0, none⟩ = some (.map (some M)) := ((HG.out.trans hg).below.cell (p := ⟨D, 0, none⟩) Old.lt).trans x0; haveI : Old D W3 := old_of_cell z3; have HV3 := Lib.hid hv; have HG3 := Lib.hid hg; clear hv hg)) | (at_lookup; refine wpList_lookupK (q := .u64) (b := M) rfl _ _ rfl n Tryz.underlying99 Tryz.underlying28 (Tryz.zeroValue115 _) (HD.out.all.gr gri) rfl rfl ?_; rw [HL.out]) | (at_builtin; refine wp_append_n anIs rfl _ _ rfl rfl (HO.out.gr gri) _ 0 [.num n, .num s, .num m.length] 3 3 rfl rfl HOK3.out (CellsN.blk anIs inferInstance rfl HOK3.out) (by have := HLN.out; simp at this ⊢; omega) past (by simp) ?_; intro v1 W1 h1; have H1 := Lib.hid h1; clear h1))
   obtain ⟨L, hL⟩ : ∃ L : List It, L = (.num d.length :: (d.take i).flatMap itsV) ++ [.num n, .num s, .num m.length] := ⟨_, rfl⟩
   have HLL := Lib.hid hL
   have H1own := Lib.hid (hL ▸ H1.out.own)
   clear hL
   go_loopw [4, 5, 54] (fun v4 v5 v54 wx => ∃ j : Nat, j ≤ m.length ∧ v54 = .int .i64 (j : Int) ∧ v4 = .string (itS (L ++ itsM (m.take j))) ∧ OwnN anE w.heap.size wx v5 (L ++ itsM (m.take j)) ∧ OwnN sE w.heap.size wx (.slice (some ⟨g, 0, none⟩) d.length c) (d.map (·.1)) ∧ OwnN I.sE w.heap.size wx (.slice A3 m.length c3) (m.map (·.1)) ∧ Gr w wx) (fun _ _ v _ => m.length - (intOf v).toNat)
   case atStart =>
    refine ⟨0, Nat.zero_le _, rfl, ?_, ?_, ?_, ?_, by haveI := H1.out.grc w (Nat.le_refl _); exact gri⟩
    ·have e0 : L ++ itsM (m.take 0) = L := by simp [itsM]
     rw [e0, HLL.out, itS_app]; rfl
    ·have e0 : L ++ itsM (m.take 0) = L := by simp [itsM]
     rw [e0]; exact H1own.out
    ·exact ((HK.out.gr HG3.out).gr gri).keepY H1.out (by decide)
    ·exact ((HV3.out.gr gri).more (HG.out.below.size)).keepY H1.out (by decide)
   case round =>
    obtain ⟨j, hj, rfl, rfl, ho2, hk2, hm2, hg2⟩ := hrel
    haveI := grc_of hg2
    haveI := from_of hg2
    have HG4 := Lib.hid hg2
    have HO4 := Lib.hid ho2
    have HK4 := Lib.hid hk2
    have HM4 := Lib.hid hm2
    have z4 : wr.cell? ⟨D, 0, none⟩ = some (.map (some M)) := (hg2.below.cell (p := ⟨D, 0, none⟩) Old.lt).trans x0
    haveI : Old D wr := old_of_cell z4
    clear hg2 ho2 hk2 hm2
    by_cases hjt : j < m.length
    ·obtain ⟨q, hq⟩ := Option.isSome_iff_exists.1 (show (m[j]?).isSome by simp; omega)
     obtain ⟨b, B⟩ := q
     have hqm := List.mem_of_getElem? hq
     have hBl : B.length = 256 := HVO.out.len _ hqm
     have hb0 : 0 ≤ b ∧ b < s := HVO.out.keys _ hqm
     have hs2 : s ≤ 256 := HVO.out.s1
     have hwb : IntKind.u64.wrap b = b := by simp [IntKind.wrap, IntKind.bits, IntKind.signed]; omega
     have hkb : getK (encK bkV m) b = some (Value.agg (bkC B)) := by rw [getK_enc, (getK_mem HVO.out.sort).2 hqm]; rfl
     obtain ⟨g3, c', hAe, -, hgw, -, -, hcl, -⟩ := HM4.out.cells I.sIs (by intro e; rw [List.map_eq_nil_iff] at e; rw [e] at hjt; simp at hjt)
     rw [List.length_map] at hAe
     simp only [Value.slice.injEq] at hAe
     obtain ⟨rfl, -, rfl⟩ := hAe
     have x3 : wr.cell? ⟨g3, j, none⟩ = some (.int .i64 b) := by
      have := hcl j b (by rw [List.getElem?_map, hq]; rfl) 0 _ rfl
      simpa [I.sE] using this
     haveI : Old g3 wr := ⟨hgw⟩
     haveI := bkC_row hBl
     have HKB := Lib.hid hkb
     have HMT := Lib.hid (itsM_take hq)
     have HOK2 := Lib.hid (show ∀ x ∈ [It.num b, It.blk B], x.ok from fun x hx => by
      simp only [List.mem_cons, List.mem_nil_iff, or_false] at hx
      rcases hx with rfl | rfl
      ·exact ⟨by omega, by omega⟩
      ·exact hBl)
     have HLN2 := Lib.hid (show (L ++ itsM (m.take j)).length ≤ 50000 from by have := itsM_len (m.take j); have := HLN.out; have := HN.out; rw [HLL.out]; simp at *; omega)
     have hsz2 : ¬ 9223372036854775807 < (itS (L ++ itsM (m.take j))).size + 2 := by have := HLN2.out; rw [itS_size]; omega
     clear hqm hq hkb hcl hgw hBl hb0 hs2
     go_wp2_with (first | (at_lookup; refine wpList_lookupK (q := .u64) (b := M) rfl _ _ rfl n Tryz.underlying99 Tryz.underlying28 (Tryz.zeroValue115 _) (HD.out.all.gr gri) rfl rfl ?_; rw [HL.out]) | (at_lookup; refine wpList_lookupK (q := .i64) (b := mb n) rfl _ _ rfl b Tryz.underlying113 Tryz.underlying3 (Tryz.zeroValue88 _) (HMM.out.gr gri) rfl rfl ?_; rw [HKB.out]) | (at_builtin; refine wp_append_n anIs rfl _ _ rfl rfl (HO4.out.gr gri) _ 0 [.num b, .blk B] 2 2 rfl rfl HOK2.out (CellsN.blk anIs inferInstance rfl HOK2.out) (by have := HLN2.out; simp at this ⊢; omega) past (by simp) ?_; intro v1 W1 h1; have H5 := Lib.hid h1; clear h1))
     go_roundw
     case rel =>
      refine ⟨j + 1, by omega, by go_num, ?_, ?_, ?_, ?_, by haveI := H5.out.grc w (Nat.le_refl _); exact gri⟩
      ·rw [HMT.out, ← List.append_assoc, itS_app (L ++ _), itS_app L]; rfl
      ·rw [HMT.out, ← List.append_assoc]; exact H5.out.own
      ·exact (HK4.out.gr gri).keepY H5.out (by decide)
      ·exact (HM4.out.gr gri).keepY H5.out (by decide)
     case measure => simp [intOf]; omega
    ·obtain rfl : j = m.length := by omega
     have HE := Lib.hid (show L ++ itsM (m.take m.length) = .num d.length :: (d.take (i + 1)).flatMap itsV from by rw [List.take_length, HLL.out, HPT.out]; simp [itsV])
     have hn40 := HN.out
     go_wp2_with fail
     go_roundw
     case rel => exact ⟨i + 1, hlt, by go_num, by rw [HE.out], HE.out ▸ HO4.out.gr gri, HK4.out.gr gri, HG4.out.trans gri⟩
     case measure => simp [intOf]; omega
  ·obtain rfl : i = d.length := by omega
   have HE := Lib.hid (show (.num d.length :: (d.take d.length).flatMap itsV) = itsK d from by rw [List.take_length]; rfl)
   rw [HE.out] at HO ⊢
   have HLK := Lib.hid (show (itsK d).length ≤ 30000 from by have h1 := HLO.out; have h2 := HN.out; unfold itsK; rw [List.length_cons]; omega)
   obtain ⟨AV, cV, hV, hcV, -, hRV⟩ := HO.out.form anIs
   subst hV
   have HRV := Lib.hid hRV
   have HCV := Lib.hid hcV
   clear hRV hcV
   go_wp2_with (first | (go_at_call 53; ((with_reducible refine (pack_anyS (itsK d) (itsK_ok HOK.out HN.out) HLK.out AV cV HCV.out _ (HRV.out.gr gri)).mono ?_); rintro _ W5 ⟨v5, rfl, hv5, hg5⟩; haveI := grc_of (HG.out.trans (Gr.trans gri hg5)); have HV5 := Lib.hid hv5; have HG5 := Lib.hid hg5; clear hv5 hg5)))
   go_ret
   exact ⟨_, rfl, (HV5.out.gr gri).more past, gri⟩
set_option maxRecDepth 100000
set_option maxHeartbeats 4000000
def lowC (n : Int) (k : Nat) : Array Value := ((leB n k ++ List.replicate (4 - k) 0).map bv).toArray
theorem leB_len (n : Int) (k : Nat) : (leB n k).length = k := by simp [leB]
theorem lowC_size (n : Int) (k : Nat) (h : k ≤ 4) : (lowC n k).size = 4 := by
 simp [lowC, leB_len]; omega
theorem lowC_set (n : Int) (k : Nat) (h : k < 4) (y : UInt8) (hy : UInt8.ofNat (n / 256 ^ k % 256).toNat = y) : (lowC n k).setIfInBounds k (bv y) = lowC n (k + 1) := by
 have e : 4 - k = (4 - (k + 1)) + 1 := by omega
 unfold lowC
 rw [leB_succ, hy, e, List.replicate_succ, List.map_append, List.map_append, List.map_append]
 simp [List.set_append, leB_len]
theorem low_blk {W : World} {g base : Nat} {n : Int} (h : BlockAt W g (lowC n 4) 5) (hb : base ≤ g) : OwnN bE base W (.slice (some ⟨g, 0, none⟩) 4 4) (leB n 4) := by
 have e : (lowC n 4).toList = (leB n 4).flatMap bE.cs := by
  unfold lowC bE
  simp only [Nat.sub_self, List.replicate_zero, List.append_nil]
  generalize leB n 4 = l
  induction l with
  | nil => rfl
  | cons a l ih => simp only [List.map_cons, List.flatMap_cons, ih]; rfl
 have hl : (lowC n 4).toList.length = 4 := lowC_size n 4 (Nat.le_refl _)
 refine ⟨fun _ _ => trivial, by rw [← e]; exact hl, .inr ⟨g, 4, lowC n 4, rfl, hb, h.eq, Nat.le_refl _, by unfold maxLen; omega, lowC_size n 4 (Nat.le_refl _), ?_⟩⟩
 rw [← e]
 exact List.take_of_length_le (Nat.le_of_eq hl)
theorem make4 (n : Int) (W : World) : (Instr.makeSlice 41 (.int .i64 4) (.int .i64 4)).run Tryz.prog W = .ok (.slice (some ⟨W.heap.size, 0, none⟩) 4 4) (W.alloc (.cells (lowC n 0) 5)) := by
 obtain ⟨i0, hi, hz0, hz2, hz3⟩ := info_parts bIs.hE
 have hi2 : i0.size = 1 := hz2
 have hi3 : i0.bytes = 1 := hz3
 have h := run_makeSlice (P := Tryz.prog) W 41 5 i0 (.int .u8 0) Tryz.underlying41 hi hz0 .i64 .i64 4 4 (by omega) (Int.le_refl _) (by rw [hi2]; omega) (by rw [hi3]; omega) (by omega)
 rw [h, hi2]
 have e : madeCells (Value.int .u8 0).cells (Int.toNat 4 * 1) = lowC n 0 := by kernel_rfl
 rw [e]
 rfl
theorem rlow_4 (n : Int) (h0 : 0 ≤ n) (hn : n < 4294967296) (w : World) : Calls Tryz.prog 54 #[.int .u64 n, .int .i64 4] w fun e w' => ∃ v, e = .returned v ∧ OwnN bE w.heap.size w' v (leB n 4) ∧ Gr w w' := by
 have hz : ∀ k, k < 4 → (lowC n k)[k]? = some (bv 0) := fun k hk => by
  unfold lowC
  have h1 : ¬ k < (leB n k).length := by rw [leB_len]; omega
  have h2 : 0 < 4 - k := by omega
  simp [List.getElem?_append, leB_len, h2]
 have HZ := Lib.hid hz
 clear hz
 have hmq := fun W => make4 n W
 go_enter Tryz.func54, Tryz.ntmps54
 go_wp2
 go_loopw [0, 6] (fun v0 v6 wr => ∃ k : Nat, k ≤ 4 ∧ v0 = .int .u64 (n / 256 ^ k) ∧ v6 = .int .i64 (k : Int) ∧ BlockAt wr w.heap.size (lowC n k) 5 ∧ Gr w wr) (fun _ v _ => 4 - (intOf v).toNat)
 case atStart => exact ⟨0, by omega, by simp, rfl, inferInstance, gri⟩
 case round =>
  obtain ⟨k, hk, rfl, rfl, hb, hg⟩ := hrel
  haveI := grc_of hg
  haveI := from_of hg
  haveI := hb
  haveI := hb.old
  have HB := Lib.hid hb
  have HG := Lib.hid hg
  clear hb hg
  by_cases hlt : k < 4
  ·have x1 : wr.cell? ⟨w.heap.size, k, none⟩ = some (bv 0) := (@block_cells _ _ k _ _ HB.out).trans (HZ.out k hlt)
   have x2 : wr.frozen? ⟨w.heap.size, k, none⟩ = false := @block_frozen _ _ k _ _ HB.out
   obtain ⟨m, hm⟩ : ∃ m, n / 256 ^ k = m := ⟨_, rfl⟩
   have hm0 : 0 ≤ m := by rw [← hm]; exact Int.ediv_nonneg h0 (Int.le_of_lt (Int.pow_pos (by omega)))
   have hmn : m < 4294967296 := by rw [← hm]; exact Int.lt_of_le_of_lt (Int.ediv_le_self _ h0) hn
   obtain ⟨y, hy⟩ : ∃ y : UInt8, UInt8.ofNat (m % 256).toNat = y := ⟨_, rfl⟩
   have hcv : IntKind.u8.wrap (m % 256) = (y.toNat : Int) := by
    rw [← hy]
    simp [IntKind.wrap, IntKind.bits, IntKind.signed]
    omega
   have HS := Lib.hid (lowC_set n k hlt y (by rw [hm]; exact hy))
   have HM := Lib.hid hm
   rw [hm]
   clear hy hm
   go_wp2
   go_roundw
   case rel => exact ⟨k + 1, hlt, by rw [← HM.out, Int.pow_succ, Int.ediv_ediv_of_nonneg (Int.le_of_lt (Int.pow_pos (by omega)))], by go_num, by rw [← HS.out]; infer_instance, gri⟩
   case measure => simp [intOf]; omega
  ·obtain rfl : k = 4 := by omega
   go_wp2
   go_ret
   exact ⟨_, rfl, low_blk HB.out (Nat.le_refl _), HG.out⟩
def bytesI (l : List It) : List UInt8 := l.flatMap It.bytes
theorem bytesI_app (a b : List It) : bytesI (a ++ b) = bytesI a ++ bytesI b := List.flatMap_append
theorem bytesI_len {l : List It} (h : ∀ x ∈ l, x.ok) : (bytesI l).length ≤ 256 * l.length := flat_bytes l h
structure RowF (W : World) (A : Option Addr) (c : Nat) (xs : List UInt8) : Prop where
 nn : A = none → c = 0
 row : RowN bE W A xs
theorem OwnN.rowF {base : Nat} {W : World} {v : Value} {xs : List UInt8} (h : OwnN bE base W v xs) : ∃ A c, v = .slice A xs.length c ∧ RowF W A c xs := by
 obtain ⟨A, c, rfl, _, _, h2⟩ := h.form bIs
 refine ⟨A, c, rfl, fun e => ?_, h2⟩
 subst e
 rcases h.own.2 with ⟨e, _⟩ | ⟨b, cap, cur, e, _⟩
 ·simp only [Value.slice.injEq] at e; exact e.2.2
 ·simp only [Value.slice.injEq] at e; cases e.1
theorem rbytes_any (base R : Nat) (d : Dev) (hn : d.length ≤ 40) (w : World) (h : RefAt base w R d) : Calls Tryz.prog 21 #[.pointer (some ⟨R, 0, none⟩)] w fun e w' => ∃ v, e = .returned v ∧ OwnN bE w.heap.size w' v (bytesK d) ∧ Gr w w' := by
 obtain ⟨v, vf, h⟩ := h
 obtain ⟨A, c, rfl, h1, h2, h3, hrow⟩ := h.nilv
 have HR := Lib.hid h
 haveI := h.blk
 have x0 : w.cell? ⟨R, 0, none⟩ = some (.slice A d.length c) := (@block_cells _ _ 0 _ _ h.blk).trans rfl
 haveI : Old R w := h.blk.old
 have hwr : IntKind.u64.wrap (d.length : Int) = (d.length : Int) := by simp [IntKind.wrap, IntKind.bits, IntKind.signed]; omega
 have HL0 := Lib.hid (fun W => rlow_4 (d.length : Int) (by omega) (by omega) W)
 have HLO := Lib.hid (itsD_len d h.ok.vols)
 have HN := Lib.hid hn
 have HOK := Lib.hid h.ok
 clear h h1 h2 h3 hn
 go_enter Tryz.func21, Tryz.ntmps21
 go_wp2_with (first | (go_at_call 54; ((with_reducible refine (HL0.out _).mono ?_); rintro _ W2 ⟨v2, rfl, hv, hg⟩; haveI := grc_of hg; have HV := Lib.hid hv; have HG := Lib.hid hg; clear hv hg)))
 go_loopw [3, 4] (fun v3 v4 wr => ∃ i : Nat, i ≤ d.length ∧ v4 = .int .i64 (i : Int) ∧ OwnN bE w.heap.size wr v3 (bytesI (.num d.length :: (d.take i).flatMap itsV)) ∧ Gr w wr) (fun _ v _ => d.length - (intOf v).toNat)
 case atStart => exact ⟨0, Nat.zero_le _, rfl, by have := HV.out.gr (gri : Gr W2 W2); simpa [bytesI, It.bytes] using this, HG.out⟩
 case round =>
  obtain ⟨i, hi, rfl, ho, hg⟩ := hrel
  haveI := grc_of hg
  haveI := from_of hg
  have HG2 := Lib.hid hg
  have HO := Lib.hid ho
  have y0 : wr.cell? ⟨R, 0, none⟩ = some (.slice A d.length c) := (hg.below.cell (p := ⟨R, 0, none⟩) Old.lt).trans x0
  haveI : Old R wr := old_of_cell y0
  clear hg ho
  by_cases hlt : i < d.length
  ·obtain ⟨p, hp⟩ := Option.isSome_iff_exists.1 (show (d[i]?).isSome by simp; omega)
   have hpm := List.mem_of_getElem? hp
   obtain ⟨g, c', hAe, -, hgw, -, -, -, -, hcl⟩ := HR.out.form (by intro e; rw [e] at hlt; simp at hlt)
   simp only [Value.slice.injEq] at hAe
   obtain ⟨rfl, -, rfl⟩ := hAe
   obtain ⟨c0, c1, c2⟩ := hcl i p hp
   have HVO := Lib.hid (HOK.out.vols p hpm)
   have HBS := Lib.hid ((HR.out.vol p hpm).gr HG2.out)
   have HBV := Lib.hid (HR.out.vol p hpm)
   have HKY := HOK.out.keys p hpm
   obtain ⟨n, s, m⟩ := p
   have hml : m.length ≤ 256 := vol_len HVO.out
   have hwr2 : IntKind.u64.wrap (m.length : Int) = (m.length : Int) := by simp [IntKind.wrap, IntKind.bits, IntKind.signed]; omega
   have hs0 : 0 ≤ s := HVO.out.s0
   have hs1 : s ≤ 256 := HVO.out.s1
   have hwr3 : IntKind.u64.wrap s = s := by simp [IntKind.wrap, IntKind.bits, IntKind.signed]; omega
   haveI : Old g w := ⟨hgw⟩
   have HPT := Lib.hid (itsV_take hp)
   have hiok : ∀ x ∈ (It.num d.length :: (d.take i).flatMap itsV), x.ok := fun x hx => by
    refine itsK_ok HOK.out HN.out x ?_
    rcases List.mem_cons.1 hx with rfl | hx
    ·exact List.mem_cons_self
    ·obtain ⟨q, hq, hx⟩ := List.mem_flatMap.1 hx
     exact List.mem_cons_of_mem _ (List.mem_flatMap.2 ⟨q, List.mem_of_mem_take hq, hx⟩)
   have hbl : (bytesI (It.num d.length :: (d.take i).flatMap itsV)).length ≤ 10000000 := by
    have h1 := bytesI_len hiok
    have h2 := itsD_len (d.take i) (fun q hq => HOK.out.vols q (List.mem_of_mem_take hq))
    have h3 := HN.out
    have h4 := List.length_take_le i d
    simp only [List.length_cons] at h1
    omega
   have HBLn := Lib.hid hbl
   obtain ⟨bs, hbs⟩ : ∃ bs, bs = bytesI (It.num d.length :: (d.take i).flatMap itsV) := ⟨_, rfl⟩
   have HBs := Lib.hid hbs
   rw [← hbs] at HO HBLn
   obtain ⟨u, hu⟩ : ∃ u, u = vf n := ⟨_, rfl⟩
   simp only at c0 c1 c2 HBS HBV HKY
   have hn0 : 0 ≤ n := by omega
   have hn1 : n < 4294967296 := by omega
   rw [← hu] at c2 HBS HBV
   obtain ⟨A3, c3, hAu, hm1, hm2, hm3, hm4, hm5⟩ := HBS.out
   have hm6 : m ≠ [] → ∃ b p cs f, A3 = some ⟨b, p, none⟩ ∧ w.heap[b]? = some (.cells cs 120 f) ∧ CellsN rbE w b p m := fun hne => by
    obtain ⟨A4, c4, e4, -, -, -, -, h5⟩ := HBV.out
    rw [hAu] at e4
    simp only [Value.slice.injEq] at e4
    obtain ⟨rfl, -, rfl⟩ := e4
    exact h5 hne
   subst hAu
   have d0 : wr.cell? ⟨g, i * 3 + 0, none⟩ = _ := (HG2.out.below.cell (p := ⟨g, i * 3 + 0, none⟩) hgw).trans c0
   have d1 : wr.cell? ⟨g, i * 3 + 1, none⟩ = _ := (HG2.out.below.cell (p := ⟨g, i * 3 + 1, none⟩) hgw).trans c1
   have d2 : wr.cell? ⟨g, i * 3 + 2, none⟩ = _ := (HG2.out.below.cell (p := ⟨g, i * 3 + 2, none⟩) hgw).trans c2
   rw [Nat.add_zero] at d0
   clear c0 c1 c2 hu hbs hpm hp hbl hiok
   go_wp2
   refine wp_region_treeK (fun (e : World → Prop) w' => (BlockAt w' wr.heap.size #[.int .u64 n, .int .i64 s, .slice A3 m.length c3] 64 ∧ Gr w w') ∧ e w') (fun w' => OwnN bE w.heap.size w' u3 bs) ⟨⟨inferInstance, gri⟩, HO.out.gr gri⟩ [0, 1, 2, 5, 6, 7] [3, 4, 8, 9, 10] (by kernel_rfl) (by kernel_rfl) ?_
   simp only [pick, List.drop, List.take, List.nil_append, List.cons_append]
   refine same_step (u3) rfl rfl (fun e w1 hw1 => by go_simp) ?_
   simp only [Act.put, List.setIfInBounds_toArray, List.set]
   refine same_step (.pointer (some ⟨wr.heap.size, 0, none⟩)) rfl rfl (fun e w1 hw1 => by go_simp) ?_
   simp only [Act.put, List.setIfInBounds_toArray, List.set]
   refine same_step (.int .u64 n) rfl rfl (fun e w1 hw1 => by obtain ⟨⟨hb, hg⟩, he⟩ := hw1; have x1 : w1.cell? ⟨wr.heap.size, 0, none⟩ = some (.int .u64 n) := (@block_cells _ _ 0 _ _ hb).trans rfl; go_simp) ?_
   simp only [Act.put, List.setIfInBounds_toArray, List.set]
   refine same_step (.pointer (some ⟨wr.heap.size, 1, none⟩)) rfl rfl (fun e w1 hw1 => by go_simp) ?_
   simp only [Act.put, List.setIfInBounds_toArray, List.set]
   refine same_step (.int .i64 s) rfl rfl (fun e w1 hw1 => by obtain ⟨⟨hb, hg⟩, he⟩ := hw1; have x1 : w1.cell? ⟨wr.heap.size, 1, none⟩ = some (.int .i64 s) := (@block_cells _ _ 1 _ _ hb).trans rfl; go_simp) ?_
   simp only [Act.put, List.setIfInBounds_toArray, List.set]
   refine same_step (.int .u64 s) rfl rfl (fun e w1 hw1 => by go_simp) ?_
   simp only [Act.put, List.setIfInBounds_toArray, List.set]
   refine same_nil ?_
   refine forced_step rfl rfl (fun w1 hw1 => effAt_call' 54 #[.int .u64 n, .int .i64 4] (by go_simp) ((rlow_4 n (by omega) (by omega) w1).mono fun e w2 hc => ?_))
   obtain ⟨uu, rfl, hu, hgu⟩ := hc
   obtain ⟨A1, c1, rfl, hr1⟩ := hu.rowF
   rw [leB_len]
   refine ⟨_, rfl, fun w' => OwnN bE w.heap.size w' u3 (bs) ∧ RowF w' A1 c1 (leB n 4), ⟨⟨hw1.1.1.gr hgu, hw1.1.2.trans hgu⟩, hw1.2.gr hgu, hr1⟩, ?_⟩
   clear hgu hr1 hu hw1 w2 w1
   simp only [Act.put, List.setIfInBounds_toArray, List.set]
   refine forced_step rfl rfl (fun w1 hw1 => effAt_append_x bIs _ _ rfl rfl hw1.2.1 A1 (leB n 4) 4 c1 (leB_len _ _) rfl hw1.2.2.nn hw1.2.2.row (by have := HBLn.out; simp only [List.length_append, leB_len]; omega) hw1.1.2.below.size ?_)
   intro v5 W2 h2
   refine ⟨fun w' => OwnN bE w.heap.size w' v5 (bs ++ leB n 4), ⟨⟨h2.keep _ _ _ hw1.1.1 (by decide), Gr.trans_below hw1.1.2 h2.below⟩, h2.own⟩, ?_⟩
   clear h2 hw1 W2 w1
   simp only [Act.put, List.setIfInBounds_toArray, List.set]
   refine forced_step rfl rfl (fun w1 hw1 => effAt_call' 54 #[.int .u64 s, .int .i64 4] (by go_simp) ((rlow_4 s (by omega) (by omega) w1).mono fun e w2 hc => ?_))
   obtain ⟨uu, rfl, hu, hgu⟩ := hc
   obtain ⟨A1, c1, rfl, hr1⟩ := hu.rowF
   rw [leB_len]
   refine ⟨_, rfl, fun w' => OwnN bE w.heap.size w' v5 (bs ++ leB n 4) ∧ RowF w' A1 c1 (leB s 4), ⟨⟨hw1.1.1.gr hgu, hw1.1.2.trans hgu⟩, hw1.2.gr hgu, hr1⟩, ?_⟩
   clear hgu hr1 hu hw1 w2 w1
   simp only [Act.put, List.setIfInBounds_toArray, List.set]
   refine forced_step rfl rfl (fun w1 hw1 => effAt_append_x bIs _ _ rfl rfl hw1.2.1 A1 (leB s 4) 4 c1 (leB_len _ _) rfl hw1.2.2.nn hw1.2.2.row (by have := HBLn.out; simp only [List.length_append, leB_len]; omega) hw1.1.2.below.size ?_)
   intro v6 W2 h2
   refine ⟨fun w' => OwnN bE w.heap.size w' v6 (bs ++ leB n 4 ++ leB s 4), ⟨⟨h2.keep _ _ _ hw1.1.1 (by decide), Gr.trans_below hw1.1.2 h2.below⟩, h2.own⟩, ?_⟩
   clear h2 hw1 W2 w1
   simp only [Act.put, List.setIfInBounds_toArray, List.set]
   refine forced_same v6 rfl rfl (fun w1 hw1 => by go_simp) ?_
   simp only [Act.put, List.setIfInBounds_toArray, List.set]
   refine forced_nil ?_
   intro w5 hw5
   have HW5 := Lib.hid hw5
   clear hw5
   obtain ⟨T5, hT5⟩ : ∃ T, T = wr.heap.size := ⟨_, rfl⟩
   rw [← hT5] at HW5
   simp only [← hT5]
   haveI := HW5.out.1.1
   haveI := HW5.out.1.1.old
   haveI := grc_of HW5.out.1.2
   haveI := from_of HW5.out.1.2
   have x5 : w5.cell? ⟨T5, 2, none⟩ = some (.slice A3 m.length c3) := (@block_cells _ _ 2 _ _ HW5.out.1.1).trans rfl
   have HLM := Lib.hid (fun W => rlow_4 (m.length : Int) (by omega) (by omega) W)
   have HKY2 := Lib.hid HKY
   clear hT5 HKY
   go_wp2_with (first | (go_at_call 54; ((with_reducible refine (HLM.out _).mono ?_); rintro _ W6 ⟨v7, rfl, hv7, hg7⟩; obtain ⟨A7, c7, rfl, hr7⟩ := hv7.rowF; rw [leB_len]; haveI := grc_of hg7; haveI := from_of hg7; have HG7 := Lib.hid hg7; have HR7 := Lib.hid hr7; clear hg7 hr7 hv7)) | (at_builtin; refine wp_append_x bIs rfl _ _ rfl rfl (HW5.out.2.gr HG7.out) A7 (leB m.length 4) 4 c7 (leB_len _ _) rfl HR7.out.nn HR7.out.row (by have := HBLn.out; simp only [List.length_append, leB_len]; omega) (HW5.out.1.2.trans HG7.out).below.size ?_; intro v8 W8 h8; have H8 := Lib.hid h8; clear h8))
   obtain ⟨bs2, hbs2⟩ : ∃ b2, b2 = bs ++ leB n 4 ++ leB s 4 ++ leB m.length 4 := ⟨_, rfl⟩
   have HB2 := Lib.hid hbs2
   have HBL2 := Lib.hid (show bs2.length ≤ 20000000 from by rw [hbs2]; have := HBLn.out; simp only [List.length_append, leB_len]; omega)
   have HO8 := Lib.hid (hbs2 ▸ H8.out.own)
   have HG8 := Lib.hid (Gr.trans_below (HW5.out.1.2.trans HG7.out) H8.out.below)
   have HT8 := Lib.hid (H8.out.keep _ _ _ (HW5.out.1.1.gr HG7.out) (by decide))
   clear hbs2 H8 x5
   haveI := HT8.out
   haveI := HT8.out.old
   haveI := grc_of HG8.out
   haveI := from_of HG8.out
   go_loopw [3, 6] (fun v3 v6 wx => ∃ j : Nat, j ≤ m.length ∧ v6 = .int .i64 (j : Int) ∧ OwnN bE w.heap.size wx v3 (bs2 ++ bytesI (itsM (m.take j))) ∧ BlockAt wx T5 #[.int .u64 n, .int .i64 s, .slice A3 m.length c3] 64 ∧ Gr w wx) (fun _ v _ => m.length - (intOf v).toNat)
   case atStart => exact ⟨0, Nat.zero_le _, rfl, by simpa [bytesI, itsM] using HO8.out, HT8.out, HG8.out⟩
   case round =>
    obtain ⟨j, hj, rfl, ho, hb, hg⟩ := hrel
    haveI := grc_of hg
    haveI := from_of hg
    haveI := hb
    haveI := hb.old
    have HGx := Lib.hid hg
    have HOx := Lib.hid ho
    have HTx := Lib.hid hb
    have x5 : wr.cell? ⟨T5, 2, none⟩ = some (.slice A3 m.length c3) := (@block_cells _ _ 2 _ _ hb).trans rfl
    clear hg ho hb
    by_cases hjt : j < m.length
    ·obtain ⟨q, hq⟩ := Option.isSome_iff_exists.1 (show (m[j]?).isSome by simp; omega)
     obtain ⟨b, B⟩ := q
     have hqm := List.mem_of_getElem? hq
     have hBl : B.length = 256 := HVO.out.len _ hqm
     have hb0 : 0 ≤ b ∧ b < s := HVO.out.keys _ hqm
     have hwb : IntKind.u64.wrap b = b := by simp [IntKind.wrap, IntKind.bits, IntKind.signed]; omega
     have HMT := Lib.hid (itsM_take hq)
     have HHM : Hid (∃ mb mp, A3 = some ⟨mb, mp, none⟩ ∧ ∀ w1, Gr w w1 → mb < w1.heap.size ∧ CellsN rbE w1 mb mp m) := Lib.hid (by
      obtain ⟨mb, mp, cs, f, e1, h1, h2⟩ := hm6 (by intro e; rw [e] at hjt; simp at hjt)
      have hlt2 := (Array.getElem?_eq_some_iff.1 h1).1
      exact ⟨mb, mp, e1, fun w1 g1 => ⟨Nat.lt_of_lt_of_le hlt2 g1.below.size, h2.gr hlt2 g1⟩⟩)
     obtain ⟨mb, mp, rfl, hcm⟩ := HHM.out
     have HCM := Lib.hid hcm
     have HBLx := Lib.hid (show (bs2 ++ bytesI (itsM (m.take j))).length ≤ 50000000 from by
      have h1 := HBL2.out
      have h2 := bytesI_len (l := itsM (m.take j)) (fun x hx => by
       obtain ⟨q, hq, hx⟩ := List.mem_flatMap.1 hx
       have hq1 := HVO.out.keys q (List.mem_of_mem_take hq)
       have hq2 := HVO.out.len q (List.mem_of_mem_take hq)
       simp only [List.mem_cons, List.mem_nil_iff, or_false] at hx
       rcases hx with rfl | rfl
       ·simp only at hq1; exact ⟨by omega, by omega⟩
       ·exact hq2)
      rw [itsM_len] at h2
      have h3 := List.length_take_le j m
      rw [List.length_append]
      omega)
     obtain ⟨bx, hbx⟩ : ∃ bx, bx = bs2 ++ bytesI (itsM (m.take j)) := ⟨_, rfl⟩
     have HBX := Lib.hid hbx
     rw [← hbx] at HOx HBLx
     clear hbx hcm HHM hqm
     go_wp2
     refine wp_region_treeK (fun (e : World → Prop) w' => (BlockAt w' T5 #[.int .u64 n, .int .i64 s, .slice (some ⟨mb, mp, none⟩) m.length c3] 64 ∧ Gr w w') ∧ e w') (fun w' => OwnN bE w.heap.size w' u3 bx) ⟨⟨HTx.out.gr gri, gri⟩, HOx.out.gr gri⟩ [0, 1, 2, 3, 4, 5, 6, 7, 10, 11, 12, 13, 14, 15] [8, 9, 16, 17] (by kernel_rfl) (by kernel_rfl) ?_
     simp only [pick, List.drop, List.take, List.nil_append, List.cons_append]
     refine same_step (u3) rfl rfl (fun e w1 hw1 => by go_simp) ?_
     simp only [Act.put, List.setIfInBounds_toArray, List.set]
     refine same_step (.pointer (some ⟨T5, 2, none⟩)) rfl rfl (fun e w1 hw1 => by go_simp) ?_
     simp only [Act.put, List.setIfInBounds_toArray, List.set]
     refine same_step (.slice (some ⟨mb, mp, none⟩) m.length c3) rfl rfl (fun e w1 hw1 => by have x1 : w1.cell? ⟨T5, 2, none⟩ = some (.slice (some ⟨mb, mp, none⟩) m.length c3) := (@block_cells _ _ 2 _ _ hw1.1.1).trans rfl; go_simp) ?_
     simp only [Act.put, List.setIfInBounds_toArray, List.set]
     refine same_step (.int .i64 (j : Int)) rfl rfl (fun e w1 hw1 => by go_simp) ?_
     simp only [Act.put, List.setIfInBounds_toArray, List.set]
     refine same_step (.pointer (some ⟨mb, mp + j * 257, none⟩)) rfl rfl (fun e w1 hw1 => by go_simp) ?_
     simp only [Act.put, List.setIfInBounds_toArray, List.set]
     refine same_step (.pointer (some ⟨mb, mp + j * 257, none⟩)) rfl rfl (fun e w1 hw1 => by go_simp) ?_
     simp only [Act.put, List.setIfInBounds_toArray, List.set]
     refine same_step (.int .i64 b) rfl rfl (fun e w1 hw1 => by have x1 : w1.cell? ⟨mb, mp + j * 257, none⟩ = some (.int .i64 b) := (cells_blk (HCM.out w1 hw1.1.2).2 hq).1; go_simp) ?_
     simp only [Act.put, List.setIfInBounds_toArray, List.set]
     refine same_step (.int .u64 b) rfl rfl (fun e w1 hw1 => by go_simp) ?_
     simp only [Act.put, List.setIfInBounds_toArray, List.set]
     refine same_step (.pointer (some ⟨T5, 2, none⟩)) rfl rfl (fun e w1 hw1 => by go_simp) ?_
     simp only [Act.put, List.setIfInBounds_toArray, List.set]
     refine same_step (.slice (some ⟨mb, mp, none⟩) m.length c3) rfl rfl (fun e w1 hw1 => by have x1 : w1.cell? ⟨T5, 2, none⟩ = some (.slice (some ⟨mb, mp, none⟩) m.length c3) := (@block_cells _ _ 2 _ _ hw1.1.1).trans rfl; go_simp) ?_
     simp only [Act.put, List.setIfInBounds_toArray, List.set]
     refine same_step (.int .i64 (j : Int)) rfl rfl (fun e w1 hw1 => by go_simp) ?_
     simp only [Act.put, List.setIfInBounds_toArray, List.set]
     refine same_step (.pointer (some ⟨mb, mp + j * 257, none⟩)) rfl rfl (fun e w1 hw1 => by go_simp) ?_
     simp only [Act.put, List.setIfInBounds_toArray, List.set]
     refine same_step (.pointer (some ⟨mb, mp + j * 257 + 1, none⟩)) rfl rfl (fun e w1 hw1 => by go_simp) ?_
     simp only [Act.put, List.setIfInBounds_toArray, List.set]
     refine same_step (.slice (some ⟨mb, mp + j * 257 + 1, none⟩) 256 256) rfl rfl (fun e w1 hw1 => by go_simp) ?_
     simp only [Act.put, List.setIfInBounds_toArray, List.set]
     refine same_nil ?_
     refine forced_step rfl rfl (fun w1 hw1 => effAt_call' 54 #[.int .u64 b, .int .i64 4] (by go_simp) ((rlow_4 b (by omega) (by omega) w1).mono fun e w2 hc => ?_))
     obtain ⟨uu, rfl, hu, hgu⟩ := hc
     obtain ⟨A1, c1, rfl, hr1⟩ := hu.rowF
     rw [leB_len]
     refine ⟨_, rfl, fun w' => OwnN bE w.heap.size w' u3 bx ∧ RowF w' A1 c1 (leB b 4), ⟨⟨hw1.1.1.gr hgu, hw1.1.2.trans hgu⟩, hw1.2.gr hgu, hr1⟩, ?_⟩
     clear hgu hr1 hu hw1 w2 w1
     simp only [Act.put, List.setIfInBounds_toArray, List.set]
     refine forced_step rfl rfl (fun w1 hw1 => effAt_append_x bIs _ _ rfl rfl hw1.2.1 A1 (leB b 4) 4 c1 (leB_len _ _) rfl hw1.2.2.nn hw1.2.2.row (by have := HBLx.out; simp only [leB_len]; omega) hw1.1.2.below.size ?_)
     intro v5 W2 h2
     refine ⟨fun w' => OwnN bE w.heap.size w' v5 (bx ++ leB b 4), ⟨⟨h2.keep _ _ _ hw1.1.1 (by decide), Gr.trans_below hw1.1.2 h2.below⟩, h2.own⟩, ?_⟩
     clear h2 hw1 W2 w1
     simp only [Act.put, List.setIfInBounds_toArray, List.set]
     refine forced_step rfl rfl (fun w1 hw1 => effAt_append_x bIs _ _ rfl rfl hw1.2 (some ⟨mb, mp + j * 257 + 1, none⟩) B 256 256 hBl rfl (fun e => by cases e) ⟨fun _ _ => trivial, fun _ => ⟨mb, mp + j * 257 + 1, rfl, (HCM.out w1 hw1.1.2).1, cellsB (fun i x hi => by rw [← Go.WideShapes.add_plain]; exact (cells_blk (HCM.out w1 hw1.1.2).2 hq).2 i (bv x) (by rw [List.getElem?_map, hi]; rfl))⟩⟩ (by have := HBLx.out; simp only [List.length_append, leB_len]; omega) hw1.1.2.below.size ?_)
     intro v6 W2 h2
     refine ⟨fun w' => OwnN bE w.heap.size w' v6 (bx ++ leB b 4 ++ B), ⟨⟨h2.keep _ _ _ hw1.1.1 (by decide), Gr.trans_below hw1.1.2 h2.below⟩, h2.own⟩, ?_⟩
     clear h2 hw1 W2 w1
     simp only [Act.put, List.setIfInBounds_toArray, List.set]
     refine forced_same v6 rfl rfl (fun w1 hw1 => by go_simp) ?_
     simp only [Act.put, List.setIfInBounds_toArray, List.set]
     refine forced_nil ?_
     intro w9 hw9
     have HW9 := Lib.hid hw9
     clear hw9
     go_wp2
     go_roundw
     case rel => exact ⟨j + 1, hjt, by go_num, by rw [HMT.out, bytesI_app, ← List.append_assoc, ← HBX.out]; simpa [bytesI, It.bytes] using HW9.out.2, HW9.out.1.1, HW9.out.1.2⟩
     case measure => simp [intOf]; omega
    ·obtain rfl : j = m.length := by omega
     have HE := Lib.hid (show bs2 ++ bytesI (itsM (m.take m.length)) = bytesI (.num d.length :: (d.take (i + 1)).flatMap itsV) from by
      rw [List.take_length, HB2.out, HPT.out, HBs.out, ← List.cons_append, bytesI_app, itsV, bytesI_app]
      simp [bytesI, It.bytes])
     rw [HE.out] at HOx
     have hn40 := HN.out
     go_wp2
     go_roundw
     case rel => exact ⟨i + 1, hlt, by go_num, HOx.out, HGx.out⟩
     case measure => simp [intOf]; omega
  ·obtain rfl : i = d.length := by omega
   have HE := Lib.hid (show bytesI (.num d.length :: (d.take d.length).flatMap itsV) = bytesK d from by rw [List.take_length]; rfl)
   rw [HE.out] at HO
   go_wp2
   go_ret
   exact ⟨_, rfl, HO.out, HG2.out⟩
set_option maxRecDepth 100000
set_option maxHeartbeats 4000000
theorem strCellsT {W : World} {b p : Nat} {l : List Str} {k : Nat} {x : Str} (h : CellsN strE W b p l) (hx : l[k]? = some x) :
  W.cell? ⟨b, p + k * 3, none⟩ = some (.int .i64 x.1) ∧ W.cell? ⟨b, p + k * 3 + 1, none⟩ = some (.int .i64 x.2.1) ∧ W.cell? ⟨b, p + k * 3 + 2, none⟩ = some (.int .i64 x.2.2) :=
 ⟨h k x hx 0 _ rfl, h k x hx 1 _ rfl, h k x hx 2 _ rfl⟩
theorem turned_any (l : List Str) (n : Nat) (hn : l.length = n) (hn9 : n ≤ 1000) (A : Option Addr) (c : Nat) (w : World) (hr : RowN strE w A l) :
  Calls Tryz.prog 18 #[.slice A n c] w fun e w' => ∃ v, e = .returned v ∧ OwnN strE w.heap.size w' v (l.map turnK) ∧ Gr w w' := by
 have HR := Lib.hid hr
 have HN := Lib.hid hn
 clear hr hn
 go_enter Tryz.func18, Tryz.ntmps18
 go_wp2
 go_loopw [3, 4] (fun v i wr => ∃ k : Nat, k ≤ n ∧ i = .int .i64 (k : Int) ∧ OwnN strE w.heap.size wr v ((l.take k).map turnK) ∧ Gr w wr) (fun _ i _ => n - (intOf i).toNat)
 case atStart => exact ⟨0, Nat.zero_le _, rfl, OwnN.nil _ _, gri⟩
 case round =>
  obtain ⟨k, hk, rfl, ho, hg⟩ := hrel
  haveI := grc_of hg
  haveI := from_of hg
  have HO := Lib.hid ho
  have HG := Lib.hid hg
  clear ho hg
  by_cases hlt : k < n
  ·obtain ⟨⟨x1, x2, x3⟩, hx⟩ : ∃ x, l[k]? = some x := ⟨_, List.getElem?_eq_getElem (by rw [HN.out]; exact hlt)⟩
   obtain ⟨b, p, rfl, hb, hcl⟩ := (HR.out.gr HG.out).at_ (by rintro rfl; have := HN.out; simp at this; omega)
   obtain ⟨c0, c1, c2⟩ := strCellsT hcl hx
   simp only at c0 c1 c2
   haveI : Old b wr := ⟨hb⟩
   have hT : (l.take (k + 1)).map turnK = (l.take k).map turnK ++ [turnK (x1, x2, x3)] := by rw [List.take_add_one, hx, List.map_append]; rfl
   have hlk : (l.take k).length = k := by rw [List.length_take, HN.out]; omega
   have HT := Lib.hid hT
   clear hcl hx hT
   by_cases h5 : x3 = 5
   ·have e5 : (x3 == 5) = true := by simp [h5]
    have HE := Lib.hid (show turnK (x1, x2, x3) = (x1, x2, 6) from by simp [turnK, swK, h5])
    go_wp2_with (first | (at_builtin; refine wp_append_n strIs rfl _ _ rfl rfl (HO.out.gr gri) _ 0 [(x1, x2, 6)] 1 1 rfl rfl (fun _ _ => trivial) (CellsN.block _ inferInstance rfl) (by simp; omega) past (by simp) ?_; intro v1 W1 h1; have H1 := Lib.hid h1; clear h1))
    go_roundw
    case rel => exact ⟨k + 1, hlt, by go_num, by rw [HT.out, HE.out]; exact H1.out.own, by haveI := H1.out.grc w (Nat.le_refl _); exact gri⟩
    case measure => simp [intOf] <;> omega
   ·have e5 : (x3 == 5) = false := by simp [h5]
    by_cases h6 : x3 = 6
    ·have e6 : (x3 == 6) = true := by simp [h6]
     have HE := Lib.hid (show turnK (x1, x2, x3) = (x1, x2, 5) from by simp [turnK, swK, h6])
     go_wp2_with (first | (at_builtin; refine wp_append_n strIs rfl _ _ rfl rfl (HO.out.gr gri) _ 0 [(x1, x2, 5)] 1 1 rfl rfl (fun _ _ => trivial) (CellsN.block _ inferInstance rfl) (by simp; omega) past (by simp) ?_; intro v1 W1 h1; have H1 := Lib.hid h1; clear h1))
     go_roundw
     case rel => exact ⟨k + 1, hlt, by go_num, by rw [HT.out, HE.out]; exact H1.out.own, by haveI := H1.out.grc w (Nat.le_refl _); exact gri⟩
     case measure => simp [intOf] <;> omega
    ·have e6 : (x3 == 6) = false := by simp [h6]
     have HE := Lib.hid (show turnK (x1, x2, x3) = (x1, x2, x3) from by simp [turnK, swK, h5, h6])
     go_wp2_with (first | (at_builtin; refine wp_append_n strIs rfl _ _ rfl rfl (HO.out.gr gri) _ 0 [(x1, x2, x3)] 1 1 rfl rfl (fun _ _ => trivial) (CellsN.block _ inferInstance rfl) (by simp; omega) past (by simp) ?_; intro v1 W1 h1; have H1 := Lib.hid h1; clear h1))
     go_roundw
     case rel => exact ⟨k + 1, hlt, by go_num, by rw [HT.out, HE.out]; exact H1.out.own, by haveI := H1.out.grc w (Nat.le_refl _); exact gri⟩
     case measure => simp [intOf] <;> omega
  ·have : k = n := by omega
   subst this
   have HE := Lib.hid (show (l.take k).map turnK = l.map turnK from by rw [List.take_of_length_le (by rw [HN.out]; omega)])
   go_wp2
   go_ret
   exact ⟨_, rfl, by rw [← HE.out]; exact HO.out.gr gri, HG.out.trans gri⟩
set_option maxRecDepth 100000
set_option maxHeartbeats 4000000
def sumS (l : List Str) : Int := (l.map (·.2.1)).sum
theorem wholeK_at : ∀ (l : List Str) (a : Int) (last : Option Int), wholeK a last l = true → ∀ (k : Nat) (x : Str), l[k]? = some x → x.1 = a + sumS (l.take k) ∧ 1 ≤ x.2.1 ∧ (∀ j y, k = j + 1 → l[j]? = some y → y.2.2 ≠ x.2.2)
 | [], _, _, _, k, x, h => by simp at h
 | z :: l, a, last, hw, k, x, h => by
  simp only [wholeK, Bool.and_eq_true, beq_iff_eq, decide_eq_true_eq] at hw
  obtain ⟨⟨⟨h1, h2⟩, h3⟩, h4⟩ := hw
  cases k with
  | zero =>
   simp only [List.getElem?_cons_zero, Option.some.injEq] at h
   subst h
   exact ⟨by simp [sumS, h1], h2, fun j y e => by omega⟩
  | succ k =>
   rw [List.getElem?_cons_succ] at h
   obtain ⟨i1, i2, i3⟩ := wholeK_at l _ _ h4 k x h
   refine ⟨by rw [i1]; simp [sumS, Int.add_assoc], i2, fun j y e hy => ?_⟩
   obtain rfl : j = k := by omega
   cases j with
   | zero =>
    simp only [List.getElem?_cons_zero, Option.some.injEq] at hy
    subst hy
    cases l with
    | nil => simp at h
    | cons q l =>
     simp only [List.getElem?_cons_zero, Option.some.injEq] at h
     subst h
     simp only [wholeK, Bool.and_eq_true] at h4
     have := h4.1.2
     intro e2
     rw [e2] at this
     simp at this
   | succ j =>
    rw [List.getElem?_cons_succ] at hy
    exact i3 j y rfl hy
theorem sumS_take (l : List Str) (h : ∀ x ∈ l, 0 ≤ x.2.1) (k : Nat) : 0 ≤ sumS (l.take k) ∧ sumS (l.take k) ≤ sumS l := by
 induction l generalizing k with
 | nil => simp [sumS]
 | cons x l ih =>
  have hx := h x List.mem_cons_self
  cases k with
  | zero =>
   have := (ih (fun y hy => h y (List.mem_cons_of_mem _ hy)) 0).2
   simp [sumS] at this ⊢
   omega
  | succ k =>
   have := ih (fun y hy => h y (List.mem_cons_of_mem _ hy)) k
   simp [sumS] at this ⊢
   omega
theorem sumS_succ {l : List Str} {k : Nat} {x : Str} (h : l[k]? = some x) : sumS (l.take (k + 1)) = sumS (l.take k) + x.2.1 := by
 unfold sumS
 rw [List.take_add_one, h]
 simp
theorem whole_any (l : List Str) (n : Nat) (hn : l.length = n) (hn9 : n ≤ 1000) (A : Option Addr) (c : Nat) (hw : wholeK 0 none l = true) (hs : sumS l ≤ 1000000) (w : World) (hr : RowN strE w A l) :
  Calls Tryz.prog 19 #[.slice A n c] w fun e w' => e = .returned (.bool true) ∧ Gr w w' := by
 have HAT := Lib.hid (wholeK_at l 0 none hw)
 have HST := Lib.hid (sumS_take l (fun x hx => by
  obtain ⟨k, hk⟩ := List.getElem?_of_mem hx
  have := (HAT.out k x hk).2.1
  omega))
 have HR := Lib.hid hr
 have HN := Lib.hid hn
 have HS := Lib.hid hs
 clear hr hn hs hw
 go_enter Tryz.func19, Tryz.ntmps19
 go_wp2
 go_loopw [3, 4] (fun v i wr => ∃ k : Nat, k ≤ n ∧ i = .int .i64 (k : Int) ∧ v = .int .i64 (sumS (l.take k)) ∧ Gr w wr) (fun _ i _ => n - (intOf i).toNat)
 case atStart => exact ⟨0, Nat.zero_le _, rfl, rfl, gri⟩
 case round =>
  obtain ⟨k, hk, rfl, rfl, hg⟩ := hrel
  haveI := grc_of hg
  haveI := from_of hg
  have HG := Lib.hid hg
  clear hg
  by_cases hlt : k < n
  ·obtain ⟨x, hx⟩ : ∃ x, l[k]? = some x := ⟨_, List.getElem?_eq_getElem (by rw [HN.out]; exact hlt)⟩
   obtain ⟨b, p, rfl, hb, hcl⟩ := (HR.out.gr HG.out).at_ (by rintro rfl; have := HN.out; simp at this; omega)
   obtain ⟨c0, c1, c2⟩ := strCellsT hcl hx
   obtain ⟨e1, e2, e3⟩ := HAT.out k x hx
   have hsum := HST.out k
   have hsum2 := HST.out (k + 1)
   have hss := sumS_succ hx
   have hsl := HS.out
   rw [hss] at hsum2
   have HSS := Lib.hid hss
   clear hss
   obtain ⟨x1, x2, x3⟩ := x
   simp only at c0 c1 c2 e1 e2 e3 hsum2 HSS
   rw [Int.zero_add] at e1
   subst e1
   obtain ⟨sm, hsm⟩ : ∃ sm, sm = sumS (l.take k) := ⟨_, rfl⟩
   rw [← hsm] at c0 hsum hsum2 HSS ⊢
   clear hsm
   haveI : Old b wr := ⟨hb⟩
   have q1 : (sm != sm) = false := by simp
   have q2 : decide (x2 < 1) = false := by simp; omega
   have q3 : wrap64 (sm + x2) = sm + x2 := by unfold wrap64; omega
   cases k with
   | zero =>
    rw [Nat.zero_mul, Nat.add_zero] at c0 c1 c2
    clear e3 hcl hx hsl
    go_wp2
    refine wp_region_grow (by kernel_rfl) (by kernel_rfl) ?_
    repeat (go_big_quiet_step (fail))
    refine wpQuiet_nil ?_
    intro g3
    have d1 : (grown wr g3).cell? ⟨b, p + 1, none⟩ = some (.int .i64 x2) := ((grown_below wr g3).cell (p := ⟨b, p + 1, none⟩) hb).trans c1
    go_wp2
    go_roundw
    case rel => exact ⟨0 + 1, hlt, by go_num, by rw [HSS.out, q3], HG.out.trans gri⟩
    case measure => simp [intOf]; omega
   | succ k =>
    obtain ⟨y, hy⟩ : ∃ y, l[k]? = some y := ⟨_, List.getElem?_eq_getElem (by rw [HN.out]; omega)⟩
    have hne := e3 k y rfl hy
    obtain ⟨-, -, c3⟩ := strCellsT hcl hy
    obtain ⟨y1, y2, y3⟩ := y
    simp only at c3 hne
    have q4 : (x3 == y3) = false := by simp; omega
    clear e3 hcl hx hy hsl
    go_wp2
    refine wp_region_grow (by kernel_rfl) (by kernel_rfl) ?_
    repeat (go_big_quiet_step (fail))
    refine wpQuiet_nil ?_
    intro g3
    have d1 : (grown wr g3).cell? ⟨b, p + (k + 1) * 3 + 1, none⟩ = some (.int .i64 x2) := ((grown_below wr g3).cell (p := ⟨b, p + (k + 1) * 3 + 1, none⟩) hb).trans c1
    go_wp2
    go_roundw
    case rel => exact ⟨(k + 1) + 1, hlt, by go_num, by rw [HSS.out, q3], HG.out.trans gri⟩
    case measure => simp [intOf]; omega
  ·obtain rfl : k = n := by omega
   go_wp2
   go_ret
   exact ⟨rfl, HG.out⟩
end Go.Proofs.YtipeblmgochdfaaGreat
namespace Go.Proofs.YtipeblmgochdfaaGreat
open Go.RowKit Go.ChangeShapes Go.WideShapes
set_option linter.unusedVariables false
set_option linter.unusedSimpArgs false
set_option linter.unnecessarySimpa false
structure OpCa (W : World) (x : OpC) : Prop where
 len : x.o.l.length = x.n
 cap : x.n ≤ x.q
 big : x.n ≤ 9223372036854775807
 row : Row bv W x.D x.o.l
 v0 : 0 ≤ x.o.v
 t0 : 0 ≤ x.o.t
theorem OpCa.ok {W : World} {x : OpC} (h : OpCa W x) (hn : x.n ≤ 9000) : OpOk W x := ⟨h.len, h.cap, by omega, h.row, h.v0, h.t0⟩
theorem u64_wf9 {z : Int} (h : (Lit.int .u64 z).wf = true) : 0 ≤ z ∧ z ≤ 18446744073709551615 := by
 simp [Lit.wf, IntKind.min, IntKind.max, IntKind.bits, IntKind.signed] at h
 omega
theorem got9 {α : Type} {l : List α} {n : Nat} (h : l.length = n) (i : Nat) (hi : i < n) : ∃ y, l[i]? = some y := ⟨l[i]'(by rw [h]; exact hi), List.getElem?_eq_getElem _⟩
theorem u8_of9 {z : Int} (h : (Lit.int .u8 z).wf = true) : bv (UInt8.ofNat z.toNat) = .int .u8 z := by
 simp [Lit.wf, IntKind.min, IntKind.max, IntKind.bits, IntKind.signed] at h
 unfold bv
 have e : (UInt8.ofNat z.toNat).toNat = z.toNat := by rw [UInt8.toNat_ofNat', Nat.mod_eq_of_lt (by omega)]
 rw [e, Int.toNat_of_nonneg (by omega)]
section
variable {H : Type} {enc : TypeId × Value → H}
set_option maxRecDepth 100000 in
theorem bytes_trod {W : World} {fuel : Nat} {c : Value} {x : DataW H × List MemPlace} (h : DataW.trod enc Tryz.prog W 0 (fun _ => true) true fuel 41 [c] = some x) : ∃ (D : Option Addr) (q : Nat) (l : List UInt8), c = .slice D l.length q ∧ l.length ≤ q ∧ q ≤ maxLen ∧ Row bv W D l := by
 rcases open_ints Tryz.underlying41 Tryz.underlying5 (by kernel_rfl) h with ⟨h0, _⟩ | ⟨a, len, cap, zs, h0, _, hl, hm, hz, _, hcell, hw⟩
 ·obtain rfl : c = .slice none 0 0 := by simpa using h0
  exact ⟨none, 0, [], rfl, Nat.le_refl _, Nat.zero_le _, Row.nil⟩
 ·obtain rfl : c = .slice (some a) len cap := by simpa using h0
  rw [if_pos rfl] at hz
  have hlen : ((zs.take len).map fun z => UInt8.ofNat z.toNat).length = len := by rw [List.length_map, List.length_take]; omega
  refine ⟨some a, cap, (zs.take len).map fun z => UInt8.ofNat z.toNat, by rw [hlen], by rw [hlen]; exact hl, hm, ⟨fun hne => ?_⟩⟩
  have hpos : 0 < len := by
   rcases Nat.eq_zero_or_pos len with h | h
   ·subst h; simp at hne
   ·exact h
  obtain ⟨b, o, sp⟩ := a
  have h1 := hcell 0 (by omega)
  have hsp : sp = none := by
   cases sp with
   | none => rfl
   | some y => simp [Addr.add, World.cell?] at h1; split at h1 <;> simp at h1
  subst hsp
  have hadd : ∀ i, (⟨b, o, none⟩ : Addr).add i = ⟨b, o + i, none⟩ := fun i => by unfold Addr.add; split <;> simp_all
  refine ⟨b, o, rfl, ?_, fun j y hj => ?_⟩
  ·rcases Nat.lt_or_ge b W.heap.size with h | h
   ·exact h
   ·rw [hadd] at h1
    simp [World.cell?, Array.getElem?_eq_none h] at h1
  ·rw [List.getElem?_map] at hj
   have hjl : j < len := by
    rcases Nat.lt_or_ge j len with h | h
    ·exact h
    ·rw [List.getElem?_eq_none (by rw [List.length_take]; omega)] at hj; simp at hj
   rw [List.getElem?_take, if_pos hjl, List.getElem?_eq_getElem (by omega)] at hj
   simp only [Option.map_some, Option.some.injEq] at hj
   subst hj
   have h2 := hcell j (by omega)
   rw [hadd] at h2
   rw [h2, List.getD_eq_getElem?_getD, List.getElem?_eq_getElem (by omega)]
   simp only [Option.getD_some]
   rw [u8_of9 (hw _ (List.getElem_mem _))]
set_option maxRecDepth 100000 in
theorem op_trod9 {W : World} {cs : List Value} {fuel : Nat} {x : DataW H × List MemPlace} (hl : cs.length = 7)
  (h : DataW.trod enc Tryz.prog W 0 (fun _ => true) true fuel 43 cs = some x) : ∃ z : OpC, cs = opE.cs z ∧ OpCa W z := by
 match cs, hl with
 | [c0, c1, c2, c3, c4, c5, c6], _ =>
  obtain ⟨xs, n0, _, _, _, hlen, hf⟩ := DataW.trod_struct Tryz.underlying43 h
  have hlen : xs.length = 7 := hlen
  obtain ⟨y0, e0⟩ := got9 hlen 0 (by decide)
  obtain ⟨y1, e1⟩ := got9 hlen 1 (by decide)
  obtain ⟨y2, e2⟩ := got9 hlen 2 (by decide)
  obtain ⟨y3, e3⟩ := got9 hlen 3 (by decide)
  obtain ⟨y4, e4⟩ := got9 hlen 4 (by decide)
  obtain ⟨y5, e5⟩ := got9 hlen 5 (by decide)
  obtain ⟨y6, e6⟩ := got9 hlen 6 (by decide)
  have h0 := hf 0 _ rfl; have h1 := hf 1 _ rfl; have h2 := hf 2 _ rfl; have h3 := hf 3 _ rfl; have h4 := hf 4 _ rfl; have h5 := hf 5 _ rfl; have h6 := hf 6 _ rfl
  rw [e0] at h0; rw [e1] at h1; rw [e2] at h2; rw [e3] at h3; rw [e4] at h4; rw [e5] at h5; rw [e6] at h6
  obtain ⟨k, q0, _, w0⟩ := DataW.trod_int Tryz.underlying40 h0
  obtain ⟨v, q1, _, w1⟩ := DataW.trod_int Tryz.underlying28 h1
  obtain ⟨t, q2, _, w2⟩ := DataW.trod_int Tryz.underlying28 h2
  obtain ⟨s, q3, _, w3⟩ := DataW.trod_int Tryz.underlying3 h3
  obtain ⟨a, q4, _, w4⟩ := DataW.trod_int Tryz.underlying3 h4
  obtain ⟨c, q5, _, w5⟩ := DataW.trod_int Tryz.underlying3 h5
  obtain ⟨D, q, l, rfl, hq, hm, hr⟩ := bytes_trod (c := c6) h6
  obtain rfl : c0 = .int .i64 k := List.head_eq_of_cons_eq q0
  obtain rfl : c1 = .int .u64 v := List.head_eq_of_cons_eq q1
  obtain rfl : c2 = .int .u64 t := List.head_eq_of_cons_eq q2
  obtain rfl : c3 = .int .i64 s := List.head_eq_of_cons_eq q3
  obtain rfl : c4 = .int .i64 a := List.head_eq_of_cons_eq q4
  obtain rfl : c5 = .int .i64 c := List.head_eq_of_cons_eq q5
  unfold maxLen at hm
  exact ⟨⟨⟨k, v, t, s, a, c, l⟩, D, l.length, q⟩, rfl, ⟨rfl, hq, by show l.length ≤ _; omega, hr, (u64_wf9 w1).1, (u64_wf9 w2).1⟩⟩
structure CameO (W : World) (A : Option Addr) (n q : Nat) (l : List OpC) : Prop where
 len : l.length = n
 cap : n ≤ q
 big : n ≤ 9223372036854775807
 nil : A = none → q = 0
 row : RowN opE W A l
 each : ∀ x ∈ l, OpCa W x
set_option maxRecDepth 100000 in
theorem ops_trod9 {W : World} {c : Value} {fuel : Nat} {x : DataW H × List MemPlace} (h : DataW.trod enc Tryz.prog W 0 (fun _ => true) true fuel 31 [c] = some x) : ∃ A n q l, c = .slice A n q ∧ CameO W A n q l := by
 rcases DataW.trod_slice Tryz.underlying31 h with ⟨h0, _⟩ | ⟨ad, len, cap, elems, rest, n0, _, h0, _, _, hlc, hcm, hel, hget, _, _⟩
 ·obtain rfl : c = .slice none 0 0 := List.head_eq_of_cons_eq h0
  exact ⟨none, 0, 0, [], rfl, rfl, Nat.le_refl _, Nat.zero_le _, fun _ => rfl, RowN.nil, by simp⟩
 ·obtain rfl : c = .slice (some ad) len cap := List.head_eq_of_cons_eq h0
  have hco : Tryz.prog.cellsOf 43 = 7 := by kernel_rfl
  rw [hco] at hget
  have hone : ∀ i, i < len → ∃ cs, W.cells? 0 (ad.add (i * 7)) 7 = some cs ∧ ∃ z, cs = opE.cs z ∧ OpCa W z := fun i hi => by
   obtain ⟨y, hy⟩ := got9 hel i hi
   have h1 := hget i hi
   rw [hy] at h1
   obtain ⟨cs, hcs, ht⟩ := Option.bind_eq_some_iff.1 h1
   obtain ⟨_, hlen, _⟩ := World.cells?_some hcs
   exact ⟨cs, hcs, op_trod9 hlen ht⟩
  have hsp : 0 < len → ∃ b o, ad = ⟨b, o, none⟩ ∧ b < W.heap.size := fun hpos => by
   obtain ⟨cs, hcs, _⟩ := hone 0 hpos
   obtain ⟨_, hlen, hc⟩ := World.cells?_some hcs
   have hlt := World.cells?_block hcs (by decide)
   obtain ⟨b, o, sp⟩ := ad
   obtain ⟨c0, hc0⟩ := got9 hlen 0 (by decide)
   have g0 := hc 0 (by decide)
   rw [hc0] at g0
   have hspot : sp = none := by simpa [Addr.add] using World.cell?_spot g0
   subst hspot
   rw [Go.ChangeShapes.block_add] at hlt
   exact ⟨b, o, rfl, hlt⟩
  have hex : ∃ f : Nat → OpC, ∀ i, i < len → W.cells? 0 (ad.add (i * 7)) 7 = some (opE.cs (f i)) ∧ OpCa W (f i) := by
   refine ⟨fun i => if h : i < len then Classical.choose (Classical.choose_spec (hone i h)).2 else ⟨⟨0, 0, 0, 0, 0, 0, []⟩, none, 0, 0⟩, fun i hi => ?_⟩
   simp only [dif_pos hi]
   have h1 := (Classical.choose_spec (hone i hi)).1
   have h2 := Classical.choose_spec (Classical.choose_spec (hone i hi)).2
   rw [h2.1] at h1
   exact ⟨h1, h2.2⟩
  obtain ⟨f, hf⟩ := hex
  refine ⟨some ad, len, cap, (List.range len).map f, rfl, by simp, hlc, by unfold maxLen at hcm; omega, fun h => by (cases h), ⟨fun _ _ => trivial, fun hne => ?_⟩, fun x hx => ?_⟩
  ·have hpos : 0 < len := by
    rcases Nat.eq_zero_or_pos len with h | h
    ·subst h; simp at hne
    ·exact h
   obtain ⟨b, o, rfl, hlt⟩ := hsp hpos
   refine ⟨b, o, rfl, hlt, fun j a hj i u hu => ?_⟩
   have hjl : j < len := by
    have := (List.getElem?_eq_some_iff.1 hj).1
    simpa using this
   rw [List.getElem?_map, List.getElem?_range hjl] at hj
   simp only [Option.map_some, Option.some.injEq] at hj
   subst hj
   obtain ⟨_, hlen, hc⟩ := World.cells?_some (hf j hjl).1
   have hi : i < 7 := by
    have := (List.getElem?_eq_some_iff.1 hu).1
    rwa [hlen] at this
   have h1 := hc i hi
   rw [add_plain, add_plain] at h1
   exact h1.trans hu
  ·obtain ⟨j, hj, rfl⟩ := List.mem_map.1 hx
   exact (hf j (List.mem_range.1 hj)).2
set_option maxRecDepth 100000 in
theorem open_ops {W : World} {base : Nat} {v : Value} {d : DataW H} {p : List MemPlace} (hv : Value.okWide Tryz.prog W .any base 31 v) (h : DataW.Trod enc Tryz.prog W 0 (fun _ => true) true 31 v d p) :
  ∃ A n q l, v = .slice A n q ∧ CameO W A n q l := by
 simp only [Value.okWide, Tryz.underlying31, Cell.okWide] at hv
 obtain ⟨fuel, hd⟩ := h
 have hv2 : v.cells.toList = [v] := by cases v <;> simp_all [Cell.ok, Value.cells]
 rw [hv2] at hd
 exact ops_trod9 hd
end
def muchK (l : List OpC) (most : Nat) : Bool := ((l.take (most + 1)).any fun x => decide (9000 < x.n)) || decide (most < l.length)
theorem muchK_no {l : List OpC} {most : Nat} (h : muchK l most = false) : l.length ≤ most ∧ ∀ x ∈ l, x.n ≤ 9000 := by
 unfold muchK at h
 rw [Bool.or_eq_false_iff] at h
 have hl : l.length ≤ most := by have := h.2; simpa using this
 refine ⟨hl, fun x hx => ?_⟩
 have h1 := h.1
 rw [List.take_of_length_le (by omega), List.any_eq_false] at h1
 have := h1 x hx
 simpa using this
set_option maxRecDepth 100000 in
set_option maxHeartbeats 4000000 in
theorem lmuch_any (l : List OpC) (n : Nat) (hn : l.length = n) (most : Nat) (hm : most ≤ 1000) (A : Option Addr) (c : Nat) (w : World) (hr : RowN opE w A l) :
  Calls Tryz.prog 14 #[.slice A n c, .int .i64 (most : Int)] w fun e w' => e = .returned (.bool (muchK l most)) ∧ Gr w w' := by
 have HR := Lib.hid hr
 have HN := Lib.hid hn
 obtain ⟨r, hrr⟩ : ∃ r, r = muchK l most := ⟨_, rfl⟩
 rw [← hrr]
 have HRR := Lib.hid hrr
 clear hr hn hrr
 go_enter Tryz.func14, Tryz.ntmps14
 go_wp2
 go_loopw [5] (fun i wr => ∃ k : Nat, k ≤ n ∧ k ≤ most + 1 ∧ i = .int .i64 (k : Int) ∧ ((l.take k).any fun x => decide (9000 < x.n)) = false ∧ Gr w wr) (fun i _ => n - (intOf i).toNat)
 case atStart => exact ⟨0, Nat.zero_le _, Nat.zero_le _, rfl, rfl, gri⟩
 case round =>
  obtain ⟨k, hk, hk2, rfl, hno, hg⟩ := hrel
  haveI := grc_of hg
  haveI := from_of hg
  have HNO := Lib.hid hno
  have HG := Lib.hid hg
  clear hg hno
  by_cases hlt : k < n
  ·by_cases hle : k ≤ most
   ·obtain ⟨x, hx⟩ : ∃ x, l[k]? = some x := ⟨_, List.getElem?_eq_getElem (by rw [HN.out]; exact hlt)⟩
    obtain ⟨b, p, rfl, hb, hcl⟩ := (HR.out.gr HG.out).at_ (by rintro rfl; have := HN.out; simp at this; omega)
    obtain ⟨c0, c1, c2, c3, c4, c5, c6⟩ := opCells hcl hx
    haveI : Old b wr := ⟨hb⟩
    have HX := Lib.hid hx
    have HM := Lib.hid (fun W => much13_any x.o.k x.o.v x.o.t x.o.s x.o.a x.o.c x.D x.n x.q W)
    have hT : l.take (k + 1) = l.take k ++ [x] := by rw [List.take_add_one, hx]; rfl
    have HT := Lib.hid hT
    clear hcl hx hT
    by_cases hbig : 9000 < x.n
    ·have HE := Lib.hid (show r = true from by
      rw [HRR.out, muchK, Bool.or_eq_true]
      left
      rw [List.any_eq_true]
      exact ⟨x, List.mem_of_getElem? (i := k) (by rw [List.getElem?_take, if_pos (by omega)]; exact HX.out), by simpa using hbig⟩)
     rw [decide_eq_true hbig] at HM
     clear hbig
     go_wp2_with ((go_at_call 45; ((with_reducible refine (HM.out _).mono ?_); rintro _ _ ⟨rfl, g, rfl⟩)))
     go_ret
     exact ⟨by rw [HE.out]; rfl, gri⟩
    ·rw [decide_eq_false hbig] at HM
     have HE := Lib.hid (show ((l.take (k + 1)).any fun x => decide (9000 < x.n)) = false from by
      rw [HT.out, List.any_append, HNO.out]
      simp [decide_eq_false hbig])
     clear hbig
     go_wp2_with ((go_at_call 45; ((with_reducible refine (HM.out _).mono ?_); rintro _ _ ⟨rfl, g, rfl⟩)))
     go_roundw
     case rel => exact ⟨k + 1, hlt, by omega, by go_num, HE.out, gri⟩
     case measure => simp [intOf]; omega
   ·have HE := Lib.hid (show r = true from by
     rw [HRR.out, muchK, Bool.or_eq_true]
     right
     rw [HN.out]
     simp
     omega)
    have h9 : (most : Int) < (n : Int) := by omega
    go_wp2
    go_ret
    exact ⟨by rw [HE.out]; simp [h9], gri⟩
  ·have : k = n := by omega
   subst this
   by_cases hle : k ≤ most
   ·have HE := Lib.hid (show r = false from by
     rw [HRR.out, muchK, Bool.or_eq_false_iff]
     have h1 := HNO.out
     rw [List.take_of_length_le (by rw [HN.out]; omega)] at h1
     refine ⟨by rw [List.take_of_length_le (by rw [HN.out]; omega)]; exact h1, ?_⟩
     rw [HN.out]
     simp
     omega)
    have h9 : ¬ (most : Int) < (k : Int) := by omega
    go_wp2
    go_ret
    exact ⟨by rw [HE.out]; simp [h9], gri⟩
   ·have HE := Lib.hid (show r = true from by
     rw [HRR.out, muchK, Bool.or_eq_true]
     right
     rw [HN.out]
     simp
     omega)
    have h9 : (most : Int) < (k : Int) := by omega
    go_wp2
    go_ret
    exact ⟨by rw [HE.out]; simp [h9], gri⟩
end Go.Proofs.YtipeblmgochdfaaGreat
namespace Go.Proofs.YtipeblmgochdfaaGreat
open Go.RowKit
set_option linter.unusedVariables false
set_option linter.unusedSimpArgs false
set_option linter.unnecessarySimpa false
set_option maxRecDepth 100000
set_option maxHeartbeats 4000000
theorem CellsN.rows {α : Type} {e : EK α} (he : e.Is) {W : World} {B : Nat} {cs : Array Value} {t : TypeId} (xs : List α) (hok : ∀ x ∈ xs, e.ok x) (h : BlockAt W B cs t) (hc : cs.toList = xs.flatMap e.cs) : CellsN e W B 0 xs := fun j x hj i u hu => by
 have := flatN_at he xs hok j i x u hj hu
 rw [Nat.zero_add, block_cells W B _ cs t, ← Array.getElem?_toList, hc]
 exact this
theorem known_block (v : Int) (b : Nat) (hb : b ≤ 1000) (c : UInt8) (a z : Int) (ha : a = (b : Int)) (hz : z = 4 * (b : Int)) (y : Int) (hy : y = c.toNat) (w : World) : Calls Tryz.prog 44 #[.int .u64 v, .int .i64 a, .int .u8 y] w fun e w' => ∃ B, e = .returned (.agg #[.int .i64 5, .int .u64 v, .int .u64 0, .int .i64 0, .int .i64 z, .int .i64 0, .slice (some ⟨B, 0, none⟩) 256 256]) ∧ BlockAt w' B (bkC (c :: List.replicate 255 0)) 5 ∧ Gr w w' := by
 subst ha hz hy
 exact lblock_any v b hb c w
theorem blk_cast {W : World} {B : Nat} {cs cs' : Array Value} {t : TypeId} (h : BlockAt W B cs t) (e : cs = cs') : BlockAt W B cs' t := by
 subst e
 exact h
theorem opOk_cr (v : Int) (hv : 0 ≤ v) (W : World) : OpOk W ⟨crO v, none, 0, 0⟩ where
 len := rfl
 cap := Nat.le_refl _
 small := Nat.zero_le _
 row := ⟨fun h => absurd rfl h⟩
 v0 := hv
 t0 := by show (0 : Int) ≤ 0; omega
theorem opOk_wr (v : Int) (hv : 0 ≤ v) (b : Nat) (c : UInt8) (W : World) (B : Nat) (h : BlockAt W B (bkC (c :: List.replicate 255 0)) 5) : OpOk W ⟨wrO v b c, some ⟨B, 0, none⟩, 256, 256⟩ where
 len := rfl
 cap := Nat.le_refl _
 small := by show 256 ≤ 1000000; omega
 row := ⟨fun _ => ⟨B, 0, rfl, h.lt, fun j x hj => by rw [Nat.zero_add, @block_cells _ _ _ _ _ h]; exact bkC_at hj⟩⟩
 v0 := hv
 t0 := by show (0 : Int) ≤ 0; omega
def knownC (B1 B2 B3 B4 B5 : Nat) : List OpC := [⟨crO 1, none, 0, 0⟩, ⟨crO 2, none, 0, 0⟩, ⟨wrO 1 0 120, some ⟨B1, 0, none⟩, 256, 256⟩, ⟨wrO 1 1 121, some ⟨B2, 0, none⟩, 256, 256⟩, ⟨wrO 2 0 120, some ⟨B3, 0, none⟩, 256, 256⟩, ⟨wrO 2 1 122, some ⟨B4, 0, none⟩, 256, 256⟩, ⟨wrO 2 2 121, some ⟨B5, 0, none⟩, 256, 256⟩]
theorem known_made (W : World) (B0 B1 B2 B3 B4 B5 : Nat) (h0 : BlockAt W B0 ((knownC B1 B2 B3 B4 B5).flatMap opE.cs).toArray 43) (h1 : BlockAt W B1 (bkC (120 :: List.replicate 255 0)) 5) (h2 : BlockAt W B2 (bkC (121 :: List.replicate 255 0)) 5) (h3 : BlockAt W B3 (bkC (120 :: List.replicate 255 0)) 5) (h4 : BlockAt W B4 (bkC (122 :: List.replicate 255 0)) 5) (h5 : BlockAt W B5 (bkC (121 :: List.replicate 255 0)) 5) :
  Calls Tryz.prog 15 #[.slice (some ⟨B0, 0, none⟩) 7 7] W fun e w' => ∃ D R, e = .returned (.tuple #[.pointer (some ⟨D, 0, none⟩), .pointer (some ⟨R, 0, none⟩)]) ∧ DevAt W.heap.size w' D (devOf knownL) ∧ Gr W w' := by
 refine (made_any (knownC B1 B2 B3 B4 B5) 7 rfl (by omega) (some ⟨B0, 0, none⟩) 7 W ⟨fun _ _ => trivial, fun _ => ⟨B0, 0, rfl, h0.lt, CellsN.rows opIs _ (fun _ _ => trivial) h0 (by simp)⟩⟩ ?_).mono ?_
 ·intro x hx
  simp only [knownC, List.mem_cons, List.mem_nil_iff, or_false] at hx
  rcases hx with rfl | rfl | rfl | rfl | rfl | rfl | rfl
  ·exact opOk_cr 1 (by decide) W
  ·exact opOk_cr 2 (by decide) W
  ·exact opOk_wr 1 (by decide) 0 120 W B1 h1
  ·exact opOk_wr 1 (by decide) 1 121 W B2 h2
  ·exact opOk_wr 2 (by decide) 0 120 W B3 h3
  ·exact opOk_wr 2 (by decide) 1 122 W B4 h4
  ·exact opOk_wr 2 (by decide) 2 121 W B5 h5
 ·rintro _ _ ⟨D, R, rfl, hd, _, hg⟩
  exact ⟨D, R, rfl, hd, hg⟩
theorem own_row {α : Type} {e : EK α} (he : e.Is) {base : Nat} {W : World} {v : Value} {xs : List α} (h : OwnN e base W v xs) : ∃ A c, v = .slice A xs.length c ∧ RowN e W A xs := by
 obtain ⟨A, c, h1, _, _, h2⟩ := h.form he
 exact ⟨A, c, h1, h2⟩
theorem known_rw (W : World) (base D : Nat) (h : DevAt base W D (devOf knownL)) : Calls Tryz.prog 6 #[.pointer (some ⟨D, 0, none⟩), .int .u64 1, .int .u64 2] W fun e w' => ∃ A c, e = .returned (.tuple #[.slice A 4 c, .int .i64 0]) ∧ RowN strE w' A wantL ∧ Gr W w' := by
 refine (rows_any base D (devOf knownL) 1 2 W h).mono ?_
 rintro _ _ ⟨v, rfl, ho, hg⟩
 rw [known_rows] at ho
 obtain ⟨A, c, rfl, hr⟩ := own_row strIs ho
 exact ⟨A, c, by rw [known_chk]; rfl, hr, hg⟩
theorem known_same (W : World) (A : Option Addr) (c B : Nat) (h : RowN strE W A wantL) (hB : BlockAt W B (wantL.flatMap strE.cs).toArray 103) : Calls Tryz.prog 17 #[.slice A 4 c, .slice (some ⟨B, 0, none⟩) 4 4] W fun e w' => e = .returned (.bool true) ∧ Gr W w' :=
 (same_any wantL wantL 4 4 rfl rfl (by omega) (by omega) A (some ⟨B, 0, none⟩) c 4 W h ⟨fun _ _ => trivial, fun _ => ⟨B, 0, rfl, hB.lt, CellsN.rows strIs _ (fun _ _ => trivial) hB (by simp)⟩⟩).mono fun e w' ⟨h1, h2⟩ => ⟨by rw [h1, decide_eq_true rfl], h2⟩
theorem known_any (w : World) : Calls Tryz.prog 13 #[] w fun e w' => e = .returned (.bool true) ∧ Gr w w' := by
 have K1 := Lib.hid (fun W => known_block 1 0 (by omega) 120 0 0 rfl rfl 120 rfl W)
 have K2 := Lib.hid (fun W => known_block 1 1 (by omega) 121 1 4 rfl rfl 121 rfl W)
 have K3 := Lib.hid (fun W => known_block 2 0 (by omega) 120 0 0 rfl rfl 120 rfl W)
 have K4 := Lib.hid (fun W => known_block 2 1 (by omega) 122 1 4 rfl rfl 122 rfl W)
 have K5 := Lib.hid (fun W => known_block 2 2 (by omega) 121 2 8 rfl rfl 121 rfl W)
 go_enter Tryz.func13, Tryz.ntmps13
 go_wp2_with (first
  | (go_at_call 44; ((with_reducible refine (K1.out _).mono ?_); rintro _ _ ⟨B1, rfl, hB1, ⟨g1, rfl⟩⟩))
  | (go_at_call 44; ((with_reducible refine (K2.out _).mono ?_); rintro _ _ ⟨B2, rfl, hB2, ⟨g2, rfl⟩⟩))
  | (go_at_call 44; ((with_reducible refine (K3.out _).mono ?_); rintro _ _ ⟨B3, rfl, hB3, ⟨g3, rfl⟩⟩))
  | (go_at_call 44; ((with_reducible refine (K4.out _).mono ?_); rintro _ _ ⟨B4, rfl, hB4, ⟨g4, rfl⟩⟩))
  | (go_at_call 44; ((with_reducible refine (K5.out _).mono ?_); rintro _ _ ⟨B5, rfl, hB5, ⟨g5, rfl⟩⟩))
  | (go_at_call 15; (refine (known_made _ _ B1 B2 B3 B4 B5 (blk_cast inferInstance rfl) inferInstance inferInstance inferInstance inferInstance inferInstance).mono ?_); rintro _ _ ⟨D, R, rfl, hd, ⟨gm, rfl⟩⟩)
  | (go_at_call 6; (with_reducible refine (known_rw _ _ D (hd.gr gri)).mono ?_); rintro _ _ ⟨RA, rc, rfl, hr, ⟨gw, rfl⟩⟩)
  | (go_at_call 17; (refine (known_same _ RA rc _ (hr.gr gri) (blk_cast inferInstance rfl)).mono ?_); rintro _ _ ⟨rfl, ⟨g9, rfl⟩⟩))
 go_ret
 exact ⟨rfl, gri⟩
theorem strOf_bytes (l : List UInt8) : strOfNums (l.map fun b => ((b.toNat : Nat) : Int)) = ⟨l.toArray⟩ := by
 unfold strOfNums
 congr 2
 rw [List.map_map]
 conv => rhs; rw [← List.map_id l]
 refine List.map_congr_left (fun b _ => ?_)
 show UInt8.ofNat b.toNat = b
 simp
theorem conv_row (A : Option Addr) (n q : Nat) (l : List UInt8) (W : World) (hl : l.length = n) (hr : Row bv W A l) : (convert 41 9 (.slice A n q)).run Tryz.prog W = .ok (.string ⟨l.toArray⟩) W := by
 by_cases h0 : l = []
 ·subst h0
  obtain rfl : n = 0 := by simpa using hl.symm
  cases A with
  | none => exact run_convert_bytes_nil W 41 5 Tryz.underlying41 Tryz.underlying5 0 q 9 Tryz.underlying9
  | some a =>
   rw [run_convert_bytes_string W 41 9 5 (some a) 0 q Tryz.underlying41 Tryz.underlying5 Tryz.underlying9]
   rw [run_bytesToString W a 0 q [] (by simpa using run_loadCells_list (P := Tryz.prog) W a [] (fun j v hj => by simp at hj))]
   rfl
 ·obtain ⟨b, o, rfl, hb, hc⟩ := hr.at_ h0
  rw [run_convert_bytes_arg W 41 5 Tryz.underlying41 Tryz.underlying5 b o n q (l.map fun b => ((b.toNat : Nat) : Int)) (by simpa using hl) (fun i hi => ?_) 9 Tryz.underlying9, strOf_bytes]
  have hil : i < l.length := by omega
  rw [hc i l[i] (List.getElem?_eq_getElem hil)]
  simp [bv, List.getD, List.getElem?_map, List.getElem?_eq_getElem hil]
structure StJ where
 j : World → Prop
 e : World → Prop
section
variable {P : Program} {ops : Array Oper} {md : Region.Mode}
def SameJ (P : Program) (ops : Array Oper) (s : StJ) (o : Oper) (v : Value) (a : Act) : Prop :=
 (Region.wanted o (yielded ops a.tmps) = true ∧ ∀ w, s.j w → EffAt P o a w (fun u w' => u = v ∧ w' = w)) ∨ (Region.wanted o (yielded ops a.tmps) = false ∧ v = undef)
def efJ (P : Program) (ops : Array Oper) (i : Nat) (K : StJ → Act → Prop) (s : StJ) (a : Act) : Prop :=
 ∃ o, ops[i]? = some o ∧ Region.wanted o (yielded ops a.tmps) = true ∧ ∀ w, s.j w → s.e w → EffAt P o a w (fun v w' => ∃ s' : StJ, (s'.j w' ∧ s'.e w') ∧ (∀ x, s'.j x → s.j x) ∧ K s' (a.put o.dst v))
def jOp (P : Program) (ops : Array Oper) (i : Nat) (K : StJ → Act → Prop) (s : StJ) (a : Act) : Prop := (∃ o, ops[i]? = some o ∧ ∃ v, SameJ P ops s o v a ∧ K s (a.put o.dst v)) ∨ efJ P ops i K s a
theorem jOp_mono {i : Nat} {K K' : StJ → Act → Prop} {s : StJ} {a : Act} (h : ∀ s' a, (∀ x, s'.j x → s.j x) → K s' a → K' s' a) (hh : jOp P ops i K s a) : jOp P ops i K' s a :=
 hh.imp (fun ⟨o, ho, v, hv, hk⟩ => ⟨o, ho, v, hv, h _ _ (fun _ h => h) hk⟩) (fun ⟨o, ho, hg, hs⟩ => ⟨o, ho, hg, fun w h1 h2 => effUpon_mono (fun v w' ⟨s', h1, h2, h3⟩ => ⟨s', h1, h2, h _ _ h2 h3⟩) _ (hs w h1 h2)⟩)
def jAny (P : Program) (md : Region.Mode) (ops : Array Oper) (L : StJ → Act → Prop) : Nat → Array Bool → StJ → Act → Prop
 | 0, listed, s, a => Region.ready md ops listed = [] ∧ L s a
 | f + 1, listed, s, a => (Region.ready md ops listed = [] → L s a) ∧ ∀ i ∈ Region.ready md ops listed, jOp P ops i (jAny P md ops L f (listed.setIfInBounds i true)) s a
theorem jAny_any {L : StJ → Act → Prop} {Q' : Exit → Act → World → Prop} (hL : ∀ (s : StJ) a w, s.j w → s.e w → L s a → Q' .normal a w) :
  ∀ (f : Nat) (listed : Array Bool) (s : StJ) (a : Act) (w : World), s.j w → s.e w → jAny P md ops L f listed s a → wpAny P md ops Q' f listed a w
 | 0, listed, s, a, w, hj, he, h => ⟨h.1, hL _ _ _ hj he h.2⟩
 | f + 1, listed, s, a, w, hj, he, h => by
  refine ⟨fun h0 => hL _ _ _ hj he (h.1 h0), fun i hi => ?_⟩
  unfold wpOp
  rcases h.2 i hi with ⟨o, ho, v, hv, hk⟩ | ⟨o, ho, hg, hs⟩
  ·simp only [ho]
   rcases hv with ⟨hw1, hc⟩ | ⟨hw1, rfl⟩
   ·simp only [hw1, if_true]
    refine .inl ?_
    have h3 := hc w hj
    unfold EffAt at h3
    unfold Oper.wp
    generalize (execOp a.eval o).run P w = r at *
    cases r with
    | ok nx w' =>
     cases nx <;> simp only [effUpon] at h3 <;> simp only [Oper.upon]
     case value u => obtain ⟨e1, e2⟩ := h3; rw [e1, e2]; exact jAny_any hL f _ _ _ _ hj he hk
     case skip => obtain ⟨e1, e2⟩ := h3; rw [e1, e2]; exact jAny_any hL f _ _ _ _ hj he hk
     case enter f' args => exact h3.mono fun e w'' ⟨v', he', e1, e2⟩ => by subst he'; rw [e1, e2]; exact jAny_any hL f _ _ _ _ hj he hk
    | halt x w' => simp only [effUpon] at h3
   ·simp only [hw1, Bool.false_eq_true, if_false]; exact jAny_any hL f _ _ _ _ hj he hk
  ·simp only [ho, hg, if_true]
   refine .inl ?_
   have h3 := hs w hj he
   unfold EffAt at h3
   unfold Oper.wp
   generalize (execOp a.eval o).run P w = r at *
   cases r with
   | ok nx w' =>
    cases nx <;> simp only [effUpon] at h3 <;> simp only [Oper.upon]
    case value u => obtain ⟨s', ⟨hj', he'⟩, _, hk⟩ := h3; exact jAny_any hL f _ _ _ _ hj' he' hk
    case skip => obtain ⟨s', ⟨hj', he'⟩, _, hk⟩ := h3; exact jAny_any hL f _ _ _ _ hj' he' hk
    case enter f' args => exact h3.mono fun e w'' ⟨v, he, s', ⟨hj', he'⟩, _, hk⟩ => by subst he; exact jAny_any hL f _ _ _ _ hj' he' hk
   | halt x w' => simp only [effUpon] at h3
theorem SameJ.put {oi : Oper} {v u : Value} {s : StJ} {a : Act} {d : Option Tmp} (hsi : ∀ cs b, oi.op ≠ .select cs b) (p : ∀ x, d = some x → x ∉ oi.looksAt ops) (h : SameJ P ops s oi v a) : SameJ P ops s oi v (a.put d u) := by
 unfold SameJ EffAt at *
 rw [execOp_put oi hsi a d u p, wanted_put oi a d u p]
 exact h
theorem SameJ.unput {oi : Oper} {v u : Value} {s : StJ} {a : Act} {d : Option Tmp} (hsi : ∀ cs b, oi.op ≠ .select cs b) (p : ∀ x, d = some x → x ∉ oi.looksAt ops) (h : SameJ P ops s oi v (a.put d u)) : SameJ P ops s oi v a := by
 unfold SameJ EffAt at *
 rw [execOp_put oi hsi a d u p, wanted_put oi a d u p] at h
 exact h
theorem SameJ.later {oi : Oper} {v : Value} {s s' : StJ} {a : Act} (hs : ∀ x, s'.j x → s.j x) (h : SameJ P ops s oi v a) : SameJ P ops s' oi v a :=
 h.imp (fun ⟨h1, h2⟩ => ⟨h1, fun w hw => h2 w (hs w hw)⟩) id
theorem jOp_put {j : Nat} {oi oj : Oper} {v : Value} (hj : ops[j]? = some oj) (hap : oi.apart ops oj = true)
  (hsi : ∀ cs b, oi.op ≠ .select cs b) (hsj : ∀ cs b, oj.op ≠ .select cs b) {K : StJ → Act → Prop} {s : StJ} {a : Act}
  (hy : SameJ P ops s oi v a) (h : jOp P ops j K s (a.put oi.dst v)) :
  jOp P ops j (fun s' a' => SameJ P ops s' oi v a' ∧ K s' (a'.put oi.dst v)) s a := by
 obtain ⟨p1, p2, p3⟩ := Oper.apart_spec hap
 rcases h with ⟨o, ho, u, hu, hk⟩ | ⟨o, ho, hg, hs⟩
 ·obtain rfl : o = oj := Option.some.inj (ho.symm.trans hj)
  exact .inl ⟨o, hj, u, hu.unput hsj p1, hy.put hsi p3, by rw [← Act.put_comm a v u p2]; exact hk⟩
 ·obtain rfl : o = oj := Option.some.inj (ho.symm.trans hj)
  refine .inr ⟨o, hj, by rw [wanted_put o a oi.dst v p1] at hg; exact hg, fun w h1 h2 => ?_⟩
  have h3 := hs w h1 h2
  unfold EffAt at *
  rw [execOp_put o hsj a oi.dst v p1] at h3
  exact effUpon_mono (fun u w' ⟨s', h1, h2, h4⟩ => ⟨s', h1, h2, (hy.put hsi p3).later h2, by rw [← Act.put_comm a v u p2]; exact h4⟩) _ h3
theorem jAny_first {i : Nat} {oi : Oper} {v : Value} {L : StJ → Act → Prop} (hi : ops[i]? = some oi) (hsel : ∀ (j : Nat) (o : Oper) cs b, ops[j]? = some o → o.op ≠ .select cs b) :
  ∀ (f : Nat) (listed : Array Bool) (s : StJ) (a : Act),
   (∀ j oj, ops[j]? = some oj → j ≠ i → listed.getD j true = false → (∀ e ∈ oj.after, Region.binds md e = true → e.on ≠ i) → oi.apart ops oj = true) →
   i ∈ Region.ready md ops listed → SameJ P ops s oi v a →
   jAny P md ops L f (listed.setIfInBounds i true) s (a.put oi.dst v) → jAny P md ops L (f + 1) listed s a := by
 intro f
 induction f with
 | zero =>
  intro listed s a _ hr hy H
  refine ⟨(fun h => by rw [h] at hr; cases hr), fun j hj => ?_⟩
  by_cases hji : j = i
  ·subst hji; exact .inl ⟨oi, hi, v, hy, H⟩
  ·have := ready_mono hj hji
   rw [H.1] at this
   cases this
 | succ f ih =>
  intro listed s a hfree hr hy H
  have hun := (mem_ready.1 hr).1
  refine ⟨(fun h => by rw [h] at hr; cases hr), fun j hj => ?_⟩
  by_cases hji : j = i
  ·subst hji; exact .inl ⟨oi, hi, v, hy, H⟩
  have h1 := H.2 j (ready_mono hj hji)
  obtain ⟨hjun, oj, hoj, hall⟩ := mem_ready.1 hj
  have hnot : ∀ e ∈ oj.after, Region.binds md e = true → e.on ≠ i := fun e he hb heq => by
   have h1 := hall e he hb
   rw [heq, getD_both hun] at h1
   cases h1
  have h2 := jOp_put hoj (hfree j oj hoj hji hjun hnot) (fun cs b => hsel i oi cs b hi) (fun cs b => hsel j oj cs b hoj) hy h1
  have hfree' : ∀ k ok, ops[k]? = some ok → k ≠ i → (listed.setIfInBounds j true).getD k true = false →
    (∀ e ∈ ok.after, Region.binds md e = true → e.on ≠ i) → oi.apart ops ok = true := fun k ok hk hki hu hno => by
   refine hfree k ok hk hki ?_ hno
   by_cases hjk : j = k
   ·subst hjk; exact hjun
   ·rw [getD_set_ne true hjk] at hu; exact hu
  refine jOp_mono (fun s' a' _ h3 => ih (listed.setIfInBounds j true) s' a' hfree' (ready_mono hr (Ne.symm hji)) h3.1 ?_) h2
  rw [Array.setIfInBounds_comm _ _ hji]
  exact h3.2
end
section
variable {P : Program} {md : Region.Mode} {l : List Oper} {Lq : StJ → Act → Prop}
def pickP (l : List Oper) : List (Bool × Nat) → List (Bool × Oper)
 | [] => []
 | (b, k) :: r => ((l.drop k).take 1).map (fun o => (b, o)) ++ pickP l r
theorem pickP_cons {b : Bool} {k : Nat} {r : List (Bool × Nat)} {o : Oper} (h : l[k]? = some o) : pickP l ((b, k) :: r) = (b, o) :: pickP l r := by
 obtain ⟨h1, rfl⟩ := List.getElem?_eq_some_iff.1 h
 rw [pickP, List.drop_eq_getElem_cons h1]
 rfl
def wpPlan (P : Program) (ops : Array Oper) (Lq : StJ → Act → Prop) : List (Bool × Oper) → StJ → Act → Prop
 | [], s, a => Lq s a
 | (true, o) :: r, s, a => ∃ v, SameJ P ops s o v a ∧ wpPlan P ops Lq r s (a.put o.dst v)
 | (false, o) :: r, s, a => Region.wanted o (yielded ops a.tmps) = true ∧ ∀ w, s.j w → s.e w → EffAt P o a w (fun v w' => ∃ s' : StJ, (s'.j w' ∧ s'.e w') ∧ (∀ x, s'.j x → s.j x) ∧ wpPlan P ops Lq r s' (a.put o.dst v))
def planB (md : Region.Mode) (ops : Array Oper) : List (Bool × Nat) → Array Bool → Bool
 | [], listed => decide (Region.ready md ops listed = [])
 | (true, k) :: r, listed => (Region.ready md ops listed).contains k && Region.free md ops listed k && planB md ops r (listed.setIfInBounds k true)
 | (false, k) :: r, listed => decide (Region.ready md ops listed = [k]) && planB md ops r (listed.setIfInBounds k true)
theorem jAny_plan (hsel : Region.noSelect l.toArray = true) :
  ∀ (plan : List (Bool × Nat)) (listed : Array Bool) (s : StJ) (a : Act), planB md l.toArray plan listed = true → wpPlan P l.toArray Lq (pickP l plan) s a → jAny P md l.toArray Lq plan.length listed s a
 | [], listed, s, a, hB, h => ⟨by simpa [planB] using hB, h⟩
 | (true, k) :: r, listed, s, a, hB, h => by
  simp only [planB, Bool.and_eq_true] at hB
  obtain ⟨⟨hr, hf⟩, hB'⟩ := hB
  have hr' : k ∈ Region.ready md l.toArray listed := by simpa using hr
  obtain ⟨_, o, ho, _⟩ := mem_ready.1 hr'
  have ho' : l[k]? = some o := by simpa using ho
  rw [pickP_cons ho'] at h
  obtain ⟨v, hv, hk⟩ := h
  exact jAny_first ho (Region.noSelect_spec hsel) _ listed s a (Region.free_spec ho hf) hr' hv (jAny_plan hsel r _ _ _ hB' hk)
 | (false, k) :: r, listed, s, a, hB, h => by
  simp only [planB, Bool.and_eq_true, decide_eq_true_eq] at hB
  obtain ⟨hrd, hB'⟩ := hB
  have hr' : k ∈ Region.ready md l.toArray listed := by rw [hrd]; simp
  obtain ⟨_, o, ho, _⟩ := mem_ready.1 hr'
  have ho' : l[k]? = some o := by simpa using ho
  rw [pickP_cons ho'] at h
  refine ⟨(fun h0 => by rw [hrd] at h0; cases h0), fun j hj => ?_⟩
  rw [hrd] at hj
  obtain rfl : j = k := by simpa using hj
  exact .inr ⟨o, ho, h.1, fun w h1 h2 => effUpon_mono (fun v w' ⟨s', h3, h4, h5⟩ => ⟨s', h3, h4, jAny_plan hsel r _ _ _ hB' h5⟩) _ (h.2 w h1 h2)⟩
def treePB (md : Region.Mode) (ops : Array Oper) (plan : List (Bool × Nat)) : Bool :=
 Region.noSelect ops && decide (plan.length = ops.size) && planB md ops plan (Array.replicate ops.size false)
theorem wp_region_plan {id : Nat} {Q : Exit → Act → World → Prop} {a : Act} {w : World} (s : StJ) (hj : s.j w.drew) (he : s.e w.drew) (plan : List (Bool × Nat)) (hm : P.follows .mixedOrders = true) (hB : treePB .any l.toArray plan = true)
  (h : wpPlan P l.toArray (fun s a3 => ∀ w', s.j w' → s.e w' → Q .normal a3 w') (pickP l plan) s a) : (Code.region id l.toArray true).wp P Q a w := by
 simp only [treePB, Bool.and_eq_true, decide_eq_true_eq] at hB
 obtain ⟨⟨hsel, hlen⟩, hp⟩ := hB
 have H := jAny_plan (md := .any) (P := P) hsel plan _ s a hp h
 refine wp_region_any hm ?_
 have := jAny_any (Q' := Q) (fun s a' w' h1 h2 (hL : ∀ w', s.j w' → s.e w' → Q .normal a' w') => hL w' h1 h2) _ _ _ _ _ hj he H
 rw [hlen] at this
 exact this
section
variable {ops : Array Oper} {s : StJ} {a : Act} {o : Oper} {r : List (Bool × Oper)} {L : StJ → Act → Prop}
theorem effAt_of {w w' : World} {R : Value → World → Prop} {v : Value} (h : (execOp a.eval o).run P w = .ok (.value v) w') (hR : R v w') : EffAt P o a w R := by
 unfold EffAt
 rw [h]
 exact hR
theorem p_same (v : Value) {d : Tmp} (hd : o.dst = some d) (hw : Region.wanted o (yielded ops a.tmps) = true) (h : ∀ w, s.j w → (execOp a.eval o).run P w = .ok (.value v) w) (hk : wpPlan P ops L r s (a.put (some d) v)) : wpPlan P ops L ((true, o) :: r) s a :=
 ⟨v, .inl ⟨hw, fun w h1 => effAt_of (h w h1) ⟨rfl, rfl⟩⟩, by rw [hd]; exact hk⟩
theorem p_eff {d : Tmp} (hd : o.dst = some d) (hw : Region.wanted o (yielded ops a.tmps) = true) (h : ∀ w, s.j w → s.e w → EffAt P o a w (fun v w' => ∃ s' : StJ, (s'.j w' ∧ s'.e w') ∧ (∀ x, s'.j x → s.j x) ∧ wpPlan P ops L r s' (a.put (some d) v))) : wpPlan P ops L ((false, o) :: r) s a :=
 ⟨hw, by rw [hd]; exact h⟩
theorem p_nil (h : L s a) : wpPlan P ops L [] s a := h
end
end
end Go.Proofs.YtipeblmgochdfaaGreat
