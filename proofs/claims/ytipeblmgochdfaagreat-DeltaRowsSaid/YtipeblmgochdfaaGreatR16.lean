/- slices.pdqsortOrdered. Conditions: the row stands in memory, at most 10^6 elements. slices.Sort. Conditions: the row stands in memory, at most 10^6 elements. maps.Keys, slices.Collect, slices.Sorted over the keys of a map of blocks; Device.Volumes. Conditions: the map stands in memory; at most 256 keys. Device.Mapped. Conditions: the device stands in memory. slices.insertionSortOrdered. Conditions: the row stands in memory, at most 10^6 elements. slices.siftDownOrdered. Conditions: the row stands in memory, at most 10^6 elements. slices.heapSortOrdered. Conditions: the row stands in memory, at most 10^6 elements. -/
import Derived.Test.YtipeblmgochdfaaGreatR14
import Derived.Test.YtipeblmgochdfaaGreatR15
import Derived.Test.YtipeblmgochdfaaGreatR13
import Derived.Test.YtipeblmgochdfaaGreatR02
import Derived.Test.YtipeblmgochdfaaGreatR03
namespace Go.Proofs.YtipeblmgochdfaaGreat.I
open Go.RowKit
set_option linter.unusedVariables false
set_option linter.unusedSimpArgs false
set_option linter.unnecessarySimpa false
set_option maxRecDepth 100000
set_option maxHeartbeats 4000000

theorem Abv.less {xs : List Int} {a b b2 : Nat} (h : Abv xs a b) (hb : b2 ≤ b) : Abv xs a b2 := fun k m h1 h2 h3 => h k m h1 h2 (by omega)
theorem abv_of {xs ys : List Int} {a b c d : Nat} (h : Abv xs a b) (r : RP a b xs ys) (hl : Lft ys a b c d) (hc : a ≤ c) (hd : d ≤ b) : Abv ys c d := fun k m h1 h2 h3 => by
 by_cases e : c = a
 ·subst e
  exact h.rp r k m h1 h2 (by omega)
 ·exact hl m k (by omega) (by omega) (by omega) (by omega)
theorem parted_left {zs ws vs : List Int} {a b c d m : Nat} (hp : Parted zs ws c d m) (hl : Lft ws a b c d) (hr : RP c m ws vs) (hs : Srt vs c m) (ha : a ≤ c) (hb : d ≤ b) (hlen : d ≤ ws.length) : Lft vs a b (m + 1) d := by
 obtain ⟨h1, h2, _, h3, h4⟩ := hp
 refine lft_left (hl.rp (hr.mono (Nat.le_refl _) (by omega) hlen) ha hb) h1 h2 hs (fun k q1 q2 => ?_) (fun k q1 q2 => ?_)
 ·obtain ⟨q, p1, p2, e⟩ := hr.from_ k q1 q2
  rw [e, hr.out m (.inr (Nat.le_refl _))]
  exact h3 q p1 p2
 ·rw [hr.out m (.inr (Nat.le_refl _)), hr.out k (.inr (by omega))]
  exact h4 k q1 q2
theorem parted_right {zs ws vs : List Int} {a b c d m : Nat} (hp : Parted zs ws c d m) (hl : Lft ws a b c d) (hr : RP (m + 1) d ws vs) (hs : Srt vs (m + 1) d) (ha : a ≤ c) (hb : d ≤ b) (hlen : d ≤ ws.length) : Lft vs a b c m := by
 obtain ⟨h1, h2, _, h3, h4⟩ := hp
 refine lft_right (hl.rp (hr.mono (by omega) (Nat.le_refl _) hlen) ha hb) h1 h2 hs (fun k q1 q2 => ?_) (fun k q1 q2 => ?_)
 ·rw [hr.out m (.inl (by omega)), hr.out k (.inl (by omega))]
  exact h3 k q1 q2
 ·obtain ⟨q, p1, p2, e⟩ := hr.from_ k (by omega) q2
  rw [e, hr.out m (.inl (by omega))]
  exact h4 q (by omega) p2
theorem pdq_any (base g n c : Nat) (hn : n ≤ 256) : ∀ (N a b lim : Nat) (xs : List Int) (w : World), SA base w g n c xs → a ≤ b → b ≤ n → lim ≤ 1000 → Abv xs a b → b - a = N →
  Calls Tryz.prog 135 #[.slice (some ⟨g, 0, none⟩) n c, .int .i64 (a : Int), .int .i64 (b : Int), .int .i64 (lim : Int)] w fun e w' => e = .returned (.tuple #[]) ∧ ∃ ys, SA base w' g n c ys ∧ RP a b xs ys ∧ Srt ys a b ∧ Onl w w' g := by
 intro N
 induction N using Nat.strongRecOn with
 | _ N ih =>
 intro a b lim0 xs w h hab hb hlim hA hN
 have H := Lib.hid h
 have HA := Lib.hid hA
 clear h hA
 go_enter Tryz.func135, Tryz.ntmps135
 go_wp2
 go_loopw [1, 2, 3, 8, 9] (fun v1 v2 v3 v8 v9 wr => ∃ (a1 b1 lim : Nat) (p q : Bool) (ys : List Int), a ≤ a1 ∧ a1 ≤ b1 ∧ b1 ≤ b ∧ lim ≤ 1000 ∧ v1 = .int .i64 (a1 : Int) ∧ v2 = .int .i64 (b1 : Int) ∧ v3 = .int .i64 (lim : Int) ∧ v8 = .bool p ∧ v9 = .bool q ∧ SA base wr g n c ys ∧ RP a b xs ys ∧ Lft ys a b a1 b1 ∧ Onl w wr g) (fun v1 v2 _ _ _ _ => (intOf v2 - intOf v1).toNat)
 case atStart => exact ⟨a, b, lim0, true, true, xs, Nat.le_refl _, hab, Nat.le_refl _, hlim, rfl, rfl, rfl, rfl, rfl, H.out.gr gri, .refl, lft_start _ _ _, Onl.of_gr gri g⟩
 case round =>
  obtain ⟨a1, b1, lim, p, q, ys, ha1, hab1, hb1, hlm, rfl, rfl, rfl, rfl, rfl, hsa, hrp, hlf, ho⟩ := hrel
  have HSY := Lib.hid hsa
  have HRY := Lib.hid hrp
  have HLY := Lib.hid hlf
  have HOY := Lib.hid ho
  have HAY := Lib.hid (abv_of HA.out hrp hlf ha1 hb1)
  have hyl := hsa.len
  clear hsa hrp hlf ho
  obtain ⟨l, hl⟩ : ∃ l, b1 - a1 = l := ⟨_, rfl⟩
  have rl : (b1 : Int) - (a1 : Int) = (l : Int) := by omega
  have wl : IntKind.i64.wrap (l : Int) = (l : Int) := wrapS l (by omega)
  by_cases h12 : l ≤ 12
  ·have e12 : (l : Int) ≤ 12 := by omega
   go_wp2_with (first | (go_at_call 157; ((with_reducible refine (insertion_any base g n c ys a1 b1 _ (HSY.out.gr gri) (by omega) hab1 (by omega)).mono ?_); rintro _ W2 ⟨rfl, vs, hsv, hrv, hssv, hov⟩)))
   refine bodyPost_ret (v := .tuple #[]) (by simp [results, go_sem]) rfl ⟨rfl, vs, hsv.gr gri, HRY.out.trans (hrv.mono ha1 hb1 (by have := HRY.out.len; omega)), lft_end (HLY.out.rp hrv ha1 hb1) hssv, (HOY.out.trans (Onl.of_gr gri g)).trans (hov.trans (Onl.of_gr gri g))⟩
  ·have e12 : ¬ (l : Int) ≤ 12 := by omega
   by_cases hl0 : lim = 0
   ·have e0 : ((lim : Int) == 0) = true := by simp [hl0]
    go_wp2_with (first | (go_at_call 158; ((with_reducible refine (heap_any base g n c ys a1 b1 _ (HSY.out.gr gri) (by omega) (by omega) (by omega)).mono ?_); rintro _ W2 ⟨rfl, vs, hsv, hrv, hssv, hov⟩)))
    refine bodyPost_ret (v := .tuple #[]) (by simp [results, go_sem]) rfl ⟨rfl, vs, hsv.gr gri, HRY.out.trans (hrv.mono ha1 hb1 (by have := HRY.out.len; omega)), lft_end (HLY.out.rp hrv ha1 hb1) hssv, (HOY.out.trans (Onl.of_gr gri g)).trans (hov.trans (Onl.of_gr gri g))⟩
   ·have e0 : ((lim : Int) == 0) = false := by simp [hl0]
    go_upto_if 35 with fail
    go_cut [3] from 19 to 133 (fun v3 wx => ∃ (lim2 : Nat) (zs : List Int), lim2 ≤ 1000 ∧ v3 = .int .i64 (lim2 : Int) ∧ SA base wx g n c zs ∧ RP a1 b1 ys zs ∧ Onl w wx g)
    case first =>
     cases p
     ·obtain ⟨lm, hlm1⟩ : ∃ lm, lm + 1 = lim := ⟨lim - 1, by omega⟩
      have rlm : (lim : Int) - 1 = (lm : Int) := by omega
      have wlm : IntKind.i64.wrap (lm : Int) = (lm : Int) := wrapS lm (by omega)
      go_wp2_with (first | (go_at_call 159; ((with_reducible refine (break_any base g n c ys a1 b1 _ (HSY.out.gr gri) hn (by omega) (by omega)).mono ?_); rintro _ W2 ⟨rfl, vs, hsv, hrv, hov⟩)))
      go_meet
      case rel => exact ⟨lm, vs, by omega, rfl, hsv.gr gri, hrv, (HOY.out.trans (Onl.of_gr gri g)).trans (hov.trans (Onl.of_gr gri g))⟩
     ·go_wp2
      go_meet
      case rel => exact ⟨lim, ys, hlm, rfl, HSY.out.gr gri, .refl, HOY.out.trans (Onl.of_gr gri g)⟩
    case rest =>
     clear e0 hl0 hlm
     obtain ⟨lim, zs, hlm, rfl, hsz, hrz, hoz⟩ := hcut
     have HSZ := Lib.hid hsz
     have HRZ := Lib.hid hrz
     have HOZ := Lib.hid hoz
     clear hsz hrz hoz
     go_wp2_with (first | (go_at_call 160; ((with_reducible refine (choose_any base g n c zs a1 b1 _ (HSZ.out.gr gri) (by omega) (by omega) (by omega)).mono ?_))))
     rintro _ _ ⟨p9, t, rfl, hp1, hp2, ht, ⟨g2, rfl⟩⟩
     go_upto_if 50 with fail
     go_cut [11, 12] from 19 to 133 (fun v11 v12 wx => ∃ (pv : Nat) (hint : Int) (us : List Int), a1 ≤ pv ∧ pv < b1 ∧ v11 = .int .i64 (pv : Int) ∧ v12 = .int .i64 hint ∧ SA base wx g n c us ∧ RP a1 b1 zs us ∧ Onl w wx g)
     case first =>
      rcases ht with rfl | rfl | rfl
      ·go_wp2
       go_meet
       case rel => exact ⟨p9, 0, zs, hp1, hp2, rfl, rfl, HSZ.out.gr gri, .refl, HOZ.out.trans (Onl.of_gr gri g)⟩
      ·go_wp2
       go_meet
       case rel => exact ⟨p9, 1, zs, hp1, hp2, rfl, rfl, HSZ.out.gr gri, .refl, HOZ.out.trans (Onl.of_gr gri g)⟩
      ·have hp3 : p9 - a1 < b1 := by omega
       obtain ⟨t1, ht1⟩ : ∃ t1, b1 - 1 = t1 := ⟨_, rfl⟩
       have rt1 : (b1 : Int) - 1 = (t1 : Int) := by omega
       have wt1 : IntKind.i64.wrap (t1 : Int) = (t1 : Int) := wrapS t1 (by omega)
       obtain ⟨t2, ht2⟩ : ∃ t2, p9 - a1 = t2 := ⟨_, rfl⟩
       have rt2 : (p9 : Int) - (a1 : Int) = (t2 : Int) := by omega
       have wt2 : IntKind.i64.wrap (t2 : Int) = (t2 : Int) := wrapS t2 (by omega)
       obtain ⟨t3, ht3⟩ : ∃ t3, t1 - t2 = t3 := ⟨_, rfl⟩
       have rt3 : (t1 : Int) - (t2 : Int) = (t3 : Int) := by omega
       have wt3 : IntKind.i64.wrap (t3 : Int) = (t3 : Int) := wrapS t3 (by omega)
       go_wp2_with (first | (go_at_call 161; ((with_reducible refine (reverse_any base g n c zs a1 b1 _ (HSZ.out.gr gri) (by omega) (by omega) (by omega)).mono ?_); rintro _ W2 ⟨rfl, us, hsu, hru, hou⟩)))
       go_meet
       case rel => exact ⟨t3, 1, us, by omega, by omega, rfl, rfl, hsu.gr gri, hru, (HOZ.out.trans (Onl.of_gr gri g)).trans (hou.trans (Onl.of_gr gri g))⟩
     case rest =>
      clear hp1 hp2 ht
      obtain ⟨pv, hint, us, hpv1, hpv2, rfl, rfl, hsu, hru, hou⟩ := hcut
      have HSU := Lib.hid hsu
      have HRU := Lib.hid (HRZ.out.trans hru)
      have HOU := Lib.hid hou
      clear hsu hru hou HSZ HRZ HOZ
      obtain ⟨wu, rfl⟩ : ∃ wu : World, wu = wc := ⟨_, rfl⟩
      go_upto_region 15 with fail
      go_cut [68] from 19 to 133 (fun v68 wx => ∃ r : Bool, v68 = .bool r ∧ Gr wu wx)
      case first =>
       by_cases hh : hint = 1
       ·have eh : (hint == 1) = true := by simp [hh]
        cases p <;> cases q
        all_goals
         go_wp2
         go_meet
         case rel => exact ⟨_, rfl, gri⟩
       ·have eh : (hint == 1) = false := by simp [hh]
        cases p <;> cases q
        all_goals
         go_wp2
         go_meet
         case rel => exact ⟨_, rfl, gri⟩
      case rest =>
       obtain ⟨r, rfl, hgr⟩ := hcut
       have HSR := Lib.hid (HSU.out.gr hgr)
       have HOR := Lib.hid (HOU.out.trans (Onl.of_gr hgr g))
       clear hgr HSU HOU
       obtain ⟨wr9, rfl⟩ : ∃ wr9 : World, wr9 = wc := ⟨_, rfl⟩
       go_upto_if 68 with fail
       go_cut [13] from 19 to 133 (fun v13 wx => ∃ vs : List Int, SA base wx g n c vs ∧ RP a1 b1 ys vs ∧ Onl w wx g)
       case first =>
        cases r
        ·go_wp2
         go_meet
         case rel => exact ⟨us, HSR.out.gr gri, HRU.out, HOR.out.trans (Onl.of_gr gri g)⟩
        ·go_wp2_with (first | (go_at_call 162; ((with_reducible refine (partins_any base g n c us a1 b1 _ (HSR.out.gr gri) (by omega) (by omega) (by omega) (HAY.out.rp HRU.out)).mono ?_))))
         rintro _ W2 ⟨r2, vs, rfl, hsv, hrv, hss, hov⟩
         have HSV := Lib.hid hsv
         have HRV := Lib.hid hrv
         have HSS := Lib.hid hss
         have HOV := Lib.hid ((HOR.out.trans (Onl.of_gr (gri : Gr wr9 _) g)).trans hov)
         clear hsv hrv hss hov
         cases r2
         ·go_wp2
          go_meet
          case rel => exact ⟨vs, HSV.out.gr gri, HRU.out.trans HRV.out, HOV.out.trans (Onl.of_gr gri g)⟩
         ·go_wp2
          refine bodyPost_ret (v := .tuple #[]) (by simp [results, go_sem]) rfl ⟨rfl, vs, HSV.out.gr gri, HRY.out.trans ((HRU.out.trans HRV.out).mono ha1 hb1 (by have := HRY.out.len; omega)), lft_end (HLY.out.rp (HRU.out.trans HRV.out) ha1 hb1) (HSS.out (by trivial)), HOV.out.trans (Onl.of_gr gri g)⟩
       case rest =>
        obtain ⟨vs, hsv, hrv, hov⟩ := hcut
        have HSA := Lib.hid hsv
        have HRP := Lib.hid (HRY.out.trans (hrv.mono ha1 hb1 (by have := HRY.out.len; omega)))
        have HLF := Lib.hid (HLY.out.rp hrv ha1 hb1)
        have HAB := Lib.hid (HAY.out.rp hrv)
        have HO := Lib.hid hov
        have hvl := hsv.len
        haveI : Old g wc := ⟨hsv.lt⟩
        clear HSR HOR HRU HRY HLY HOY HSY HAY hrv hov
        by_cases ha0 : 0 < a1
        ·have ea0 : (0 : Int) < (a1 : Int) := by omega
         obtain ⟨m0, hm0⟩ : ∃ m0, a1 - 1 = m0 := ⟨_, rfl⟩
         have rm0 : (a1 : Int) - 1 = (m0 : Int) := by omega
         have wm0 : IntKind.i64.wrap (m0 : Int) = (m0 : Int) := wrapS m0 (by omega)
         have bm0 : (m0 : Int) < (n : Int) := by omega
         have c0 := hsv.cell m0 (by omega)
         have c1 := hsv.cell pv (by omega)
         have b1i : (pv : Int) < (n : Int) := by omega
         clear hsv
         by_cases hlt : at0 vs m0 < at0 vs pv
         ·have HL := Lib.hid (fun W => less_yes hlt W)
          clear hlt
          go_wp2
          refine wp_region_grow (by kernel_rfl) (by kernel_rfl) ?_
          repeat (go_big_quiet_step ((first | (go_at_call 163; exact grow_call (HL.out _)))))
          refine wpQuiet_nil ?_
          intro g5
          go_wp2_with (first | (go_at_call 165; ((with_reducible refine (partition_any base g n c vs a1 b1 pv _ (HSA.out.gr gri) (by omega) (by omega) (by omega) hpv1 hpv2).mono ?_))))
          rintro _ W2 ⟨mid, done, ws, rfl, hsw, hpt, how⟩
          have hwl := hsw.len
          have HSW := Lib.hid hsw
          have HPT := Lib.hid hpt
          have HOW := Lib.hid ((HO.out.trans (Onl.of_gr (gri : Gr wc _) g)).trans how)
          have hm1 := hpt.1
          have hm2 := hpt.2.1
          have HRW := Lib.hid (HRP.out.trans (hpt.2.2.1.mono ha1 hb1 (by have := HRP.out.len; omega)))
          have HLW := Lib.hid (HLF.out.rp hpt.2.2.1 ha1 hb1)
          have HAW := Lib.hid (HAB.out.rp hpt.2.2.1)
          clear hsw hpt how
          obtain ⟨ll, hll⟩ : ∃ ll, mid - a1 = ll := ⟨_, rfl⟩
          have rll : (mid : Int) - (a1 : Int) = (ll : Int) := by omega
          have wll : IntKind.i64.wrap (ll : Int) = (ll : Int) := wrapS ll (by omega)
          obtain ⟨rl, hrl⟩ : ∃ rl, b1 - mid = rl := ⟨_, rfl⟩
          have rrl : (b1 : Int) - (mid : Int) = (rl : Int) := by omega
          have wrl : IntKind.i64.wrap (rl : Int) = (rl : Int) := wrapS rl (by omega)
          obtain ⟨mq, hmq⟩ : ∃ mq, mid + 1 = mq := ⟨_, rfl⟩
          have rmq : (mid : Int) + 1 = (mq : Int) := by omega
          have wmq : IntKind.i64.wrap (mq : Int) = (mq : Int) := wrapS mq (by omega)
          obtain ⟨bt, hbt⟩ : ∃ bt, l / 8 = bt := ⟨_, rfl⟩
          have rbt : (l : Int) / 8 = (bt : Int) := by omega
          have wbt : IntKind.i64.wrap (bt : Int) = (bt : Int) := wrapS bt (by omega)
          by_cases hlr : ll < rl
          ·have e5 : (ll : Int) < (rl : Int) := by omega
           have HC := Lib.hid (fun W (hW : Gr W2 W) => ih (mid - a1) (by omega) a1 mid lim ws W (HSW.out.gr hW) (by omega) (by omega) (by omega) (HAW.out.less (by omega)) rfl)
           go_wp2_with (first | (go_at_call 135; ((with_reducible refine (HC.out _ gri).mono ?_); rintro _ W3 ⟨rfl, vs, hsv, hrv, hssv, hov⟩)))
           go_roundw
           case rel => exact ⟨mid + 1, b1, lim, _, done, vs, by omega, by omega, hb1, by omega, by go_num, rfl, rfl, rfl, rfl, hsv.gr gri, HRW.out.trans (hrv.mono ha1 (by omega) (by have := HRW.out.len; omega)), parted_left HPT.out HLW.out hrv hssv ha1 hb1 (by have := HRW.out.len; omega), (HOW.out.trans (Onl.of_gr gri g)).trans (hov.trans (Onl.of_gr gri g))⟩
           case measure => simp [intOf] <;> omega
          ·have e5 : ¬ (ll : Int) < (rl : Int) := by omega
           have HAQ := Lib.hid (show Abv ws mq b1 from fun k m q1 q2 q3 => by
            have e9 : m = mid := by omega
            rw [e9]
            exact HPT.out.2.2.2.2 k (by omega) q3)
           have HC := Lib.hid (fun W (hW : Gr W2 W) => ih (b1 - mq) (by omega) mq b1 lim ws W (HSW.out.gr hW) (by omega) (by omega) (by omega) HAQ.out rfl)
           go_wp2_with (first | (go_at_call 135; ((with_reducible refine (HC.out _ gri).mono ?_); rintro _ W3 ⟨rfl, vs, hsv, hrv, hssv, hov⟩)))
           go_roundw
           case rel => exact ⟨a1, mid, lim, _, done, vs, ha1, by omega, by omega, by omega, rfl, rfl, rfl, rfl, rfl, hsv.gr gri, HRW.out.trans (hrv.mono (by omega) hb1 (by have := HRW.out.len; omega)), parted_right HPT.out HLW.out (by rw [show mid + 1 = mq by omega]; exact hrv) (by rw [show mid + 1 = mq by omega]; exact hssv) ha1 hb1 (by have := HRW.out.len; omega), (HOW.out.trans (Onl.of_gr gri g)).trans (hov.trans (Onl.of_gr gri g))⟩
           case measure => simp [intOf] <;> omega
         ·have HL := Lib.hid (fun W => less_no hlt W)
          have HNL := Lib.hid (Int.not_lt.1 hlt)
          clear hlt
          go_wp2
          refine wp_region_grow (by kernel_rfl) (by kernel_rfl) ?_
          repeat (go_big_quiet_step ((first | (go_at_call 163; exact grow_call (HL.out _)))))
          refine wpQuiet_nil ?_
          intro g5
          go_wp2_with (first | (go_at_call 164; ((with_reducible refine (partequal_any base g n c vs a1 b1 pv _ (HSA.out.gr gri) (by omega) (by omega) (by omega) hpv1 hpv2).mono ?_))))
          rintro _ W2 ⟨mid, ws, rfl, hm1, hm2, hsw, hrw, heq, hall, how⟩
          have HSW := Lib.hid hsw
          have HRW := Lib.hid (HRP.out.trans (hrw.mono ha1 hb1 (by have := HRP.out.len; omega)))
          have HLW := Lib.hid (show Lft ws a b mid b1 from lft_equal (HLF.out.rp hrw ha1 hb1) hm1 hm2 fun k q1 q2 u u1 u2 => by
           have e1 := hall k q1 q2
           obtain ⟨v, v1, v2, e2⟩ := hrw.from_ u u1 u2
           have e3 := HAB.out v m0 (by omega) v1 v2
           have e4 := HNL.out
           rw [e2]
           omega)
          have HOW := Lib.hid ((HO.out.trans (Onl.of_gr (gri : Gr wc _) g)).trans how)
          clear hsw hrw heq hall how
          go_wp2
          go_roundw
          case rel => exact ⟨mid, b1, lim, p, q, ws, by omega, hm2, hb1, hlm, rfl, rfl, rfl, rfl, rfl, HSW.out.gr gri, HRW.out, HLW.out, HOW.out.trans (Onl.of_gr gri g)⟩
          case measure => simp [intOf] <;> omega
        ·have ea0 : ¬ (0 : Int) < (a1 : Int) := by omega
         clear hsv
         go_wp2
         refine wp_region_grow (by kernel_rfl) (by kernel_rfl) ?_
         repeat (go_big_quiet_step (fail))
         refine wpQuiet_nil ?_
         intro g5
         go_wp2_with (first | (go_at_call 165; ((with_reducible refine (partition_any base g n c vs a1 b1 pv _ (HSA.out.gr gri) (by omega) (by omega) (by omega) hpv1 hpv2).mono ?_))))
         rintro _ W2 ⟨mid, done, ws, rfl, hsw, hpt, how⟩
         have hwl := hsw.len
         have HSW := Lib.hid hsw
         have HPT := Lib.hid hpt
         have HOW := Lib.hid ((HO.out.trans (Onl.of_gr (gri : Gr wc _) g)).trans how)
         have hm1 := hpt.1
         have hm2 := hpt.2.1
         have HRW := Lib.hid (HRP.out.trans (hpt.2.2.1.mono ha1 hb1 (by have := HRP.out.len; omega)))
         have HLW := Lib.hid (HLF.out.rp hpt.2.2.1 ha1 hb1)
         have HAW := Lib.hid (HAB.out.rp hpt.2.2.1)
         clear hsw hpt how
         obtain ⟨ll, hll⟩ : ∃ ll, mid - a1 = ll := ⟨_, rfl⟩
         have rll : (mid : Int) - (a1 : Int) = (ll : Int) := by omega
         have wll : IntKind.i64.wrap (ll : Int) = (ll : Int) := wrapS ll (by omega)
         obtain ⟨rl, hrl⟩ : ∃ rl, b1 - mid = rl := ⟨_, rfl⟩
         have rrl : (b1 : Int) - (mid : Int) = (rl : Int) := by omega
         have wrl : IntKind.i64.wrap (rl : Int) = (rl : Int) := wrapS rl (by omega)
         obtain ⟨mq, hmq⟩ : ∃ mq, mid + 1 = mq := ⟨_, rfl⟩
         have rmq : (mid : Int) + 1 = (mq : Int) := by omega
         have wmq : IntKind.i64.wrap (mq : Int) = (mq : Int) := wrapS mq (by omega)
         obtain ⟨bt, hbt⟩ : ∃ bt, l / 8 = bt := ⟨_, rfl⟩
         have rbt : (l : Int) / 8 = (bt : Int) := by omega
         have wbt : IntKind.i64.wrap (bt : Int) = (bt : Int) := wrapS bt (by omega)
         by_cases hlr : ll < rl
         ·have e5 : (ll : Int) < (rl : Int) := by omega
          have HC := Lib.hid (fun W (hW : Gr W2 W) => ih (mid - a1) (by omega) a1 mid lim ws W (HSW.out.gr hW) (by omega) (by omega) (by omega) (HAW.out.less (by omega)) rfl)
          go_wp2_with (first | (go_at_call 135; ((with_reducible refine (HC.out _ gri).mono ?_); rintro _ W3 ⟨rfl, vs, hsv, hrv, hssv, hov⟩)))
          go_roundw
          case rel => exact ⟨mid + 1, b1, lim, _, done, vs, by omega, by omega, hb1, by omega, by go_num, rfl, rfl, rfl, rfl, hsv.gr gri, HRW.out.trans (hrv.mono ha1 (by omega) (by have := HRW.out.len; omega)), parted_left HPT.out HLW.out hrv hssv ha1 hb1 (by have := HRW.out.len; omega), (HOW.out.trans (Onl.of_gr gri g)).trans (hov.trans (Onl.of_gr gri g))⟩
          case measure => simp [intOf] <;> omega
         ·have e5 : ¬ (ll : Int) < (rl : Int) := by omega
          have HAQ := Lib.hid (show Abv ws mq b1 from fun k m q1 q2 q3 => by
           have e9 : m = mid := by omega
           rw [e9]
           exact HPT.out.2.2.2.2 k (by omega) q3)
          have HC := Lib.hid (fun W (hW : Gr W2 W) => ih (b1 - mq) (by omega) mq b1 lim ws W (HSW.out.gr hW) (by omega) (by omega) (by omega) HAQ.out rfl)
          go_wp2_with (first | (go_at_call 135; ((with_reducible refine (HC.out _ gri).mono ?_); rintro _ W3 ⟨rfl, vs, hsv, hrv, hssv, hov⟩)))
          go_roundw
          case rel => exact ⟨a1, mid, lim, _, done, vs, ha1, by omega, by omega, by omega, rfl, rfl, rfl, rfl, rfl, hsv.gr gri, HRW.out.trans (hrv.mono (by omega) hb1 (by have := HRW.out.len; omega)), parted_right HPT.out HLW.out (by rw [show mid + 1 = mq by omega]; exact hrv) (by rw [show mid + 1 = mq by omega]; exact hssv) ha1 hb1 (by have := HRW.out.len; omega), (HOW.out.trans (Onl.of_gr gri g)).trans (hov.trans (Onl.of_gr gri g))⟩
          case measure => simp [intOf] <;> omega
end Go.Proofs.YtipeblmgochdfaaGreat.I
namespace Go.Proofs.YtipeblmgochdfaaGreat.I
open Go.RowKit
set_option linter.unusedVariables false
set_option linter.unusedSimpArgs false
set_option linter.unnecessarySimpa false
set_option maxRecDepth 100000
set_option maxHeartbeats 4000000

theorem pdq0_any (base g n c : Nat) (hn : n ≤ 256) (lim : Nat) (xs : List Int) (w : World) (h : SA base w g n c xs) (hl : lim ≤ 1000) :
  Calls Tryz.prog 135 #[.slice (some ⟨g, 0, none⟩) n c, .int .i64 0, .int .i64 (n : Int), .int .i64 (lim : Int)] w fun e w' => e = .returned (.tuple #[]) ∧ ∃ ys, SA base w' g n c ys ∧ RP 0 n xs ys ∧ Srt ys 0 n ∧ Onl w w' g :=
 pdq_any base g n c hn n 0 n lim xs w h (Nat.zero_le _) (Nat.le_refl _) hl (fun k m h1 => by omega) rfl
def SoPost (base g n c : Nat) (xs : List Int) (w : World) (e : Ending) (w' : World) : Prop := e = .returned (.tuple #[]) ∧ ∃ ys, SA base w' g n c ys ∧ ys.Perm xs ∧ ys.Pairwise (· ≤ ·) ∧ Onl w w' g
theorem sort_any (base g n c : Nat) (xs : List Int) (w : World) (h : SA base w g n c xs) (hn : n ≤ 256) : Calls Tryz.prog 103 #[.slice (some ⟨g, 0, none⟩) n c] w (SoPost base g n c xs w) := by
 have H := Lib.hid h
 have hxl := h.len
 clear h
 have hwu : IntKind.u64.wrap (n : Int) = (n : Int) := by
  simp [IntKind.wrap, IntKind.bits, IntKind.signed]
  omega
 have HL := Lib.hid (fun W => len_any n hn W)
 go_enter Tryz.func103, Tryz.ntmps103
 go_wp2_with (first | (go_at_call 133; ((with_reducible refine (HL.out _).mono ?_); rintro _ _ ⟨k, rfl, k1, k2, k3, ⟨g1, rfl⟩⟩)) | (go_at_call 135; ((with_reducible refine (pdq0_any base g n c hn k xs _ (H.out.gr gri) (by omega)).mono ?_); rintro _ W2 ⟨rfl, ys, hsy, hry, hss, hoy⟩)))
 have hyl := hsy.len
 exact ⟨rfl, .tuple #[], by simp [results, go_sem], ⟨rfl, ys, hsy.gr gri, hry.perm, (by rw [← hyl] at hss; exact hss.pair), (Onl.of_gr gri g).trans (hoy.trans (Onl.of_gr gri g))⟩⟩
theorem insertion_nil (w : World) : Calls Tryz.prog 157 #[.slice none 0 0, .int .i64 0, .int .i64 0] w fun e w' => e = .returned (.tuple #[]) ∧ Gr w w' := by
 go_enter Tryz.func157, Tryz.ntmps157
 go_wp2
 go_loopw [6] (fun v6 wr => v6 = .int .i64 1 ∧ Gr w wr) (fun _ _ => 0)
 case atStart => exact ⟨rfl, gri⟩
 case round =>
  obtain ⟨rfl, hg⟩ := hrel
  haveI := grc_of hg
  go_wp2
  exact ⟨rfl, .tuple #[], by simp [results, go_sem], ⟨rfl, hg.trans gri⟩⟩
theorem pdq_nil (lim : Nat) (w : World) : Calls Tryz.prog 135 #[.slice none 0 0, .int .i64 0, .int .i64 0, .int .i64 (lim : Int)] w fun e w' => e = .returned (.tuple #[]) ∧ Gr w w' := by
 go_enter Tryz.func135, Tryz.ntmps135
 go_wp2
 go_loopw [1, 2, 3, 8, 9] (fun v1 v2 v3 v8 v9 wr => v1 = .int .i64 0 ∧ v2 = .int .i64 0 ∧ v3 = .int .i64 (lim : Int) ∧ v8 = .bool true ∧ v9 = .bool true ∧ Gr w wr) (fun _ _ _ _ _ _ => 0)
 case atStart => exact ⟨rfl, rfl, rfl, rfl, rfl, gri⟩
 case round =>
  obtain ⟨rfl, rfl, rfl, rfl, rfl, hg⟩ := hrel
  haveI := grc_of hg
  have HG := Lib.hid hg
  go_wp2_with (first | (go_at_call 157; ((with_reducible refine (insertion_nil _).mono ?_); rintro _ _ ⟨rfl, ⟨g1, rfl⟩⟩)))
  refine bodyPost_ret (v := .tuple #[]) (by simp [results, go_sem]) rfl ⟨rfl, HG.out.trans gri⟩
theorem sort_nil (w : World) : Calls Tryz.prog 103 #[.slice none 0 0] w fun e w' => e = .returned (.tuple #[]) ∧ Gr w w' := by
 have HL := Lib.hid (fun W => len_any 0 (by omega) W)
 change Hid (∀ W, Calls Tryz.prog 133 #[.int .u64 0] W _) at HL
 go_enter Tryz.func103, Tryz.ntmps103
 go_wp2_with (first | (go_at_call 133; ((with_reducible refine (HL.out _).mono ?_); rintro _ _ ⟨k, rfl, k1, k2, k3, ⟨g1, rfl⟩⟩)) | (go_at_call 135; ((with_reducible refine (pdq_nil k _).mono ?_); rintro _ _ ⟨rfl, ⟨g2, rfl⟩⟩)))
 exact ⟨rfl, .tuple #[], by simp [results, go_sem], ⟨rfl, gri⟩⟩
end Go.Proofs.YtipeblmgochdfaaGreat.I
namespace Go.Proofs.YtipeblmgochdfaaGreat.I
open Go.RowKit
set_option linter.unusedVariables false
set_option linter.unusedSimpArgs false
set_option linter.unnecessarySimpa false
set_option maxRecDepth 100000
set_option maxHeartbeats 4000000
theorem keysfU (mb : Option Nat) (w : World) : Calls Tryz.prog 76 #[.map mb] w fun e w' => e = .returned (.func (.func 104) #[] #[.pointer (some ⟨w.heap.size, 0, none⟩)]) ∧ w' = w.alloc (.cells #[.map mb] 113) := by
 go_enter Tryz.func76, Tryz.ntmps76
 go_wp2
 go_ret
 exact ⟨rfl, rfl⟩
theorem collectU (Bm b : Nat) (L : List (Int × Value)) (hL : L.length ≤ 1000000) (w : World) (h1m : BlockAt w Bm #[.map (some b)] 113) (hm : MapAt .i64 w b L) : Calls Tryz.prog 102 #[.func (.func 104) #[] #[.pointer (some ⟨Bm, 0, none⟩)]] w fun e w' => ∃ v xs, e = .returned v ∧ OwnN sE w.heap.size w' v xs ∧ xs.Perm (L.map (·.1)) ∧ Gr w w' := by
 have H1 := Lib.hid h1m
 have HM := Lib.hid hm
 clear h1m hm
 go_enter Tryz.func102, Tryz.ntmps102
 go_wp2_with (first | (go_at_call 134; ((with_reducible refine (appseqI Bm b L hL _ (H1.out.gr gri) (HM.out.gr gri)).mono ?_); rintro _ _ ⟨v, xs, rfl, hv, hp, ⟨g1, rfl⟩⟩)))
 go_ret
 exact ⟨v, _, rfl, hv, hp, gri⟩
theorem sortOwn (z w : World) (v : Value) (xs : List Int) (h : OwnN sE z.heap.size w v xs) (hn : xs.length ≤ 256) (hg : Gr z w) : Calls Tryz.prog 103 #[v] w fun e w' => e = .returned (.tuple #[]) ∧ ∃ ys, OwnN sE z.heap.size w' v ys ∧ ys.Perm xs ∧ ys.Pairwise (· ≤ ·) ∧ Gr z w' := by
 rcases h.own.2 with ⟨rfl, h0⟩ | ⟨g, cap, cur, rfl, _⟩
 ·have : xs = [] := List.length_eq_zero_iff.1 (by simpa using h0)
  subst this
  refine (sort_nil w).mono ?_
  rintro _ W2 ⟨rfl, g2⟩
  exact ⟨rfl, [], h.gr g2, .refl _, .nil, hg.trans g2⟩
 ·refine (sort_any _ g _ cap xs w ⟨h⟩ hn).mono ?_
  rintro _ W2 ⟨rfl, ys, hy, hp, hs, ho⟩
  exact ⟨rfl, ys, hy.own, hp, hs, Gr.of (hg.below.grown ho hg.below.size (fun k e => by cases e; exact hy.ge))⟩
theorem sorted_keys {L : List (Int × Value)} (hs : SortK L) {ys : List Int} (hp : ys.Perm (L.map (·.1))) (h : ys.Pairwise (· ≤ ·)) : ys = L.map (·.1) := by
 refine hp.eq_of_pairwise (le := fun a b => a ≤ b) (fun a b _ _ h1 h2 => by omega) h ?_
 rw [List.pairwise_map]
 exact hs.imp fun h => by omega
theorem sortedU (Bm b : Nat) (L : List (Int × Value)) (hL : L.length ≤ 256) (w : World) (h1m : BlockAt w Bm #[.map (some b)] 113) (hm : MapAt .i64 w b L) : Calls Tryz.prog 75 #[.func (.func 104) #[] #[.pointer (some ⟨Bm, 0, none⟩)]] w fun e w' => ∃ v, e = .returned v ∧ OwnN sE w.heap.size w' v (L.map (·.1)) ∧ Gr w w' := by
 have H1 := Lib.hid h1m
 have HM := Lib.hid hm
 clear h1m hm
 go_enter Tryz.func75, Tryz.ntmps75
 go_wp2_with (first | (go_at_call 102; ((with_reducible refine (collectU Bm b L (by omega) _ (H1.out.gr gri) (HM.out.gr gri)).mono ?_); rintro _ _ ⟨v, xs, rfl, hv, hp, ⟨g1, rfl⟩⟩)))
 have HP := Lib.hid hp
 have hlen : xs.length ≤ 256 := by have := hp.length_eq; rw [List.length_map] at this; omega
 have HV := Lib.hid hv
 clear hv hp
 refine (sortOwn w _ v xs HV.out hlen gri).mono ?_
 rintro _ W2 ⟨rfl, ys, hy, hyp, hs, hg⟩
 haveI := grc_of hg
 have HY := Lib.hid hy
 have HE := Lib.hid (sorted_keys (HM.out.sort) (hyp.trans HP.out) hs)
 have HG := Lib.hid hg
 clear hy hyp hs hg
 go_wp2
 go_ret
 exact ⟨_, rfl, HE.out ▸ HY.out.gr gri, HG.out.trans gri⟩
end Go.Proofs.YtipeblmgochdfaaGreat.I
namespace Go.Proofs.YtipeblmgochdfaaGreat
open Go.RowKit
set_option linter.unusedVariables false
set_option linter.unusedSimpArgs false
set_option linter.unnecessarySimpa false
set_option maxRecDepth 100000
set_option maxHeartbeats 4000000
theorem keysK_len {L : List (Int × Byt)} {n : Int} (hs : SortK L) (hk : ∀ p ∈ L, 0 ≤ p.1 ∧ p.1 < n) (hn : n ≤ 256) : L.length ≤ 256 := by
 have h1 := nodup_le (L.map (·.1)) ((List.range 256).map fun k : Nat => (k : Int)) (by
  rw [List.nodup_iff_pairwise_ne, List.pairwise_map]
  exact hs.imp fun h e => by omega) (fun x hx => by
  obtain ⟨p, hp, rfl⟩ := List.mem_map.1 hx
  have := hk p hp
  exact List.mem_map.2 ⟨p.1.toNat, List.mem_range.2 (by omega), by omega⟩)
 simpa using h1
theorem mapped_any (base D : Nat) (d : Dev) (v : Int) (x : VolM) (hv : getK d v = some x) (w : World) (h : DevAt base w D d) : Calls Tryz.prog 52 #[.pointer (some ⟨D, 0, none⟩), .int .u64 v] w fun e w' => ∃ r, e = .returned r ∧ OwnN I.sE w.heap.size w' r (x.2.map (·.1)) ∧ Gr w w' := by
 obtain ⟨M, mb, h⟩ := h
 have HD := Lib.hid h
 have HT := Lib.hid (fun W (hW : Gr w W) => there_yes D M W (HD.out.blk.gr hW))
 haveI := h.blk
 have x0 : w.cell? ⟨D, 0, none⟩ = some (.map (some M)) := (@block_cells _ _ 0 _ _ h.blk).trans rfl
 haveI : Old D w := h.blk.old
 have hlk := look_vol1 h v _ hv
 simp only [volV] at hlk
 have HO := h.ok.vols _ ((getK_mem h.ok.sort).1 hv)
 have hlen := keysK_len HO.sort HO.keys HO.s1
 have HM := Lib.hid (h.vol _ ((getK_mem h.ok.sort).1 hv))
 clear h hv HO
 go_enter Tryz.func52, Tryz.ntmps52
 go_wp2_with (first | (go_at_call 50; ((with_reducible refine (HT.out _ gri).mono ?_); rintro _ _ ⟨rfl, g1, rfl⟩)) | (go_at_call 76; ((with_reducible refine (I.keysfU _ _).mono ?_); rintro _ _ ⟨rfl, rfl⟩)) | (go_at_call 75; ((with_reducible refine (I.sortedU _ (mb v) _ (by unfold encK; rw [List.length_map]; exact hlen) _ inferInstance (HM.out.gr gri)).mono ?_); rintro _ W2 ⟨r, rfl, hr, hg⟩; haveI := grc_of hg; have HV := Lib.hid hr; have HG := Lib.hid hg; clear hr hg)))
 go_ret
 have := HV.out
 simp only [encK, List.map_map, Function.comp_def] at this
 exact ⟨r, rfl, this.more (by have := (grown_below w g1).size; simp; omega), Gr.trans gri HG.out⟩
set_option maxRecDepth 100000
set_option maxHeartbeats 4000000

theorem insertion_any (base g n c : Nat) (xs : List Int) (a b : Nat) (w : World) (h : SA base w g n c xs) (hn : n ≤ 1000000) (hab : a ≤ b) (hb : b ≤ n) :
  Calls Tryz.prog 147 #[.slice (some ⟨g, 0, none⟩) n c, .int .i64 (a : Int), .int .i64 (b : Int)] w fun e w' => e = .returned (.tuple #[]) ∧ ∃ ys, SA base w' g n c ys ∧ RP a b xs ys ∧ Srt ys a b ∧ Onl w w' g := by
 have H := Lib.hid h
 clear h
 go_enter Tryz.func147, Tryz.ntmps147
 go_wp2
 go_loopw [6] (fun v6 wr => ∃ (i : Nat) (ys : List Int), a + 1 ≤ i ∧ (i ≤ b ∨ i = a + 1) ∧ v6 = .int .i64 (i : Int) ∧ SA base wr g n c ys ∧ RP a b xs ys ∧ Srt ys a i ∧ Onl w wr g) (fun v _ => b - (intOf v).toNat)
 case atStart => exact ⟨a + 1, xs, Nat.le_refl _, .inr rfl, by go_num, H.out.gr gri, .refl, fun i j h1 h2 h3 => by omega, Onl.of_gr gri g⟩
 case round =>
  obtain ⟨i, ys, hi1, hi2, rfl, hsa, hrp, hs, ho⟩ := hrel
  have HSA := Lib.hid hsa
  have HRP := Lib.hid hrp
  have HS := Lib.hid hs
  have HO := Lib.hid ho
  have hyl := hsa.len
  clear hsa hrp hs ho hi2
  obtain ⟨wo, rfl⟩ : ∃ wo : World, wo = wr := ⟨_, rfl⟩
  by_cases hib : i < b
  ·go_wp2
   go_loopw [7] (fun v7 wr => ∃ (j : Nat) (zs : List Int), a ≤ j ∧ j ≤ i ∧ v7 = .int .i64 (j : Int) ∧ SA base wr g n c zs ∧ RP a b xs zs ∧ Ins zs a i j ∧ Onl w wr g) (fun v _ => (intOf v).toNat)
   case atStart => exact ⟨i, ys, by omega, Nat.le_refl _, rfl, HSA.out.gr gri, HRP.out, ins_start HS.out, HO.out.trans (Onl.of_gr gri g)⟩
   case round =>
    obtain ⟨j, zs, hj1, hj2, rfl, hsa, hrp, hin, ho⟩ := hrel
    have HSA2 := Lib.hid hsa
    have HRP2 := Lib.hid hrp
    have HIN := Lib.hid hin
    have HO2 := Lib.hid ho
    have hzl := hsa.len
    haveI : Old g wr := ⟨hsa.lt⟩
    by_cases hja : a < j
    ·obtain ⟨m, hmj⟩ : ∃ m, m + 1 = j := ⟨j - 1, by omega⟩
     have c0 := hsa.cell j (by omega)
     have c1 := hsa.cell m (by omega)
     have hja2 : (a : Int) < (j : Int) := by omega
     have hjm : (j : Int) - 1 = (m : Int) := by omega
     have hw1 : IntKind.i64.wrap (m : Int) = (m : Int) := wrapS m (by omega)
     have hm1 : (m : Int) < (n : Int) := by omega
     have hm2 : (j : Int) < (n : Int) := by omega
     clear hsa hrp hin ho
     by_cases hlt : at0 zs j < at0 zs m
     ·have HL := Lib.hid (fun W => less_yes hlt W)
      have HLT := Lib.hid hlt
      clear hlt
      go_wp2
      refine wp_region_grow (by kernel_rfl) (by kernel_rfl) ?_
      repeat (go_big_quiet_step ((first | (go_at_call 141; exact grow_call (HL.out _)))))
      refine wpQuiet_nil ?_
      intro g1
      go_wp2
      have HSA3 := HSA2.out.gr (gri : Gr wr (grown wr g1))
      refine wp_region_treeJ ⟨fun w' => Gr (grown wr g1) w', true, fun _ _ h => h, fun _ _ _ h g => h.trans g⟩ rfl (Gr.of ((Below.refl _ _).drew)) [2, 3, 4] [0, 1, 5, 6, 7, 8, 9, 10, 11, 12, 13] 4 15 (by kernel_rfl) (by kernel_rfl) ?_
      simp only [pick, List.drop, List.take, List.nil_append, List.cons_append]
      refine wpPure_step (.slice (some ⟨g, 0, none⟩) n c) rfl (fun w => by go_simp) ?_
      simp only [Act.put, List.setIfInBounds_toArray, List.set]
      refine wpPure_step (.int .i64 (j : Int)) rfl (fun w => by go_simp) ?_
      simp only [Act.put, List.setIfInBounds_toArray, List.set]
      refine wpPure_step (.int .i64 (m : Int)) rfl (fun w => by go_simp) ?_
      simp only [Act.put, List.setIfInBounds_toArray, List.set]
      show wpCalm _ _ _ _ _ _
      repeat (refine wpCalm_step (fun K hK => ?_); go_simp; first | (refine hK _ ?_; clear hK K) | (apply Exists.intro; refine ⟨fun _ => ?_, hK _ ?_⟩; (skip); clear hK K))
      refine wpCalm_nil ?_
      refine fg_one 14 (by kernel_rfl) ?_
      refine fg_pure (.pointer (some ⟨g, j, none⟩)) rfl rfl rfl (fun w => by go_simp) ?_
      simp only [Act.put, List.setIfInBounds_toArray, List.set]
      refine fg_one 15 (by kernel_rfl) ?_
      refine fg_effN rfl rfl rfl (fun w1 hw1 => ?_)
      have sa1 := SA.gr HSA3 hw1
      have t0 := sa1.cell j (by have := hzl; omega)
      have t1 := sa1.frozen j
      haveI oG : Old g w1 := ⟨sa1.lt⟩
      have hrun : (storeVar 28 ⟨g, j, none⟩ (.int .u64 (at0 zs m))).run Tryz.prog w1 = .ok () (w1.setCell ⟨g, j, none⟩ (.int .u64 (at0 zs m))) := by go_simp
      refine effAt_stS rfl rfl rfl hrun ⟨⟨fun w2 => SA base w2 g n c (zs.set j (at0 zs m)) ∧ Onl (grown wr g1) w2 g, false, fun e => Bool.noConfusion e, fun e => Bool.noConfusion e⟩, ⟨sa1.put j _ (by have := hzl; omega), (Onl.of_gr hw1 g).trans (Onl.set _ g j _)⟩, fun e => absurd rfl e, ?_⟩
      clear oG sa1 t0 t1 hrun hw1 w1
      try simp only [Act.put, List.setIfInBounds_toArray, List.set]
      refine fg_one 16 (by kernel_rfl) ?_
      refine fg_pure (.pointer (some ⟨g, m, none⟩)) rfl rfl rfl (fun w => by go_simp) ?_
      simp only [Act.put, List.setIfInBounds_toArray, List.set]
      refine fg_one 17 (by kernel_rfl) ?_
      refine fg_effN rfl rfl rfl (fun w1 hw1 => ?_)
      have t0 := hw1.1.cell m (by rw [List.length_set]; have := hzl; omega)
      have t1 := hw1.1.frozen m
      haveI oG : Old g w1 := ⟨hw1.1.lt⟩
      have hrun : (storeVar 28 ⟨g, m, none⟩ (.int .u64 (at0 zs j))).run Tryz.prog w1 = .ok () (w1.setCell ⟨g, m, none⟩ (.int .u64 (at0 zs j))) := by go_simp
      refine effAt_stS rfl rfl rfl hrun ⟨⟨fun w2 => SA base w2 g n c (swp zs j m) ∧ Onl (grown wr g1) w2 g, false, fun e => Bool.noConfusion e, fun e => Bool.noConfusion e⟩, ⟨hw1.1.put m _ (by rw [List.length_set]; have := hzl; omega), hw1.2.trans (Onl.set _ g m _)⟩, fun _ e => Bool.noConfusion e, ?_⟩
      clear oG t0 t1 hrun hw1 w1
      refine fg_end (by kernel_rfl) (fun w5 hw5 => ?_)
      try simp only [Act.put]
      have HF := Lib.hid hw5
      clear hw5
      go_wp2
      go_roundw
      case rel =>
       have e : m = j - 1 := by omega
       subst e
       exact ⟨j - 1, swp zs j (j - 1), by omega, by omega, by first | rfl | go_num, HF.out.1.gr gri, .swap HRP2.out j (j - 1) (by omega) (by omega) (by omega) (by omega) (by omega), ins_step HIN.out (by omega) hj2 (by omega) HLT.out, (HO2.out.trans (Onl.of_gr gri g)).trans (HF.out.2.trans (Onl.of_gr gri g))⟩
      case measure => simp [intOf] <;> omega
     ·have HL := Lib.hid (fun W => less_no hlt W)
      have HLT := Lib.hid hlt
      clear hlt
      go_wp2
      refine wp_region_grow (by kernel_rfl) (by kernel_rfl) ?_
      repeat (go_big_quiet_step ((first | (go_at_call 141; exact grow_call (HL.out _)))))
      refine wpQuiet_nil ?_
      intro g1
      go_wp2
      go_roundw
      case rel => exact ⟨i + 1, zs, by omega, .inl (by omega), by go_num, HSA2.out.gr gri, HRP2.out, ins_end HIN.out hj2 (.inr (by rw [← hmj, Nat.add_sub_cancel, hmj]; exact Int.not_lt.2 HLT.out)), HO2.out.trans (Onl.of_gr gri g)⟩
      case measure => simp [intOf] <;> omega
    ·have e : j = a := by omega
     have hja2 : ¬ (a : Int) < (j : Int) := by omega
     clear hsa hrp hin ho
     go_wp2
     refine wp_region_grow (by kernel_rfl) (by kernel_rfl) ?_
     repeat (go_big_quiet_step (fail))
     refine wpQuiet_nil ?_
     intro g1
     go_wp2
     go_roundw
     case rel => exact ⟨i + 1, zs, by omega, .inl (by omega), by go_num, HSA2.out.gr gri, HRP2.out, ins_end HIN.out hj2 (.inl e), HO2.out.trans (Onl.of_gr gri g)⟩
     case measure => simp [intOf] <;> omega
  ·go_wp2
   exact ⟨rfl, .tuple #[], by simp [results, go_sem], ⟨rfl, ys, HSA.out.gr gri, HRP.out, fun p q h1 h2 h3 => HS.out p q h1 h2 (by omega), HO.out.trans (Onl.of_gr gri g)⟩⟩
set_option maxRecDepth 100000
set_option maxHeartbeats 4000000

theorem sift_any (base g n c : Nat) (xs : List Int) (lo hi f : Nat) (w : World) (h : SA base w g n c xs) (hn : n ≤ 1000000) (hlo : lo ≤ hi) (hfn : f + hi ≤ n) (hp : Hp xs f (lo + 1) hi) :
  Calls Tryz.prog 177 #[.slice (some ⟨g, 0, none⟩) n c, .int .i64 (lo : Int), .int .i64 (hi : Int), .int .i64 (f : Int)] w fun e w' => e = .returned (.tuple #[]) ∧ ∃ ys, SA base w' g n c ys ∧ RP f (f + hi) xs ys ∧ Hp ys f lo hi ∧ Onl w w' g := by
 have H := Lib.hid h
 have HP := Lib.hid hp
 clear h hp
 go_enter Tryz.func177, Tryz.ntmps177
 go_wp2
 go_loopw [8] (fun v8 wr => ∃ (r : Nat) (ys : List Int), lo ≤ r ∧ (r < hi ∨ r = lo) ∧ v8 = .int .i64 (r : Int) ∧ SA base wr g n c ys ∧ RP f (f + hi) xs ys ∧ Hq ys f lo hi r ∧ Onl w wr g) (fun v _ => hi - (intOf v).toNat)
 case atStart => exact ⟨lo, xs, Nat.le_refl _, .inr rfl, rfl, H.out.gr gri, .refl, hq_start HP.out, Onl.of_gr gri g⟩
 case round =>
  obtain ⟨r, ys, hr1, hr2, rfl, hsa, hrp, hq, ho⟩ := hrel
  have HSA := Lib.hid hsa
  have HRP := Lib.hid hrp
  have HQ := Lib.hid hq
  have HO := Lib.hid ho
  have hyl := hsa.len
  haveI : Old g wr := ⟨hsa.lt⟩
  obtain ⟨q, hq⟩ : ∃ q, 2 * r = q := ⟨_, rfl⟩
  have rq : (2 : Int) * (r : Int) = (q : Int) := by omega
  have wq : IntKind.i64.wrap (q : Int) = (q : Int) := wrapS q (by omega)
  obtain ⟨e, he⟩ : ∃ e, q + 1 = e := ⟨_, rfl⟩
  have re : (q : Int) + 1 = (e : Int) := by omega
  have we : IntKind.i64.wrap (e : Int) = (e : Int) := wrapS e (by omega)
  by_cases hch : e < hi
  ·have hch2 : ¬ (hi : Int) ≤ (e : Int) := by omega
   obtain ⟨e1, he1⟩ : ∃ e1, e + 1 = e1 := ⟨_, rfl⟩
   have re1 : (e : Int) + 1 = (e1 : Int) := by omega
   have we1 : IntKind.i64.wrap (e1 : Int) = (e1 : Int) := wrapS e1 (by omega)
   obtain ⟨fe, hfe⟩ : ∃ fe, f + e = fe := ⟨_, rfl⟩
   have rfe : (f : Int) + (e : Int) = (fe : Int) := by omega
   have wfe : IntKind.i64.wrap (fe : Int) = (fe : Int) := wrapS fe (by omega)
   have bfe : (fe : Int) < (n : Int) := by omega
   obtain ⟨fr, hfr⟩ : ∃ fr, f + r = fr := ⟨_, rfl⟩
   have rfr : (f : Int) + (r : Int) = (fr : Int) := by omega
   have wfr : IntKind.i64.wrap (fr : Int) = (fr : Int) := wrapS fr (by omega)
   have bfr : (fr : Int) < (n : Int) := by omega
   have c0 := hsa.cell fe (by omega)
   have c1 := hsa.cell fr (by omega)
   by_cases hc2 : e1 < hi
   ·have hc3 : (e1 : Int) < (hi : Int) := by omega
    obtain ⟨fe1, hfe1⟩ : ∃ fe1, fe + 1 = fe1 := ⟨_, rfl⟩
    have rfe1 : (fe : Int) + 1 = (fe1 : Int) := by omega
    have wfe1 : IntKind.i64.wrap (fe1 : Int) = (fe1 : Int) := wrapS fe1 (by omega)
    have bfe1 : (fe1 : Int) < (n : Int) := by omega
    have rfe2 : (f : Int) + (e1 : Int) = (fe1 : Int) := by omega
    have c2 := hsa.cell fe1 (by omega)
    clear hsa hrp hq ho
    by_cases hl1 : at0 ys fe < at0 ys fe1
    ·have HL1 := Lib.hid (fun W => less_yes hl1 W)
     have HMAX := Lib.hid (show ∀ k, k = 2 * r + 1 ∨ k = 2 * r + 2 → k < hi → at0 ys (f + k) ≤ at0 ys (f + e1) from fun k hk1 hk2 => by
      rcases hk1 with rfl | rfl
      ·rw [show f + (2 * r + 1) = fe by omega, show f + e1 = fe1 by omega]; omega
      ·rw [show f + (2 * r + 2) = f + e1 by omega]; exact Int.le_refl _)
     clear hl1
     go_wp2
     refine wp_region_grow (by kernel_rfl) (by kernel_rfl) ?_
     repeat (go_big_quiet_step ((first | (go_at_call 141; exact grow_call (HL1.out _)))))
     refine wpQuiet_nil ?_
     intro g1
     go_wp2
     by_cases hl2 : at0 ys fr < at0 ys fe1
     ·have HL2 := Lib.hid (fun W => less_yes hl2 W)
      have HLT := Lib.hid hl2
      clear hl2
      go_wp2
      refine wp_region_grow (by kernel_rfl) (by kernel_rfl) ?_
      repeat (go_big_quiet_step ((first | (go_at_call 141; exact grow_call (HL2.out _)))))
      refine wpQuiet_nil ?_
      intro g2
      go_wp2
      have HSA3 := HSA.out.gr (gri : Gr wr (grown (grown wr g1) g2))
      refine wp_region_treeJ ⟨fun w' => Gr (grown (grown wr g1) g2) w', true, fun _ _ h => h, fun _ _ _ h g => h.trans g⟩ rfl (Gr.of ((Below.refl _ _).drew)) [4, 5, 6, 7] [0, 1, 2, 3, 8, 9, 10, 11, 12, 13, 14, 15, 16, 17, 18, 19] 4 21 (by kernel_rfl) (by kernel_rfl) ?_
      simp only [pick, List.drop, List.take, List.nil_append, List.cons_append]
      refine wpPure_step (.slice (some ⟨g, 0, none⟩) n c) rfl (fun w => by go_simp) ?_
      simp only [Act.put, List.setIfInBounds_toArray, List.set]
      refine wpPure_step (.int .i64 (f : Int)) rfl (fun w => by go_simp) ?_
      simp only [Act.put, List.setIfInBounds_toArray, List.set]
      refine wpPure_step (.int .i64 (e1 : Int)) rfl (fun w => by go_simp) ?_
      simp only [Act.put, List.setIfInBounds_toArray, List.set]
      refine wpPure_step (.int .i64 (fe1 : Int)) rfl (fun w => by go_simp) ?_
      simp only [Act.put, List.setIfInBounds_toArray, List.set]
      show wpCalm _ _ _ _ _ _
      repeat (refine wpCalm_step (fun K hK => ?_); go_simp; first | (refine hK _ ?_; clear hK K) | (apply Exists.intro; refine ⟨fun _ => ?_, hK _ ?_⟩; (skip); clear hK K))
      refine wpCalm_nil ?_
      refine fg_one 20 (by kernel_rfl) ?_
      refine fg_pure (.pointer (some ⟨g, fr, none⟩)) rfl rfl rfl (fun w => by go_simp) ?_
      simp only [Act.put, List.setIfInBounds_toArray, List.set]
      refine fg_one 21 (by kernel_rfl) ?_
      refine fg_effN rfl rfl rfl (fun w1 hw1 => ?_)
      have sa1 := SA.gr HSA3 hw1
      have t0 := sa1.cell fr (by have := hyl; omega)
      have t1 := sa1.frozen fr
      haveI oG : Old g w1 := ⟨sa1.lt⟩
      have hrun : (storeVar 28 ⟨g, fr, none⟩ (.int .u64 (at0 ys fe1))).run Tryz.prog w1 = .ok () (w1.setCell ⟨g, fr, none⟩ (.int .u64 (at0 ys fe1))) := by go_simp
      refine effAt_stS rfl rfl rfl hrun ⟨⟨fun w2 => SA base w2 g n c (ys.set fr (at0 ys fe1)) ∧ Onl (grown (grown wr g1) g2) w2 g, false, fun e => Bool.noConfusion e, fun e => Bool.noConfusion e⟩, ⟨sa1.put fr _ (by have := hyl; omega), (Onl.of_gr hw1 g).trans (Onl.set _ g fr _)⟩, fun e => absurd rfl e, ?_⟩
      clear oG sa1 t0 t1 hrun hw1 w1
      try simp only [Act.put, List.setIfInBounds_toArray, List.set]
      refine fg_one 22 (by kernel_rfl) ?_
      refine fg_pure (.pointer (some ⟨g, fe1, none⟩)) rfl rfl rfl (fun w => by go_simp) ?_
      simp only [Act.put, List.setIfInBounds_toArray, List.set]
      refine fg_one 23 (by kernel_rfl) ?_
      refine fg_effN rfl rfl rfl (fun w1 hw1 => ?_)
      have t0 := hw1.1.cell fe1 (by rw [List.length_set]; have := hyl; omega)
      have t1 := hw1.1.frozen fe1
      haveI oG : Old g w1 := ⟨hw1.1.lt⟩
      have hrun : (storeVar 28 ⟨g, fe1, none⟩ (.int .u64 (at0 ys fr))).run Tryz.prog w1 = .ok () (w1.setCell ⟨g, fe1, none⟩ (.int .u64 (at0 ys fr))) := by go_simp
      refine effAt_stS rfl rfl rfl hrun ⟨⟨fun w2 => SA base w2 g n c (swp ys fr fe1) ∧ Onl (grown (grown wr g1) g2) w2 g, false, fun e => Bool.noConfusion e, fun e => Bool.noConfusion e⟩, ⟨hw1.1.put fe1 _ (by rw [List.length_set]; have := hyl; omega), hw1.2.trans (Onl.set _ g fe1 _)⟩, fun _ e => Bool.noConfusion e, ?_⟩
      clear oG t0 t1 hrun hw1 w1
      refine fg_end (by kernel_rfl) (fun w5 hw5 => ?_)
      try simp only [Act.put]
      have HF := Lib.hid hw5
      clear hw5
      go_wp2
      go_roundw
      case rel =>
       subst hfr
       have e9 : f + e1 = fe1 := by omega
       subst e9
       exact ⟨e1, swp ys (f + r) (f + e1), by omega, by omega, rfl, HF.out.1.gr gri, .swap HRP.out (f + r) (f + e1) (by omega) (by omega) (by omega) (by omega) (by omega), hq_step HQ.out hr1 (by omega) (by omega) (by omega) HMAX.out HLT.out, (HO.out.trans (Onl.of_gr gri g)).trans (HF.out.2.trans (Onl.of_gr gri g))⟩
      case measure => simp [intOf] <;> omega
     ·have HL2 := Lib.hid (fun W => less_no hl2 W)
      have HLT := Lib.hid hl2
      clear hl2
      go_wp2
      refine wp_region_grow (by kernel_rfl) (by kernel_rfl) ?_
      repeat (go_big_quiet_step ((first | (go_at_call 141; exact grow_call (HL2.out _)))))
      refine wpQuiet_nil ?_
      intro g2
      go_wp2
      refine bodyPost_ret (v := .tuple #[]) (by simp [results, go_sem]) rfl ⟨rfl, ys, HSA.out.gr gri, HRP.out, hq_end HQ.out fun k9 h1 h2 => (by
       have e9 : f + e1 = fe1 := by omega
       have h3 := HMAX.out k9 h1 h2
       have h4 := Int.not_lt.2 HLT.out
       subst hfr
       rw [e9] at h3
       omega), HO.out.trans (Onl.of_gr gri g)⟩
    ·have HL1 := Lib.hid (fun W => less_no hl1 W)
     have HMAX := Lib.hid (show ∀ k, k = 2 * r + 1 ∨ k = 2 * r + 2 → k < hi → at0 ys (f + k) ≤ at0 ys (f + e) from fun k hk1 hk2 => by
      rcases hk1 with rfl | rfl
      ·rw [show f + (2 * r + 1) = f + e by omega]; exact Int.le_refl _
      ·rw [show f + (2 * r + 2) = fe1 by omega, show f + e = fe by omega]; omega)
     clear hl1
     go_wp2
     refine wp_region_grow (by kernel_rfl) (by kernel_rfl) ?_
     repeat (go_big_quiet_step ((first | (go_at_call 141; exact grow_call (HL1.out _)))))
     refine wpQuiet_nil ?_
     intro g1
     go_wp2
     by_cases hl2 : at0 ys fr < at0 ys fe
     ·have HL2 := Lib.hid (fun W => less_yes hl2 W)
      have HLT := Lib.hid hl2
      clear hl2
      go_wp2
      refine wp_region_grow (by kernel_rfl) (by kernel_rfl) ?_
      repeat (go_big_quiet_step ((first | (go_at_call 141; exact grow_call (HL2.out _)))))
      refine wpQuiet_nil ?_
      intro g2
      go_wp2
      have HSA3 := HSA.out.gr (gri : Gr wr (grown (grown wr g1) g2))
      refine wp_region_treeJ ⟨fun w' => Gr (grown (grown wr g1) g2) w', true, fun _ _ h => h, fun _ _ _ h g => h.trans g⟩ rfl (Gr.of ((Below.refl _ _).drew)) [4, 5, 6, 7] [0, 1, 2, 3, 8, 9, 10, 11, 12, 13, 14, 15, 16, 17, 18, 19] 4 21 (by kernel_rfl) (by kernel_rfl) ?_
      simp only [pick, List.drop, List.take, List.nil_append, List.cons_append]
      refine wpPure_step (.slice (some ⟨g, 0, none⟩) n c) rfl (fun w => by go_simp) ?_
      simp only [Act.put, List.setIfInBounds_toArray, List.set]
      refine wpPure_step (.int .i64 (f : Int)) rfl (fun w => by go_simp) ?_
      simp only [Act.put, List.setIfInBounds_toArray, List.set]
      refine wpPure_step (.int .i64 (e : Int)) rfl (fun w => by go_simp) ?_
      simp only [Act.put, List.setIfInBounds_toArray, List.set]
      refine wpPure_step (.int .i64 (fe : Int)) rfl (fun w => by go_simp) ?_
      simp only [Act.put, List.setIfInBounds_toArray, List.set]
      show wpCalm _ _ _ _ _ _
      repeat (refine wpCalm_step (fun K hK => ?_); go_simp; first | (refine hK _ ?_; clear hK K) | (apply Exists.intro; refine ⟨fun _ => ?_, hK _ ?_⟩; (skip); clear hK K))
      refine wpCalm_nil ?_
      refine fg_one 20 (by kernel_rfl) ?_
      refine fg_pure (.pointer (some ⟨g, fr, none⟩)) rfl rfl rfl (fun w => by go_simp) ?_
      simp only [Act.put, List.setIfInBounds_toArray, List.set]
      refine fg_one 21 (by kernel_rfl) ?_
      refine fg_effN rfl rfl rfl (fun w1 hw1 => ?_)
      have sa1 := SA.gr HSA3 hw1
      have t0 := sa1.cell fr (by have := hyl; omega)
      have t1 := sa1.frozen fr
      haveI oG : Old g w1 := ⟨sa1.lt⟩
      have hrun : (storeVar 28 ⟨g, fr, none⟩ (.int .u64 (at0 ys fe))).run Tryz.prog w1 = .ok () (w1.setCell ⟨g, fr, none⟩ (.int .u64 (at0 ys fe))) := by go_simp
      refine effAt_stS rfl rfl rfl hrun ⟨⟨fun w2 => SA base w2 g n c (ys.set fr (at0 ys fe)) ∧ Onl (grown (grown wr g1) g2) w2 g, false, fun e => Bool.noConfusion e, fun e => Bool.noConfusion e⟩, ⟨sa1.put fr _ (by have := hyl; omega), (Onl.of_gr hw1 g).trans (Onl.set _ g fr _)⟩, fun e => absurd rfl e, ?_⟩
      clear oG sa1 t0 t1 hrun hw1 w1
      try simp only [Act.put, List.setIfInBounds_toArray, List.set]
      refine fg_one 22 (by kernel_rfl) ?_
      refine fg_pure (.pointer (some ⟨g, fe, none⟩)) rfl rfl rfl (fun w => by go_simp) ?_
      simp only [Act.put, List.setIfInBounds_toArray, List.set]
      refine fg_one 23 (by kernel_rfl) ?_
      refine fg_effN rfl rfl rfl (fun w1 hw1 => ?_)
      have t0 := hw1.1.cell fe (by rw [List.length_set]; have := hyl; omega)
      have t1 := hw1.1.frozen fe
      haveI oG : Old g w1 := ⟨hw1.1.lt⟩
      have hrun : (storeVar 28 ⟨g, fe, none⟩ (.int .u64 (at0 ys fr))).run Tryz.prog w1 = .ok () (w1.setCell ⟨g, fe, none⟩ (.int .u64 (at0 ys fr))) := by go_simp
      refine effAt_stS rfl rfl rfl hrun ⟨⟨fun w2 => SA base w2 g n c (swp ys fr fe) ∧ Onl (grown (grown wr g1) g2) w2 g, false, fun e => Bool.noConfusion e, fun e => Bool.noConfusion e⟩, ⟨hw1.1.put fe _ (by rw [List.length_set]; have := hyl; omega), hw1.2.trans (Onl.set _ g fe _)⟩, fun _ e => Bool.noConfusion e, ?_⟩
      clear oG t0 t1 hrun hw1 w1
      refine fg_end (by kernel_rfl) (fun w5 hw5 => ?_)
      try simp only [Act.put]
      have HF := Lib.hid hw5
      clear hw5
      go_wp2
      go_roundw
      case rel =>
       subst hfr
       have e9 : f + e = fe := by omega
       subst e9
       exact ⟨e, swp ys (f + r) (f + e), by omega, by omega, rfl, HF.out.1.gr gri, .swap HRP.out (f + r) (f + e) (by omega) (by omega) (by omega) (by omega) (by omega), hq_step HQ.out hr1 (by omega) (by omega) (by omega) HMAX.out HLT.out, (HO.out.trans (Onl.of_gr gri g)).trans (HF.out.2.trans (Onl.of_gr gri g))⟩
      case measure => simp [intOf] <;> omega
     ·have HL2 := Lib.hid (fun W => less_no hl2 W)
      have HLT := Lib.hid hl2
      clear hl2
      go_wp2
      refine wp_region_grow (by kernel_rfl) (by kernel_rfl) ?_
      repeat (go_big_quiet_step ((first | (go_at_call 141; exact grow_call (HL2.out _)))))
      refine wpQuiet_nil ?_
      intro g2
      go_wp2
      refine bodyPost_ret (v := .tuple #[]) (by simp [results, go_sem]) rfl ⟨rfl, ys, HSA.out.gr gri, HRP.out, hq_end HQ.out fun k9 h1 h2 => (by
       have e9 : f + e = fe := by omega
       have h3 := HMAX.out k9 h1 h2
       have h4 := Int.not_lt.2 HLT.out
       subst hfr
       rw [e9] at h3
       omega), HO.out.trans (Onl.of_gr gri g)⟩
   ·have hc3 : ¬ (e1 : Int) < (hi : Int) := by omega
    have HMAX := Lib.hid (show ∀ k, k = 2 * r + 1 ∨ k = 2 * r + 2 → k < hi → at0 ys (f + k) ≤ at0 ys (f + e) from fun k hk1 hk2 => by
     rcases hk1 with rfl | rfl
     ·rw [show f + (2 * r + 1) = f + e by omega]; exact Int.le_refl _
     ·omega)
    clear hsa hrp hq ho
    go_wp2
    refine wp_region_grow (by kernel_rfl) (by kernel_rfl) ?_
    repeat (go_big_quiet_step (fail))
    refine wpQuiet_nil ?_
    intro g1
    go_wp2
    by_cases hl2 : at0 ys fr < at0 ys fe
    ·have HL2 := Lib.hid (fun W => less_yes hl2 W)
     have HLT := Lib.hid hl2
     clear hl2
     go_wp2
     refine wp_region_grow (by kernel_rfl) (by kernel_rfl) ?_
     repeat (go_big_quiet_step ((first | (go_at_call 141; exact grow_call (HL2.out _)))))
     refine wpQuiet_nil ?_
     intro g2
     go_wp2
     have HSA3 := HSA.out.gr (gri : Gr wr (grown (grown wr g1) g2))
     refine wp_region_treeJ ⟨fun w' => Gr (grown (grown wr g1) g2) w', true, fun _ _ h => h, fun _ _ _ h g => h.trans g⟩ rfl (Gr.of ((Below.refl _ _).drew)) [4, 5, 6, 7] [0, 1, 2, 3, 8, 9, 10, 11, 12, 13, 14, 15, 16, 17, 18, 19] 4 21 (by kernel_rfl) (by kernel_rfl) ?_
     simp only [pick, List.drop, List.take, List.nil_append, List.cons_append]
     refine wpPure_step (.slice (some ⟨g, 0, none⟩) n c) rfl (fun w => by go_simp) ?_
     simp only [Act.put, List.setIfInBounds_toArray, List.set]
     refine wpPure_step (.int .i64 (f : Int)) rfl (fun w => by go_simp) ?_
     simp only [Act.put, List.setIfInBounds_toArray, List.set]
     refine wpPure_step (.int .i64 (e : Int)) rfl (fun w => by go_simp) ?_
     simp only [Act.put, List.setIfInBounds_toArray, List.set]
     refine wpPure_step (.int .i64 (fe : Int)) rfl (fun w => by go_simp) ?_
     simp only [Act.put, List.setIfInBounds_toArray, List.set]
     show wpCalm _ _ _ _ _ _
     repeat (refine wpCalm_step (fun K hK => ?_); go_simp; first | (refine hK _ ?_; clear hK K) | (apply Exists.intro; refine ⟨fun _ => ?_, hK _ ?_⟩; (skip); clear hK K))
     refine wpCalm_nil ?_
     refine fg_one 20 (by kernel_rfl) ?_
     refine fg_pure (.pointer (some ⟨g, fr, none⟩)) rfl rfl rfl (fun w => by go_simp) ?_
     simp only [Act.put, List.setIfInBounds_toArray, List.set]
     refine fg_one 21 (by kernel_rfl) ?_
     refine fg_effN rfl rfl rfl (fun w1 hw1 => ?_)
     have sa1 := SA.gr HSA3 hw1
     have t0 := sa1.cell fr (by have := hyl; omega)
     have t1 := sa1.frozen fr
     haveI oG : Old g w1 := ⟨sa1.lt⟩
     have hrun : (storeVar 28 ⟨g, fr, none⟩ (.int .u64 (at0 ys fe))).run Tryz.prog w1 = .ok () (w1.setCell ⟨g, fr, none⟩ (.int .u64 (at0 ys fe))) := by go_simp
     refine effAt_stS rfl rfl rfl hrun ⟨⟨fun w2 => SA base w2 g n c (ys.set fr (at0 ys fe)) ∧ Onl (grown (grown wr g1) g2) w2 g, false, fun e => Bool.noConfusion e, fun e => Bool.noConfusion e⟩, ⟨sa1.put fr _ (by have := hyl; omega), (Onl.of_gr hw1 g).trans (Onl.set _ g fr _)⟩, fun e => absurd rfl e, ?_⟩
     clear oG sa1 t0 t1 hrun hw1 w1
     try simp only [Act.put, List.setIfInBounds_toArray, List.set]
     refine fg_one 22 (by kernel_rfl) ?_
     refine fg_pure (.pointer (some ⟨g, fe, none⟩)) rfl rfl rfl (fun w => by go_simp) ?_
     simp only [Act.put, List.setIfInBounds_toArray, List.set]
     refine fg_one 23 (by kernel_rfl) ?_
     refine fg_effN rfl rfl rfl (fun w1 hw1 => ?_)
     have t0 := hw1.1.cell fe (by rw [List.length_set]; have := hyl; omega)
     have t1 := hw1.1.frozen fe
     haveI oG : Old g w1 := ⟨hw1.1.lt⟩
     have hrun : (storeVar 28 ⟨g, fe, none⟩ (.int .u64 (at0 ys fr))).run Tryz.prog w1 = .ok () (w1.setCell ⟨g, fe, none⟩ (.int .u64 (at0 ys fr))) := by go_simp
     refine effAt_stS rfl rfl rfl hrun ⟨⟨fun w2 => SA base w2 g n c (swp ys fr fe) ∧ Onl (grown (grown wr g1) g2) w2 g, false, fun e => Bool.noConfusion e, fun e => Bool.noConfusion e⟩, ⟨hw1.1.put fe _ (by rw [List.length_set]; have := hyl; omega), hw1.2.trans (Onl.set _ g fe _)⟩, fun _ e => Bool.noConfusion e, ?_⟩
     clear oG t0 t1 hrun hw1 w1
     refine fg_end (by kernel_rfl) (fun w5 hw5 => ?_)
     try simp only [Act.put]
     have HF := Lib.hid hw5
     clear hw5
     go_wp2
     go_roundw
     case rel =>
      subst hfr
      have e9 : f + e = fe := by omega
      subst e9
      exact ⟨e, swp ys (f + r) (f + e), by omega, by omega, rfl, HF.out.1.gr gri, .swap HRP.out (f + r) (f + e) (by omega) (by omega) (by omega) (by omega) (by omega), hq_step HQ.out hr1 (by omega) (by omega) (by omega) HMAX.out HLT.out, (HO.out.trans (Onl.of_gr gri g)).trans (HF.out.2.trans (Onl.of_gr gri g))⟩
     case measure => simp [intOf] <;> omega
    ·have HL2 := Lib.hid (fun W => less_no hl2 W)
     have HLT := Lib.hid hl2
     clear hl2
     go_wp2
     refine wp_region_grow (by kernel_rfl) (by kernel_rfl) ?_
     repeat (go_big_quiet_step ((first | (go_at_call 141; exact grow_call (HL2.out _)))))
     refine wpQuiet_nil ?_
     intro g2
     go_wp2
     refine bodyPost_ret (v := .tuple #[]) (by simp [results, go_sem]) rfl ⟨rfl, ys, HSA.out.gr gri, HRP.out, hq_end HQ.out fun k9 h1 h2 => (by
      have e9 : f + e = fe := by omega
      have h3 := HMAX.out k9 h1 h2
      have h4 := Int.not_lt.2 HLT.out
      subst hfr
      rw [e9] at h3
      omega), HO.out.trans (Onl.of_gr gri g)⟩
  ·have hch2 : (hi : Int) ≤ (e : Int) := by omega
   clear hsa hrp hq ho
   go_wp2
   exact ⟨rfl, .tuple #[], by simp [results, go_sem], ⟨rfl, ys, HSA.out.gr gri, HRP.out, hq_end HQ.out (fun k h1 h2 => by omega), HO.out.trans (Onl.of_gr gri g)⟩⟩
theorem sift0_any (base g n c : Nat) (xs : List Int) (hi f : Nat) (w : World) (h : SA base w g n c xs) (hn : n ≤ 1000000) (hfn : f + hi ≤ n) (hp : Hp xs f 1 hi) :
  Calls Tryz.prog 177 #[.slice (some ⟨g, 0, none⟩) n c, .int .i64 0, .int .i64 (hi : Int), .int .i64 (f : Int)] w fun e w' => e = .returned (.tuple #[]) ∧ ∃ ys, SA base w' g n c ys ∧ RP f (f + hi) xs ys ∧ Hp ys f 0 hi ∧ Onl w w' g :=
 sift_any base g n c xs 0 hi f w h hn (Nat.zero_le _) hfn hp
set_option maxRecDepth 100000
set_option maxHeartbeats 4000000

theorem heap_any (base g n c : Nat) (xs : List Int) (a b : Nat) (w : World) (h : SA base w g n c xs) (hn : n ≤ 1000000) (hab : a < b) (hb : b ≤ n) :
  Calls Tryz.prog 148 #[.slice (some ⟨g, 0, none⟩) n c, .int .i64 (a : Int), .int .i64 (b : Int)] w fun e w' => e = .returned (.tuple #[]) ∧ ∃ ys, SA base w' g n c ys ∧ RP a b xs ys ∧ Srt ys a b ∧ Onl w w' g := by
 have H := Lib.hid h
 have hxl := h.len
 clear h
 obtain ⟨m, hm⟩ : ∃ m, b - a = m := ⟨_, rfl⟩
 have rm : (b : Int) - (a : Int) = (m : Int) := by omega
 have wm : IntKind.i64.wrap (m : Int) = (m : Int) := wrapS m (by omega)
 obtain ⟨m1, hm1⟩ : ∃ m1, m - 1 = m1 := ⟨_, rfl⟩
 have rm1 : (m : Int) - 1 = (m1 : Int) := by omega
 have wm1 : IntKind.i64.wrap (m1 : Int) = (m1 : Int) := wrapS m1 (by omega)
 obtain ⟨m2, hm2⟩ : ∃ m2, m1 / 2 = m2 := ⟨_, rfl⟩
 have rt : (m1 : Int) / 2 = (m2 : Int) := by omega
 have w2 : IntKind.i64.wrap (m2 : Int) = (m2 : Int) := wrapS m2 (by omega)
 have hmab : a + m = b := by omega
 go_enter Tryz.func148, Tryz.ntmps148
 go_wp2
 go_loopw [9] (fun v9 wr => ∃ (z : Int) (ys : List Int), -1 ≤ z ∧ z ≤ m2 ∧ v9 = .int .i64 z ∧ SA base wr g n c ys ∧ RP a b xs ys ∧ Hp ys a (z + 1).toNat m ∧ Onl w wr g) (fun v _ => (intOf v + 1).toNat)
 case atStart => exact ⟨m2, xs, by omega, Int.le_refl _, rfl, H.out.gr gri, .refl, hp_leaf _ _ _ _ (by omega), Onl.of_gr gri g⟩
 case round =>
  obtain ⟨z, ys, hz1, hz2, rfl, hsa, hrp, hp, ho⟩ := hrel
  have HSA := Lib.hid hsa
  have HRP := Lib.hid hrp
  have HP := Lib.hid hp
  have HO := Lib.hid ho
  have hyl := hsa.len
  haveI : Old g wr := ⟨hsa.lt⟩
  clear hsa hrp hp ho
  by_cases hz : 0 ≤ z
  ·obtain ⟨j, rfl⟩ : ∃ j : Nat, z = (j : Int) := ⟨z.toNat, by omega⟩
   have wj : IntKind.i64.wrap ((j : Int) - 1) = (j : Int) - 1 := by rw [IntKind.wrap_i64]; omega
   have HC := Lib.hid (fun W (hW : Gr wr W) => sift_any base g n c ys j m a W (HSA.out.gr hW) hn (by omega) (by omega) (by have := HP.out; rwa [show ((j : Int) + 1).toNat = j + 1 by omega] at this))
   go_wp2_with (first | (go_at_call 177; ((with_reducible refine (HC.out _ gri).mono ?_))))
   rintro _ W2 ⟨rfl, zs, hsa2, hrp2, hp2, ho2⟩
   have ho3 : Onl w W2 g := (HO.out.trans (Onl.of_gr gri g)).trans ho2
   go_wp2
   go_roundw
   case rel => exact ⟨(j : Int) - 1, zs, by omega, by omega, rfl, hsa2.gr gri, HRP.out.trans (by rw [← hmab]; exact hrp2), by rw [show ((j : Int) - 1 + 1).toNat = j by omega]; exact hp2, ho3.trans (Onl.of_gr gri g)⟩
   case measure => simp [intOf] <;> omega
  ·obtain rfl : z = -1 := by omega
   go_wp2
   go_loopw [10] (fun v10 wr => ∃ (z : Int) (ys : List Int), -1 ≤ z ∧ z < m ∧ v10 = .int .i64 z ∧ SA base wr g n c ys ∧ RP a b xs ys ∧ Hp ys a 0 (z + 1).toNat ∧ Tl ys a (z + 1).toNat m ∧ Onl w wr g) (fun v _ => (intOf v + 1).toNat)
   case atStart => exact ⟨m1, ys, by omega, by omega, rfl, HSA.out.gr gri, HRP.out, by rw [show ((m1 : Int) + 1).toNat = m by omega]; exact HP.out, by rw [show ((m1 : Int) + 1).toNat = m by omega]; exact tl_start _ _ _, HO.out.trans (Onl.of_gr gri g)⟩
   case round =>
    clear HSA HRP HP HO hyl hz hz1 hz2 ys
    obtain ⟨z, ys, hz1, hz2, rfl, hsa, hrp, hp, ht, ho⟩ := hrel
    have HSA := Lib.hid hsa
    have HRP := Lib.hid hrp
    have HP := Lib.hid hp
    have HT := Lib.hid ht
    have HO := Lib.hid ho
    have hyl := hsa.len
    haveI : Old g wr := ⟨hsa.lt⟩
    by_cases hz : 0 ≤ z
    ·obtain ⟨j, rfl⟩ : ∃ j : Nat, z = (j : Int) := ⟨z.toNat, by omega⟩
     have wj : IntKind.i64.wrap ((j : Int) - 1) = (j : Int) - 1 := by rw [IntKind.wrap_i64]; omega
     obtain ⟨aj, haj⟩ : ∃ aj, a + j = aj := ⟨_, rfl⟩
     have raj : (a : Int) + (j : Int) = (aj : Int) := by omega
     have waj : IntKind.i64.wrap (aj : Int) = (aj : Int) := wrapS aj (by omega)
     have baj : (aj : Int) < (n : Int) := by omega
     have c0 := hsa.cell aj (by omega)
     have c1 := hsa.cell a (by omega)
     have ba : (a : Int) < (n : Int) := by omega
     have HJ1 := Lib.hid (show ((j : Int) + 1).toNat = j + 1 by omega)
     clear hsa hrp hp ht ho
     go_wp2
     have HSA3 := HSA.out.gr (gri : Gr wr wr)
     refine wp_region_treeJ ⟨fun w' => Gr wr w', true, fun _ _ h => h, fun _ _ _ h g => h.trans g⟩ rfl (Gr.of ((Below.refl _ _).drew)) [2, 3, 4, 5] [0, 1, 6, 7, 8, 9, 10, 11, 12, 13, 14, 15] 4 17 (by kernel_rfl) (by kernel_rfl) ?_
     simp only [pick, List.drop, List.take, List.nil_append, List.cons_append]
     refine wpPure_step (.slice (some ⟨g, 0, none⟩) n c) rfl (fun w => by go_simp) ?_
     simp only [Act.put, List.setIfInBounds_toArray, List.set]
     refine wpPure_step (.int .i64 (a : Int)) rfl (fun w => by go_simp) ?_
     simp only [Act.put, List.setIfInBounds_toArray, List.set]
     refine wpPure_step (.int .i64 (j : Int)) rfl (fun w => by go_simp) ?_
     simp only [Act.put, List.setIfInBounds_toArray, List.set]
     refine wpPure_step (.int .i64 (aj : Int)) rfl (fun w => by go_simp) ?_
     simp only [Act.put, List.setIfInBounds_toArray, List.set]
     show wpCalm _ _ _ _ _ _
     repeat (refine wpCalm_step (fun K hK => ?_); go_simp; first | (refine hK _ ?_; clear hK K) | (apply Exists.intro; refine ⟨fun _ => ?_, hK _ ?_⟩; (skip); clear hK K))
     refine wpCalm_nil ?_
     refine fg_one 16 (by kernel_rfl) ?_
     refine fg_pure (.pointer (some ⟨g, a, none⟩)) rfl rfl rfl (fun w => by go_simp) ?_
     simp only [Act.put, List.setIfInBounds_toArray, List.set]
     refine fg_one 17 (by kernel_rfl) ?_
     refine fg_effN rfl rfl rfl (fun w1 hw1 => ?_)
     have sa1 := SA.gr HSA3 hw1
     have t0 := sa1.cell a (by have := hyl; omega)
     have t1 := sa1.frozen a
     haveI oG : Old g w1 := ⟨sa1.lt⟩
     have hrun : (storeVar 28 ⟨g, a, none⟩ (.int .u64 (at0 ys aj))).run Tryz.prog w1 = .ok () (w1.setCell ⟨g, a, none⟩ (.int .u64 (at0 ys aj))) := by go_simp
     refine effAt_stS rfl rfl rfl hrun ⟨⟨fun w2 => SA base w2 g n c (ys.set a (at0 ys aj)) ∧ Onl wr w2 g, false, fun e => Bool.noConfusion e, fun e => Bool.noConfusion e⟩, ⟨sa1.put a _ (by have := hyl; omega), (Onl.of_gr hw1 g).trans (Onl.set _ g a _)⟩, fun e => absurd rfl e, ?_⟩
     clear oG sa1 t0 t1 hrun hw1 w1
     try simp only [Act.put, List.setIfInBounds_toArray, List.set]
     refine fg_one 18 (by kernel_rfl) ?_
     refine fg_pure (.pointer (some ⟨g, aj, none⟩)) rfl rfl rfl (fun w => by go_simp) ?_
     simp only [Act.put, List.setIfInBounds_toArray, List.set]
     refine fg_one 19 (by kernel_rfl) ?_
     refine fg_effN rfl rfl rfl (fun w1 hw1 => ?_)
     have t0 := hw1.1.cell aj (by rw [List.length_set]; have := hyl; omega)
     have t1 := hw1.1.frozen aj
     haveI oG : Old g w1 := ⟨hw1.1.lt⟩
     have hrun : (storeVar 28 ⟨g, aj, none⟩ (.int .u64 (at0 ys a))).run Tryz.prog w1 = .ok () (w1.setCell ⟨g, aj, none⟩ (.int .u64 (at0 ys a))) := by go_simp
     refine effAt_stS rfl rfl rfl hrun ⟨⟨fun w2 => SA base w2 g n c (swp ys a aj) ∧ Onl wr w2 g, false, fun e => Bool.noConfusion e, fun e => Bool.noConfusion e⟩, ⟨hw1.1.put aj _ (by rw [List.length_set]; have := hyl; omega), hw1.2.trans (Onl.set _ g aj _)⟩, fun _ e => Bool.noConfusion e, ?_⟩
     clear oG t0 t1 hrun hw1 w1
     refine fg_end (by kernel_rfl) (fun w5 hw5 => ?_)
     try simp only [Act.put]
     have HF := Lib.hid hw5
     have HO5 := Lib.hid (HO.out.trans hw5.2)
     have hp5 : Hp (swp ys a aj) a 1 j := by
      have := HP.out
      rw [HJ1.out] at this
      rw [show aj = a + j by omega]
      exact hs_heap (m := m) (by omega) (by omega) this
     have HC := Lib.hid (fun W (hW : Gr w5 W) => sift0_any base g n c (swp ys a aj) j a W (HF.out.1.gr hW) hn (by omega) hp5)
     haveI : Old g w5 := ⟨hw5.1.lt⟩
     clear hw5 hp5
     go_wp2_with (first | (go_at_call 177; ((with_reducible refine (HC.out _ gri).mono ?_); rintro _ W2 ⟨rfl, zs, hsa2, hrp2, hp2, ho2⟩)))
     have ho3 : Onl w W2 g := (HO5.out.trans (Onl.of_gr gri g)).trans ho2
     have ht2 : Tl zs a j m := by
      have h1 := HP.out
      have h2 := HT.out
      rw [HJ1.out] at h1 h2
      rw [show aj = a + j by omega] at hrp2
      exact hs_step (by omega) (by omega) h1 h2 hrp2
     have hr2 : RP a b xs zs := (HRP.out.swap a aj (Nat.le_refl _) hab (by omega) (by omega) (by omega)).trans (hrp2.mono (Nat.le_refl _) (by omega) (by rw [swp_len]; omega))
     go_roundw
     case rel => exact ⟨(j : Int) - 1, zs, by omega, by omega, rfl, hsa2.gr gri, hr2, by rw [show ((j : Int) - 1 + 1).toNat = j by omega]; exact hp2, by rw [show ((j : Int) - 1 + 1).toNat = j by omega]; exact ht2, ho3.trans (Onl.of_gr gri g)⟩
     case measure => simp [intOf] <;> omega
    ·obtain rfl : z = -1 := by omega
     clear hsa hrp hp ht ho
     go_wp2
     exact ⟨rfl, .tuple #[], by simp [results, go_sem], ⟨rfl, ys, HSA.out.gr gri, HRP.out, tl_end (by omega) (by rw [show b - a = m by omega]; exact HT.out), HO.out.trans (Onl.of_gr gri g)⟩⟩
end Go.Proofs.YtipeblmgochdfaaGreat
