/- slices.pdqsortOrdered. Conditions: the row stands in memory, at most 10^6 elements. slices.Sort. Conditions: the row stands in memory, at most 10^6 elements. maps.Keys, slices.Collect, slices.Sorted over the keys of a map of volumes; Device.Volumes. Conditions: the map stands in memory; at most 256 keys. maps.Keys, slices.Collect, slices.Sorted over the keys of a map of answers; Device.Volumes. Conditions: the map stands in memory; at most 256 keys. maps.Keys at a map of blocks: the iterator's contract. Conditions: the map stands in memory. slices.AppendSeq of nil over maps.Keys of a map of blocks. Conditions: the map stands in memory; at most a million keys. maps.Keys, slices.Collect, slices.Sorted over the keys of a map of blocks; Device.Volumes. Conditions: the map stands in memory; at most 256 keys. Device.Mapped. Conditions: the device stands in memory. Device.Volumes. Conditions: the device stands in memory, at most 256 volumes. wire.low, wire.width: a number's four low bytes behind a slice of bytes. Conditions: the slice is the call's own. strings.ContainsRune("1248", '4'). Conditions: none. wire.lay: a number in four bytes, a block. Conditions: the slice is the call's own. wire.Pack of numbers of four bytes and blocks. Conditions: the values stand in memory, at most 30000. Device.Bytes. Conditions: the device stands in memory, at most 40 volumes. -/
import Derived.Test.YtddckdhnolmjoaaGreatV10
import Derived.Test.YtddckdhnolmjoaaGreatV11
import Derived.Test.YtddckdhnolmjoaaGreatV09
import Derived.Test.YtddckdhnolmjoaaGreatV01
import Derived.RangeFuncNested
import Derived.RangeFuncBound
import Derived.RangeFuncCalls
import Derived.RangeFuncLeaves
import Derived.Shelf.Abstract
import Derived.Shelf.RegionOpen
import Derived.OwnWalkIn
import Derived.TacticsInMore
import Derived.LoopNIn
import Derived.LoopIn
import Derived.RangeFuncFrom
import Derived.Lib.Hide
import Derived.Test.YtddckdhnolmjoaaGreatV03
import Derived.Test.YtddckdhnolmjoaaGreatV02
import Derived.Test.YtddckdhnolmjoaaGreatV04
namespace Go.Proofs.YtddckdhnolmjoaaGreat
open Go.RowKit
set_option linter.unusedVariables false
set_option linter.unusedSimpArgs false
set_option linter.unnecessarySimpa false
set_option maxRecDepth 100000
set_option maxHeartbeats 4000000

theorem Abv.less {xs : List Int} {a b b2 : Nat} (h : Abv xs a b) (hb : b2 ≤ b) : Abv xs a b2 := fun k m h1 h2 h3 => h k m h1 h2 (by omega)
theorem abv_of {xs ys : List Int} {a b c d : Nat} (h : Abv xs a b) (r : RP a b xs ys) (hl : Lft ys a b c d) (hc : a ≤ c) (hd : d ≤ b) : Abv ys c d := fun k m h1 h2 h3 => by
 by_cases e : c = a
 ·subst e
  exact h.rp r k m h1 h2 (by omega)
 ·exact hl m k (by omega) (by omega) (by omega) (by omega)
theorem parted_left {zs ws vs : List Int} {a b c d m : Nat} (hp : Parted zs ws c d m) (hl : Lft ws a b c d) (hr : RP c m ws vs) (hs : Srt vs c m) (ha : a ≤ c) (hb : d ≤ b) (hlen : d ≤ ws.length) : Lft vs a b (m + 1) d := by
 obtain ⟨h1, h2, _, h3, h4⟩ := hp
 refine lft_left (hl.rp (hr.mono (Nat.le_refl _) (by omega) hlen) ha hb) h1 h2 hs (fun k q1 q2 => ?_) (fun k q1 q2 => ?_)
 ·obtain ⟨q, p1, p2, e⟩ := hr.from_ k q1 q2
  rw [e, hr.out m (.inr (Nat.le_refl _))]
  exact h3 q p1 p2
 ·rw [hr.out m (.inr (Nat.le_refl _)), hr.out k (.inr (by omega))]
  exact h4 k q1 q2
theorem parted_right {zs ws vs : List Int} {a b c d m : Nat} (hp : Parted zs ws c d m) (hl : Lft ws a b c d) (hr : RP (m + 1) d ws vs) (hs : Srt vs (m + 1) d) (ha : a ≤ c) (hb : d ≤ b) (hlen : d ≤ ws.length) : Lft vs a b c m := by
 obtain ⟨h1, h2, _, h3, h4⟩ := hp
 refine lft_right (hl.rp (hr.mono (by omega) (Nat.le_refl _) hlen) ha hb) h1 h2 hs (fun k q1 q2 => ?_) (fun k q1 q2 => ?_)
 ·rw [hr.out m (.inl (by omega)), hr.out k (.inl (by omega))]
  exact h3 k q1 q2
 ·obtain ⟨q, p1, p2, e⟩ := hr.from_ k (by omega) q2
  rw [e, hr.out m (.inl (by omega))]
  exact h4 q (by omega) p2
theorem pdq_any {F : Nat} (base : Bs) (g n c : Nat) (hn : n ≤ 256) (hq : base.is 108 111 F := by first | exact .inl ⟨by assumption, by assumption, rfl⟩ | exact .inr ⟨by assumption, by assumption, rfl⟩) : ∀ (N a b lim : Nat) (xs : List Int) (w : World), SA base w g n c xs → a ≤ b → b ≤ n → lim ≤ 1000 → Abv xs a b → b - a = N →
  Calls Tryz.prog F #[.slice (some ⟨g, 0, none⟩) n c, .int .i64 (a : Int), .int .i64 (b : Int), .int .i64 (lim : Int)] w fun e w' => e = .returned (.tuple #[]) ∧ ∃ ys, SA base w' g n c ys ∧ RP a b xs ys ∧ Srt ys a b ∧ Onl w w' g := by
 rcases hq with ⟨kq, tq, rfl⟩ | ⟨kq, tq, rfl⟩
 all_goals as_aux_lemma =>
  intro N
  induction N using Nat.strongRecOn with
  | _ N ih =>
  intro a b lim0 xs w h hab hb hlim hA hN
  have H := Lib.hid h
  have HA := Lib.hid hA
  clear h hA
  first | go_enter Tryz.func108, Tryz.ntmps108 | go_enter Tryz.func111, Tryz.ntmps111
  go_wp2
  go_loopw [1, 2, 3, 8, 9] (fun v1 v2 v3 v8 v9 wr => ∃ (a1 b1 lim : Nat) (p q : Bool) (ys : List Int), a ≤ a1 ∧ a1 ≤ b1 ∧ b1 ≤ b ∧ lim ≤ 1000 ∧ v1 = .int .i64 (a1 : Int) ∧ v2 = .int .i64 (b1 : Int) ∧ v3 = .int .i64 (lim : Int) ∧ v8 = .bool p ∧ v9 = .bool q ∧ SA base wr g n c ys ∧ RP a b xs ys ∧ Lft ys a b a1 b1 ∧ Onl w wr g) (fun v1 v2 _ _ _ _ => (intOf v2 - intOf v1).toNat)
  case atStart => exact ⟨a, b, lim0, true, true, xs, Nat.le_refl _, hab, Nat.le_refl _, hlim, rfl, rfl, rfl, rfl, rfl, H.out.gr gri, .refl, lft_start _ _ _, Onl.of_gr gri g⟩
  case round =>
   obtain ⟨a1, b1, lim, p, q, ys, ha1, hab1, hb1, hlm, rfl, rfl, rfl, rfl, rfl, hsa, hrp, hlf, ho⟩ := hrel
   have HSY := Lib.hid hsa
   have HRY := Lib.hid hrp
   have HLY := Lib.hid hlf
   have HOY := Lib.hid ho
   have HAY := Lib.hid (abv_of HA.out hrp hlf ha1 hb1)
   have hyl := hsa.len
   clear hsa hrp hlf ho
   obtain ⟨l, hl⟩ : ∃ l, b1 - a1 = l := ⟨_, rfl⟩
   have rl : (b1 : Int) - (a1 : Int) = (l : Int) := by omega
   have wl : IntKind.i64.wrap (l : Int) = (l : Int) := wrapS l (by omega)
   by_cases h12 : l ≤ 12
   ·have e12 : (l : Int) ≤ 12 := by omega
    go_wp2_with (first | ((first | go_at_call 118 | go_at_call 129); ((with_reducible refine (insertion_any base g n c ys a1 b1 _ (HSY.out.gr gri) (by omega) hab1 (by omega)).mono ?_); rintro _ W2 ⟨rfl, vs, hsv, hrv, hssv, hov⟩)))
    refine bodyPost_ret (v := .tuple #[]) (by simp [results, go_sem]) rfl ⟨rfl, vs, hsv.gr gri, HRY.out.trans (hrv.mono ha1 hb1 (by have := HRY.out.len; omega)), lft_end (HLY.out.rp hrv ha1 hb1) hssv, (HOY.out.trans (Onl.of_gr gri g)).trans (hov.trans (Onl.of_gr gri g))⟩
   ·have e12 : ¬ (l : Int) ≤ 12 := by omega
    by_cases hl0 : lim = 0
    ·have e0 : ((lim : Int) == 0) = true := by simp [hl0]
     go_wp2_with (first | ((first | go_at_call 119 | go_at_call 130); ((with_reducible refine (heap_any base g n c ys a1 b1 _ (HSY.out.gr gri) (by omega) (by omega) (by omega)).mono ?_); rintro _ W2 ⟨rfl, vs, hsv, hrv, hssv, hov⟩)))
     refine bodyPost_ret (v := .tuple #[]) (by simp [results, go_sem]) rfl ⟨rfl, vs, hsv.gr gri, HRY.out.trans (hrv.mono ha1 hb1 (by have := HRY.out.len; omega)), lft_end (HLY.out.rp hrv ha1 hb1) hssv, (HOY.out.trans (Onl.of_gr gri g)).trans (hov.trans (Onl.of_gr gri g))⟩
    ·have e0 : ((lim : Int) == 0) = false := by simp [hl0]
     go_upto_if 35 with fail
     go_cut [3] from 19 to 133 (fun v3 wx => ∃ (lim2 : Nat) (zs : List Int), lim2 ≤ 1000 ∧ v3 = .int .i64 (lim2 : Int) ∧ SA base wx g n c zs ∧ RP a1 b1 ys zs ∧ Onl w wx g)
     case first =>
      cases p
      ·obtain ⟨lm, hlm1⟩ : ∃ lm, lm + 1 = lim := ⟨lim - 1, by omega⟩
       have rlm : (lim : Int) - 1 = (lm : Int) := by omega
       have wlm : IntKind.i64.wrap (lm : Int) = (lm : Int) := wrapS lm (by omega)
       go_wp2_with (first | ((first | go_at_call 120 | go_at_call 131); ((with_reducible refine (break_any base g n c ys a1 b1 _ (HSY.out.gr gri) hn (by omega) (by omega)).mono ?_); rintro _ W2 ⟨rfl, vs, hsv, hrv, hov⟩)))
       go_meet
       case rel => exact ⟨lm, vs, by omega, rfl, hsv.gr gri, hrv, (HOY.out.trans (Onl.of_gr gri g)).trans (hov.trans (Onl.of_gr gri g))⟩
      ·go_wp2
       go_meet
       case rel => exact ⟨lim, ys, hlm, rfl, HSY.out.gr gri, .refl, HOY.out.trans (Onl.of_gr gri g)⟩
     case rest =>
      clear e0 hl0 hlm
      obtain ⟨lim, zs, hlm, rfl, hsz, hrz, hoz⟩ := hcut
      have HSZ := Lib.hid hsz
      have HRZ := Lib.hid hrz
      have HOZ := Lib.hid hoz
      clear hsz hrz hoz
      go_wp2_with (first | ((first | go_at_call 121 | go_at_call 132); ((with_reducible refine (choose_any base g n c zs a1 b1 _ (HSZ.out.gr gri) (by omega) (by omega) (by omega)).mono ?_))))
      rintro _ _ ⟨p9, t, rfl, hp1, hp2, ht, ⟨g2, rfl⟩⟩
      go_upto_if 50 with fail
      go_cut [11, 12] from 19 to 133 (fun v11 v12 wx => ∃ (pv : Nat) (hint : Int) (us : List Int), a1 ≤ pv ∧ pv < b1 ∧ v11 = .int .i64 (pv : Int) ∧ v12 = .int .i64 hint ∧ SA base wx g n c us ∧ RP a1 b1 zs us ∧ Onl w wx g)
      case first =>
       rcases ht with rfl | rfl | rfl
       ·go_wp2
        go_meet
        case rel => exact ⟨p9, 0, zs, hp1, hp2, rfl, rfl, HSZ.out.gr gri, .refl, HOZ.out.trans (Onl.of_gr gri g)⟩
       ·go_wp2
        go_meet
        case rel => exact ⟨p9, 1, zs, hp1, hp2, rfl, rfl, HSZ.out.gr gri, .refl, HOZ.out.trans (Onl.of_gr gri g)⟩
       ·have hp3 : p9 - a1 < b1 := by omega
        obtain ⟨t1, ht1⟩ : ∃ t1, b1 - 1 = t1 := ⟨_, rfl⟩
        have rt1 : (b1 : Int) - 1 = (t1 : Int) := by omega
        have wt1 : IntKind.i64.wrap (t1 : Int) = (t1 : Int) := wrapS t1 (by omega)
        obtain ⟨t2, ht2⟩ : ∃ t2, p9 - a1 = t2 := ⟨_, rfl⟩
        have rt2 : (p9 : Int) - (a1 : Int) = (t2 : Int) := by omega
        have wt2 : IntKind.i64.wrap (t2 : Int) = (t2 : Int) := wrapS t2 (by omega)
        obtain ⟨t3, ht3⟩ : ∃ t3, t1 - t2 = t3 := ⟨_, rfl⟩
        have rt3 : (t1 : Int) - (t2 : Int) = (t3 : Int) := by omega
        have wt3 : IntKind.i64.wrap (t3 : Int) = (t3 : Int) := wrapS t3 (by omega)
        go_wp2_with (first | ((first | go_at_call 122 | go_at_call 133); ((with_reducible refine (reverse_any base g n c zs a1 b1 _ (HSZ.out.gr gri) (by omega) (by omega) (by omega)).mono ?_); rintro _ W2 ⟨rfl, us, hsu, hru, hou⟩)))
        go_meet
        case rel => exact ⟨t3, 1, us, by omega, by omega, rfl, rfl, hsu.gr gri, hru, (HOZ.out.trans (Onl.of_gr gri g)).trans (hou.trans (Onl.of_gr gri g))⟩
      case rest =>
       clear hp1 hp2 ht
       obtain ⟨pv, hint, us, hpv1, hpv2, rfl, rfl, hsu, hru, hou⟩ := hcut
       have HSU := Lib.hid hsu
       have HRU := Lib.hid (HRZ.out.trans hru)
       have HOU := Lib.hid hou
       clear hsu hru hou HSZ HRZ HOZ
       obtain ⟨wu, rfl⟩ : ∃ wu : World, wu = wc := ⟨_, rfl⟩
       go_upto_region 15 with fail
       go_cut [68] from 19 to 133 (fun v68 wx => ∃ r : Bool, v68 = .bool r ∧ Gr wu wx)
       case first =>
        by_cases hh : hint = 1
        ·have eh : (hint == 1) = true := by simp [hh]
         cases p <;> cases q
         all_goals
          go_wp2
          go_meet
          case rel => exact ⟨_, rfl, gri⟩
        ·have eh : (hint == 1) = false := by simp [hh]
         cases p <;> cases q
         all_goals
          go_wp2
          go_meet
          case rel => exact ⟨_, rfl, gri⟩
       case rest =>
        obtain ⟨r, rfl, hgr⟩ := hcut
        have HSR := Lib.hid (HSU.out.gr hgr)
        have HOR := Lib.hid (HOU.out.trans (Onl.of_gr hgr g))
        clear hgr HSU HOU
        obtain ⟨wr9, rfl⟩ : ∃ wr9 : World, wr9 = wc := ⟨_, rfl⟩
        go_upto_if 68 with fail
        go_cut [13] from 19 to 133 (fun v13 wx => ∃ vs : List Int, SA base wx g n c vs ∧ RP a1 b1 ys vs ∧ Onl w wx g)
        case first =>
         cases r
         ·go_wp2
          go_meet
          case rel => exact ⟨us, HSR.out.gr gri, HRU.out, HOR.out.trans (Onl.of_gr gri g)⟩
         ·go_wp2_with (first | ((first | go_at_call 123 | go_at_call 134); ((with_reducible refine (partins_any base g n c us a1 b1 _ (HSR.out.gr gri) (by omega) (by omega) (by omega) (HAY.out.rp HRU.out)).mono ?_))))
          rintro _ W2 ⟨r2, vs, rfl, hsv, hrv, hss, hov⟩
          have HSV := Lib.hid hsv
          have HRV := Lib.hid hrv
          have HSS := Lib.hid hss
          have HOV := Lib.hid ((HOR.out.trans (Onl.of_gr (gri : Gr wr9 _) g)).trans hov)
          clear hsv hrv hss hov
          cases r2
          ·go_wp2
           go_meet
           case rel => exact ⟨vs, HSV.out.gr gri, HRU.out.trans HRV.out, HOV.out.trans (Onl.of_gr gri g)⟩
          ·go_wp2
           refine bodyPost_ret (v := .tuple #[]) (by simp [results, go_sem]) rfl ⟨rfl, vs, HSV.out.gr gri, HRY.out.trans ((HRU.out.trans HRV.out).mono ha1 hb1 (by have := HRY.out.len; omega)), lft_end (HLY.out.rp (HRU.out.trans HRV.out) ha1 hb1) (HSS.out (by trivial)), HOV.out.trans (Onl.of_gr gri g)⟩
        case rest =>
         obtain ⟨vs, hsv, hrv, hov⟩ := hcut
         have HSA := Lib.hid hsv
         have HRP := Lib.hid (HRY.out.trans (hrv.mono ha1 hb1 (by have := HRY.out.len; omega)))
         have HLF := Lib.hid (HLY.out.rp hrv ha1 hb1)
         have HAB := Lib.hid (HAY.out.rp hrv)
         have HO := Lib.hid hov
         have hvl := hsv.len
         haveI : Old g wc := ⟨hsv.lt⟩
         clear HSR HOR HRU HRY HLY HOY HSY HAY hrv hov
         by_cases ha0 : 0 < a1
         ·have ea0 : (0 : Int) < (a1 : Int) := by omega
          obtain ⟨m0, hm0⟩ : ∃ m0, a1 - 1 = m0 := ⟨_, rfl⟩
          have rm0 : (a1 : Int) - 1 = (m0 : Int) := by omega
          have wm0 : IntKind.i64.wrap (m0 : Int) = (m0 : Int) := wrapS m0 (by omega)
          have bm0 : (m0 : Int) < (n : Int) := by omega
          have c0 := hsv.cell kq m0 (by omega)
          have c1 := hsv.cell kq pv (by omega)
          have b1i : (pv : Int) < (n : Int) := by omega
          clear hsv
          by_cases hlt : at0 vs m0 < at0 vs pv
          ·have HL := Lib.hid (fun W => less_yes kq hlt W)
           clear hlt
           go_wp2
           refine wp_region_grow (by kernel_rfl) (by kernel_rfl) ?_
           repeat (go_big_quiet_step ((first | ((first | go_at_call 124 | go_at_call 135); exact grow_call (HL.out _)))))
           refine wpQuiet_nil ?_
           intro g5
           go_wp2_with (first | ((first | go_at_call 126 | go_at_call 137); ((with_reducible refine (partition_any base g n c vs a1 b1 pv _ (HSA.out.gr gri) (by omega) (by omega) (by omega) hpv1 hpv2).mono ?_))))
           rintro _ W2 ⟨mid, done, ws, rfl, hsw, hpt, how⟩
           have hwl := hsw.len
           have HSW := Lib.hid hsw
           have HPT := Lib.hid hpt
           have HOW := Lib.hid ((HO.out.trans (Onl.of_gr (gri : Gr wc _) g)).trans how)
           have hm1 := hpt.1
           have hm2 := hpt.2.1
           have HRW := Lib.hid (HRP.out.trans (hpt.2.2.1.mono ha1 hb1 (by have := HRP.out.len; omega)))
           have HLW := Lib.hid (HLF.out.rp hpt.2.2.1 ha1 hb1)
           have HAW := Lib.hid (HAB.out.rp hpt.2.2.1)
           clear hsw hpt how
           obtain ⟨ll, hll⟩ : ∃ ll, mid - a1 = ll := ⟨_, rfl⟩
           have rll : (mid : Int) - (a1 : Int) = (ll : Int) := by omega
           have wll : IntKind.i64.wrap (ll : Int) = (ll : Int) := wrapS ll (by omega)
           obtain ⟨rl, hrl⟩ : ∃ rl, b1 - mid = rl := ⟨_, rfl⟩
           have rrl : (b1 : Int) - (mid : Int) = (rl : Int) := by omega
           have wrl : IntKind.i64.wrap (rl : Int) = (rl : Int) := wrapS rl (by omega)
           obtain ⟨mq, hmq⟩ : ∃ mq, mid + 1 = mq := ⟨_, rfl⟩
           have rmq : (mid : Int) + 1 = (mq : Int) := by omega
           have wmq : IntKind.i64.wrap (mq : Int) = (mq : Int) := wrapS mq (by omega)
           obtain ⟨bt, hbt⟩ : ∃ bt, l / 8 = bt := ⟨_, rfl⟩
           have rbt : (l : Int) / 8 = (bt : Int) := by omega
           have wbt : IntKind.i64.wrap (bt : Int) = (bt : Int) := wrapS bt (by omega)
           by_cases hlr : ll < rl
           ·have e5 : (ll : Int) < (rl : Int) := by omega
            have HC := Lib.hid (fun W (hW : Gr W2 W) => ih (mid - a1) (by omega) a1 mid lim ws W (HSW.out.gr hW) (by omega) (by omega) (by omega) (HAW.out.less (by omega)) rfl)
            go_wp2_with (first | ((first | go_at_call 108 | go_at_call 111); ((with_reducible refine (HC.out _ gri).mono ?_); rintro _ W3 ⟨rfl, vs, hsv, hrv, hssv, hov⟩)))
            go_roundw
            case rel => exact ⟨mid + 1, b1, lim, _, done, vs, by omega, by omega, hb1, by omega, by go_num, rfl, rfl, rfl, rfl, hsv.gr gri, HRW.out.trans (hrv.mono ha1 (by omega) (by have := HRW.out.len; omega)), parted_left HPT.out HLW.out hrv hssv ha1 hb1 (by have := HRW.out.len; omega), (HOW.out.trans (Onl.of_gr gri g)).trans (hov.trans (Onl.of_gr gri g))⟩
            case measure => simp [intOf] <;> omega
           ·have e5 : ¬ (ll : Int) < (rl : Int) := by omega
            have HAQ := Lib.hid (show Abv ws mq b1 from fun k m q1 q2 q3 => by
             have e9 : m = mid := by omega
             rw [e9]
             exact HPT.out.2.2.2.2 k (by omega) q3)
            have HC := Lib.hid (fun W (hW : Gr W2 W) => ih (b1 - mq) (by omega) mq b1 lim ws W (HSW.out.gr hW) (by omega) (by omega) (by omega) HAQ.out rfl)
            go_wp2_with (first | ((first | go_at_call 108 | go_at_call 111); ((with_reducible refine (HC.out _ gri).mono ?_); rintro _ W3 ⟨rfl, vs, hsv, hrv, hssv, hov⟩)))
            go_roundw
            case rel => exact ⟨a1, mid, lim, _, done, vs, ha1, by omega, by omega, by omega, rfl, rfl, rfl, rfl, rfl, hsv.gr gri, HRW.out.trans (hrv.mono (by omega) hb1 (by have := HRW.out.len; omega)), parted_right HPT.out HLW.out (by rw [show mid + 1 = mq by omega]; exact hrv) (by rw [show mid + 1 = mq by omega]; exact hssv) ha1 hb1 (by have := HRW.out.len; omega), (HOW.out.trans (Onl.of_gr gri g)).trans (hov.trans (Onl.of_gr gri g))⟩
            case measure => simp [intOf] <;> omega
          ·have HL := Lib.hid (fun W => less_no kq hlt W)
           have HNL := Lib.hid (Int.not_lt.1 hlt)
           clear hlt
           go_wp2
           refine wp_region_grow (by kernel_rfl) (by kernel_rfl) ?_
           repeat (go_big_quiet_step ((first | ((first | go_at_call 124 | go_at_call 135); exact grow_call (HL.out _)))))
           refine wpQuiet_nil ?_
           intro g5
           go_wp2_with (first | ((first | go_at_call 125 | go_at_call 136); ((with_reducible refine (partequal_any base g n c vs a1 b1 pv _ (HSA.out.gr gri) (by omega) (by omega) (by omega) hpv1 hpv2).mono ?_))))
           rintro _ W2 ⟨mid, ws, rfl, hm1, hm2, hsw, hrw, heq, hall, how⟩
           have HSW := Lib.hid hsw
           have HRW := Lib.hid (HRP.out.trans (hrw.mono ha1 hb1 (by have := HRP.out.len; omega)))
           have HLW := Lib.hid (show Lft ws a b mid b1 from lft_equal (HLF.out.rp hrw ha1 hb1) hm1 hm2 fun k q1 q2 u u1 u2 => by
            have e1 := hall k q1 q2
            obtain ⟨v, v1, v2, e2⟩ := hrw.from_ u u1 u2
            have e3 := HAB.out v m0 (by omega) v1 v2
            have e4 := HNL.out
            rw [e2]
            omega)
           have HOW := Lib.hid ((HO.out.trans (Onl.of_gr (gri : Gr wc _) g)).trans how)
           clear hsw hrw heq hall how
           go_wp2
           go_roundw
           case rel => exact ⟨mid, b1, lim, p, q, ws, by omega, hm2, hb1, hlm, rfl, rfl, rfl, rfl, rfl, HSW.out.gr gri, HRW.out, HLW.out, HOW.out.trans (Onl.of_gr gri g)⟩
           case measure => simp [intOf] <;> omega
         ·have ea0 : ¬ (0 : Int) < (a1 : Int) := by omega
          clear hsv
          go_wp2
          refine wp_region_grow (by kernel_rfl) (by kernel_rfl) ?_
          repeat (go_big_quiet_step (fail))
          refine wpQuiet_nil ?_
          intro g5
          go_wp2_with (first | ((first | go_at_call 126 | go_at_call 137); ((with_reducible refine (partition_any base g n c vs a1 b1 pv _ (HSA.out.gr gri) (by omega) (by omega) (by omega) hpv1 hpv2).mono ?_))))
          rintro _ W2 ⟨mid, done, ws, rfl, hsw, hpt, how⟩
          have hwl := hsw.len
          have HSW := Lib.hid hsw
          have HPT := Lib.hid hpt
          have HOW := Lib.hid ((HO.out.trans (Onl.of_gr (gri : Gr wc _) g)).trans how)
          have hm1 := hpt.1
          have hm2 := hpt.2.1
          have HRW := Lib.hid (HRP.out.trans (hpt.2.2.1.mono ha1 hb1 (by have := HRP.out.len; omega)))
          have HLW := Lib.hid (HLF.out.rp hpt.2.2.1 ha1 hb1)
          have HAW := Lib.hid (HAB.out.rp hpt.2.2.1)
          clear hsw hpt how
          obtain ⟨ll, hll⟩ : ∃ ll, mid - a1 = ll := ⟨_, rfl⟩
          have rll : (mid : Int) - (a1 : Int) = (ll : Int) := by omega
          have wll : IntKind.i64.wrap (ll : Int) = (ll : Int) := wrapS ll (by omega)
          obtain ⟨rl, hrl⟩ : ∃ rl, b1 - mid = rl := ⟨_, rfl⟩
          have rrl : (b1 : Int) - (mid : Int) = (rl : Int) := by omega
          have wrl : IntKind.i64.wrap (rl : Int) = (rl : Int) := wrapS rl (by omega)
          obtain ⟨mq, hmq⟩ : ∃ mq, mid + 1 = mq := ⟨_, rfl⟩
          have rmq : (mid : Int) + 1 = (mq : Int) := by omega
          have wmq : IntKind.i64.wrap (mq : Int) = (mq : Int) := wrapS mq (by omega)
          obtain ⟨bt, hbt⟩ : ∃ bt, l / 8 = bt := ⟨_, rfl⟩
          have rbt : (l : Int) / 8 = (bt : Int) := by omega
          have wbt : IntKind.i64.wrap (bt : Int) = (bt : Int) := wrapS bt (by omega)
          by_cases hlr : ll < rl
          ·have e5 : (ll : Int) < (rl : Int) := by omega
           have HC := Lib.hid (fun W (hW : Gr W2 W) => ih (mid - a1) (by omega) a1 mid lim ws W (HSW.out.gr hW) (by omega) (by omega) (by omega) (HAW.out.less (by omega)) rfl)
           go_wp2_with (first | ((first | go_at_call 108 | go_at_call 111); ((with_reducible refine (HC.out _ gri).mono ?_); rintro _ W3 ⟨rfl, vs, hsv, hrv, hssv, hov⟩)))
           go_roundw
           case rel => exact ⟨mid + 1, b1, lim, _, done, vs, by omega, by omega, hb1, by omega, by go_num, rfl, rfl, rfl, rfl, hsv.gr gri, HRW.out.trans (hrv.mono ha1 (by omega) (by have := HRW.out.len; omega)), parted_left HPT.out HLW.out hrv hssv ha1 hb1 (by have := HRW.out.len; omega), (HOW.out.trans (Onl.of_gr gri g)).trans (hov.trans (Onl.of_gr gri g))⟩
           case measure => simp [intOf] <;> omega
          ·have e5 : ¬ (ll : Int) < (rl : Int) := by omega
           have HAQ := Lib.hid (show Abv ws mq b1 from fun k m q1 q2 q3 => by
            have e9 : m = mid := by omega
            rw [e9]
            exact HPT.out.2.2.2.2 k (by omega) q3)
           have HC := Lib.hid (fun W (hW : Gr W2 W) => ih (b1 - mq) (by omega) mq b1 lim ws W (HSW.out.gr hW) (by omega) (by omega) (by omega) HAQ.out rfl)
           go_wp2_with (first | ((first | go_at_call 108 | go_at_call 111); ((with_reducible refine (HC.out _ gri).mono ?_); rintro _ W3 ⟨rfl, vs, hsv, hrv, hssv, hov⟩)))
           go_roundw
           case rel => exact ⟨a1, mid, lim, _, done, vs, ha1, by omega, by omega, by omega, rfl, rfl, rfl, rfl, rfl, hsv.gr gri, HRW.out.trans (hrv.mono (by omega) hb1 (by have := HRW.out.len; omega)), parted_right HPT.out HLW.out (by rw [show mid + 1 = mq by omega]; exact hrv) (by rw [show mid + 1 = mq by omega]; exact hssv) ha1 hb1 (by have := HRW.out.len; omega), (HOW.out.trans (Onl.of_gr gri g)).trans (hov.trans (Onl.of_gr gri g))⟩
           case measure => simp [intOf] <;> omega
set_option maxRecDepth 100000
set_option maxHeartbeats 4000000

theorem pdq0_any {F : Nat} (base : Bs) (g n c : Nat) (hn : n ≤ 256) (lim : Nat) (xs : List Int) (w : World) (h : SA base w g n c xs) (hl : lim ≤ 1000) (hq : base.is 108 111 F := by first | exact .inl ⟨by assumption, by assumption, rfl⟩ | exact .inr ⟨by assumption, by assumption, rfl⟩) :
  Calls Tryz.prog F #[.slice (some ⟨g, 0, none⟩) n c, .int .i64 0, .int .i64 (n : Int), .int .i64 (lim : Int)] w fun e w' => e = .returned (.tuple #[]) ∧ ∃ ys, SA base w' g n c ys ∧ RP 0 n xs ys ∧ Srt ys 0 n ∧ Onl w w' g :=
 pdq_any base g n c hn hq n 0 n lim xs w h (Nat.zero_le _) (Nat.le_refl _) hl (fun k m h1 => by omega) rfl
def SoPost (base : Bs) (g n c : Nat) (xs : List Int) (w : World) (e : Ending) (w' : World) : Prop := e = .returned (.tuple #[]) ∧ ∃ ys, SA base w' g n c ys ∧ ys.Perm xs ∧ ys.Pairwise (· ≤ ·) ∧ Onl w w' g
theorem sort_any {F : Nat} (base : Bs) (g n c : Nat) (xs : List Int) (w : World) (h : SA base w g n c xs) (hn : n ≤ 256) (hq : base.is 82 85 F := by first | exact .inl ⟨by assumption, by assumption, rfl⟩ | exact .inr ⟨by assumption, by assumption, rfl⟩) : Calls Tryz.prog F #[.slice (some ⟨g, 0, none⟩) n c] w (SoPost base g n c xs w) := by
 rcases hq with ⟨kq, tq, rfl⟩ | ⟨kq, tq, rfl⟩
 all_goals
  have H := Lib.hid h
  have hxl := h.len
  clear h
  have hwu : IntKind.u64.wrap (n : Int) = (n : Int) := by
   simp [IntKind.wrap, IntKind.bits, IntKind.signed]
   omega
  have HL := Lib.hid (fun W => len_any n hn W)
  first | go_enter Tryz.func82, Tryz.ntmps82 | go_enter Tryz.func85, Tryz.ntmps85
  go_wp2_with (first | (go_at_call 109; ((with_reducible refine (HL.out _).mono ?_); rintro _ _ ⟨k, rfl, k1, k2, k3, ⟨g1, rfl⟩⟩)) | ((first | go_at_call 108 | go_at_call 111); ((with_reducible refine (pdq0_any base g n c hn k xs _ (H.out.gr gri) (by omega)).mono ?_); rintro _ W2 ⟨rfl, ys, hsy, hry, hss, hoy⟩)))
  have hyl := hsy.len
  exact ⟨rfl, .tuple #[], by simp [results, go_sem], ⟨rfl, ys, hsy.gr gri, hry.perm, (by rw [← hyl] at hss; exact hss.pair), (Onl.of_gr gri g).trans (hoy.trans (Onl.of_gr gri g))⟩⟩
theorem insertion_nil {F : Nat} {base : Bs} (w : World) (hq : base.is 118 129 F := by first | exact .inl ⟨by assumption, by assumption, rfl⟩ | exact .inr ⟨by assumption, by assumption, rfl⟩) : Calls Tryz.prog F #[.slice none 0 0, .int .i64 0, .int .i64 0] w fun e w' => e = .returned (.tuple #[]) ∧ Gr w w' := by
 rcases hq with ⟨kq, tq, rfl⟩ | ⟨kq, tq, rfl⟩
 all_goals
  first | go_enter Tryz.func118, Tryz.ntmps118 | go_enter Tryz.func129, Tryz.ntmps129
  go_wp2
  go_loopw [6] (fun v6 wr => v6 = .int .i64 1 ∧ Gr w wr) (fun _ _ => 0)
  case atStart => exact ⟨rfl, gri⟩
  case round =>
   obtain ⟨rfl, hg⟩ := hrel
   haveI := grc_of hg
   go_wp2
   exact ⟨rfl, .tuple #[], by simp [results, go_sem], ⟨rfl, hg.trans gri⟩⟩
theorem pdq_nil {F : Nat} {base : Bs} (lim : Nat) (w : World) (hq : base.is 108 111 F := by first | exact .inl ⟨by assumption, by assumption, rfl⟩ | exact .inr ⟨by assumption, by assumption, rfl⟩) : Calls Tryz.prog F #[.slice none 0 0, .int .i64 0, .int .i64 0, .int .i64 (lim : Int)] w fun e w' => e = .returned (.tuple #[]) ∧ Gr w w' := by
 rcases hq with ⟨kq, tq, rfl⟩ | ⟨kq, tq, rfl⟩
 all_goals
  first | go_enter Tryz.func108, Tryz.ntmps108 | go_enter Tryz.func111, Tryz.ntmps111
  go_wp2
  go_loopw [1, 2, 3, 8, 9] (fun v1 v2 v3 v8 v9 wr => v1 = .int .i64 0 ∧ v2 = .int .i64 0 ∧ v3 = .int .i64 (lim : Int) ∧ v8 = .bool true ∧ v9 = .bool true ∧ Gr w wr) (fun _ _ _ _ _ _ => 0)
  case atStart => exact ⟨rfl, rfl, rfl, rfl, rfl, gri⟩
  case round =>
   obtain ⟨rfl, rfl, rfl, rfl, rfl, hg⟩ := hrel
   haveI := grc_of hg
   have HG := Lib.hid hg
   go_wp2_with (first | ((first | go_at_call 118 | go_at_call 129); ((with_reducible refine (insertion_nil _).mono ?_); rintro _ _ ⟨rfl, ⟨g1, rfl⟩⟩)))
   refine bodyPost_ret (v := .tuple #[]) (by simp [results, go_sem]) rfl ⟨rfl, HG.out.trans gri⟩
theorem sort_nil {F : Nat} {base : Bs} (w : World) (hq : base.is 82 85 F := by first | exact .inl ⟨by assumption, by assumption, rfl⟩ | exact .inr ⟨by assumption, by assumption, rfl⟩) : Calls Tryz.prog F #[.slice none 0 0] w fun e w' => e = .returned (.tuple #[]) ∧ Gr w w' := by
 rcases hq with ⟨kq, tq, rfl⟩ | ⟨kq, tq, rfl⟩
 all_goals
  have HL := Lib.hid (fun W => len_any 0 (by omega) W)
  change Hid (∀ W, Calls Tryz.prog 109 #[.int .u64 0] W _) at HL
  first | go_enter Tryz.func82, Tryz.ntmps82 | go_enter Tryz.func85, Tryz.ntmps85
  go_wp2_with (first | (go_at_call 109; ((with_reducible refine (HL.out _).mono ?_); rintro _ _ ⟨k, rfl, k1, k2, k3, ⟨g1, rfl⟩⟩)) | ((first | go_at_call 108 | go_at_call 111); ((with_reducible refine (pdq_nil k _).mono ?_); rintro _ _ ⟨rfl, ⟨g2, rfl⟩⟩)))
  exact ⟨rfl, .tuple #[], by simp [results, go_sem], ⟨rfl, gri⟩⟩
set_option maxRecDepth 100000
set_option maxHeartbeats 4000000
theorem keysfU (mb : Option Nat) (w : World) : Calls Tryz.prog 55 #[.map mb] w fun e w' => e = .returned (.func (.func 83) #[] #[.pointer (some ⟨w.heap.size, 0, none⟩)]) ∧ w' = w.alloc (.cells #[.map mb] 53) := by
 go_enter Tryz.func55, Tryz.ntmps55
 go_wp2
 go_ret
 exact ⟨rfl, rfl⟩
theorem collectU (Bm b : Nat) (L : List (Int × Value)) (hL : L.length ≤ 1000000) (w : World) (h1m : BlockAt w Bm #[.map (some b)] 53) (hm : MapAt .u64 w b L) : Calls Tryz.prog 81 #[.func (.func 83) #[] #[.pointer (some ⟨Bm, 0, none⟩)]] w fun e w' => ∃ v xs, e = .returned v ∧ OwnN uE w.heap.size w' v xs ∧ xs.Perm (L.map (·.1)) ∧ Gr w w' := by
 have H1 := Lib.hid h1m
 have HM := Lib.hid hm
 clear h1m hm
 go_enter Tryz.func81, Tryz.ntmps81
 go_wp2_with (first | (go_at_call 107; ((with_reducible refine (appseqU Bm b L hL _ (H1.out.gr gri) (HM.out.gr gri)).mono ?_); rintro _ _ ⟨v, xs, rfl, hv, hp, ⟨g1, rfl⟩⟩)))
 go_ret
 exact ⟨v, _, rfl, hv, hp, gri⟩
theorem sortOwn (z w : World) (v : Value) (xs : List Int) (h : OwnN uE z.heap.size w v xs) (hn : xs.length ≤ 256) (hg : Gr z w) : Calls Tryz.prog 82 #[v] w fun e w' => e = .returned (.tuple #[]) ∧ ∃ ys, OwnN uE z.heap.size w' v ys ∧ ys.Perm xs ∧ ys.Pairwise (· ≤ ·) ∧ Gr z w' := by
 rcases h.own.2 with ⟨rfl, h0⟩ | ⟨g, cap, cur, rfl, _⟩
 ·have : xs = [] := List.length_eq_zero_iff.1 (by simpa using h0)
  subst this
  refine (sort_nil (base := ⟨0, .u64, 24⟩) w (hq := .inl ⟨rfl, rfl, rfl⟩)).mono ?_
  rintro _ W2 ⟨rfl, g2⟩
  exact ⟨rfl, [], h.gr g2, .refl _, .nil, hg.trans g2⟩
 ·refine (sort_any ⟨z.heap.size, .u64, 24⟩ g _ cap xs w ⟨h, .inl ⟨rfl, rfl⟩⟩ hn (hq := .inl ⟨rfl, rfl, rfl⟩)).mono ?_
  rintro _ W2 ⟨rfl, ys, hy, hp, hs, ho⟩
  exact ⟨rfl, ys, hy.own, hp, hs, Gr.of (hg.below.grown ho hg.below.size (fun k e => by cases e; exact hy.ge))⟩
theorem sorted_keys {L : List (Int × Value)} (hs : SortK L) {ys : List Int} (hp : ys.Perm (L.map (·.1))) (h : ys.Pairwise (· ≤ ·)) : ys = L.map (·.1) := by
 refine hp.eq_of_pairwise (le := fun a b => a ≤ b) (fun a b _ _ h1 h2 => by omega) h ?_
 rw [List.pairwise_map]
 exact hs.imp fun h => by omega
theorem sortedU (Bm b : Nat) (L : List (Int × Value)) (hL : L.length ≤ 256) (w : World) (h1m : BlockAt w Bm #[.map (some b)] 53) (hm : MapAt .u64 w b L) : Calls Tryz.prog 54 #[.func (.func 83) #[] #[.pointer (some ⟨Bm, 0, none⟩)]] w fun e w' => ∃ v, e = .returned v ∧ OwnN uE w.heap.size w' v (L.map (·.1)) ∧ Gr w w' := by
 have H1 := Lib.hid h1m
 have HM := Lib.hid hm
 clear h1m hm
 go_enter Tryz.func54, Tryz.ntmps54
 go_wp2_with (first | (go_at_call 81; ((with_reducible refine (collectU Bm b L (by omega) _ (H1.out.gr gri) (HM.out.gr gri)).mono ?_); rintro _ _ ⟨v, xs, rfl, hv, hp, ⟨g1, rfl⟩⟩)))
 have HP := Lib.hid hp
 have hlen : xs.length ≤ 256 := by have := hp.length_eq; rw [List.length_map] at this; omega
 have HV := Lib.hid hv
 clear hv hp
 refine (sortOwn w _ v xs HV.out hlen gri).mono ?_
 rintro _ W2 ⟨rfl, ys, hy, hyp, hs, hg⟩
 haveI := grc_of hg
 have HY := Lib.hid hy
 have HE := Lib.hid (sorted_keys (HM.out.sort) (hyp.trans HP.out) hs)
 have HG := Lib.hid hg
 clear hy hyp hs hg
 go_wp2
 go_ret
 exact ⟨_, rfl, HE.out ▸ HY.out.gr gri, HG.out.trans gri⟩
end Go.Proofs.YtddckdhnolmjoaaGreat
namespace Go.Proofs.YtddckdhnolmjoaaGreat.A
open Go.RowKit Go.Shelf Go.MapKept
set_option linter.unusedVariables false
set_option linter.unusedSimpArgs false
set_option linter.unnecessarySimpa false
set_option maxRecDepth 100000
attribute [local go_sem] Oper.semAt_some
set_option maxHeartbeats 4000000
theorem keysfU (mb : Option Nat) (w : World) : Calls Tryz.prog 115 #[.map mb] w fun e w' => e = .returned (.func (.func 143) #[] #[.pointer (some ⟨w.heap.size, 0, none⟩)]) ∧ w' = w.alloc (.cells #[.map mb] 77) := by
 go_enter Tryz.func115, Tryz.ntmps115
 go_wp2
 go_ret
 exact ⟨rfl, rfl⟩
theorem collectU (Bm b : Nat) (L : List (Int × Value)) (hL : L.length ≤ 1000000) (w : World) (h1m : BlockAt w Bm #[.map (some b)] 77) (hm : MapAt .u64 w b L) : Calls Tryz.prog 81 #[.func (.func 143) #[] #[.pointer (some ⟨Bm, 0, none⟩)]] w fun e w' => ∃ v xs, e = .returned v ∧ OwnN uE w.heap.size w' v xs ∧ xs.Perm (L.map (·.1)) ∧ Gr w w' := by
 have H1 := Lib.hid h1m
 have HM := Lib.hid hm
 clear h1m hm
 go_enter Tryz.func81, Tryz.ntmps81
 go_wp2_with (first | (go_at_call 107; ((with_reducible refine (appseqU Bm b L hL _ (H1.out.gr gri) (HM.out.gr gri)).mono ?_); rintro _ _ ⟨v, xs, rfl, hv, hp, ⟨g1, rfl⟩⟩)))
 go_ret
 exact ⟨v, _, rfl, hv, hp, gri⟩
theorem sortedU (Bm b : Nat) (L : List (Int × Value)) (hL : L.length ≤ 256) (w : World) (h1m : BlockAt w Bm #[.map (some b)] 77) (hm : MapAt .u64 w b L) : Calls Tryz.prog 54 #[.func (.func 143) #[] #[.pointer (some ⟨Bm, 0, none⟩)]] w fun e w' => ∃ v, e = .returned v ∧ OwnN uE w.heap.size w' v (L.map (·.1)) ∧ Gr w w' := by
 have H1 := Lib.hid h1m
 have HM := Lib.hid hm
 clear h1m hm
 go_enter Tryz.func54, Tryz.ntmps54
 go_wp2_with (first | (go_at_call 81; ((with_reducible refine (collectU Bm b L (by omega) _ (H1.out.gr gri) (HM.out.gr gri)).mono ?_); rintro _ _ ⟨v, xs, rfl, hv, hp, ⟨g1, rfl⟩⟩)))
 have HP := Lib.hid hp
 have hlen : xs.length ≤ 256 := by have := hp.length_eq; rw [List.length_map] at this; omega
 have HV := Lib.hid hv
 clear hv hp
 refine (sortOwn w _ v xs HV.out hlen gri).mono ?_
 rintro _ W2 ⟨rfl, ys, hy, hyp, hs, hg⟩
 haveI := grc_of hg
 have HY := Lib.hid hy
 have HE := Lib.hid (sorted_keys (HM.out.sort) (hyp.trans HP.out) hs)
 have HG := Lib.hid hg
 clear hy hyp hs hg
 go_wp2
 go_ret
 exact ⟨_, rfl, HE.out ▸ HY.out.gr gri, HG.out.trans gri⟩
end Go.Proofs.YtddckdhnolmjoaaGreat.A
namespace Go.Proofs.YtddckdhnolmjoaaGreat.I
open Go.RowKit Go.Shelf Go.MapKept
set_option linter.unusedVariables false
set_option linter.unusedSimpArgs false
set_option linter.unnecessarySimpa false
set_option maxRecDepth 100000
attribute [local go_sem] Oper.semAt_some
set_option maxHeartbeats 2000000 in
theorem keysi_stops (n : Nat) (hn : 1 ≤ n) (Bm b : Nat) (L : List (Int × Value)) (w0 : World) (h1 : BlockAt w0 Bm #[.map (some b)] 62) (hm : MapAt .i64 w0 b L) :
  SeqStopsK Fence.wide n Tryz.prog 86 #[.pointer (some ⟨Bm, 0, none⟩)] (fun k : Int => #[.int .i64 k]) KeepsWalks (fun xs => xs.Perm (L.map (·.1))) (fun _ => True) L.length w0 := fun l J Jx W hW hJ hJx hY h0 => by
 have hb1 : BlockAt W Bm #[.map (some b)] 62 := ⟨(hW.block Bm h1.lt).trans h1.eq⟩
 have hmW : MapAt .i64 W b L := hm.below hW hm.lt
 have y1 : W.cell? ⟨Bm, 0, none⟩ = some (.map (some b)) := (@block_cells _ _ 0 _ _ hb1).trans rfl
 have hsort := hm.sort
 clear h1 hm
 refine callsIn_of_wp Tryz.func86 rfl trivial ?_ rfl
 simp only [Tryz.ntmps86, List.size_toArray, List.length_cons, List.length_nil, Nat.reduceAdd, Nat.reduceSub, Array.replicate_succ, Array.replicate_zero, List.push_toArray, List.append_toArray, List.nil_append, List.cons_append]
 gi_wp2_with (first
  | (gi_at_range; refine wpListIn_rangeK rfl _ rfl Tryz.underlying62 hmW rfl ?_; intro w1 cnt0 hrg0 hg0)
  | gi_in)
 gi_loopw [3] (fun _ wr => ∃ (left : Int → Bool) (cnt : Nat) (ss : List Int), RangeAt .i64 wr b W.heap.size L left cnt ∧ Col L left ss ∧ J ss wr)
  (fun _ wr => wr.rangeLeft b W.heap.size)
 case atStart =>
  exact ⟨_, _, [], hrg0, Col.start L, hJ [] W w1 none h0 (gr_grown hg0) (fun r e => by cases e)⟩
 case round =>
  obtain ⟨left, cnt, ss, hrg, hC, hJs⟩ := hrel
  gi_wp2_with (first
   | (gi_at_next; refine wpListIn_nextK rfl _ rfl rfl hrg ?_ ?_)
   | gi_in)
  ·intro hc0 hl0
   gi_wp2
   go_end0
   exact ⟨⟨_, rfl⟩, .inl ⟨ss, hC.perm hsort (fun p hp => hl0 p.1 p.2 hp), hJs⟩⟩
  ·intro k v w2 cnt2 hmem hleft hrg2 hlt hob hen
   have hJ2 : J ss w2 := hJ ss wr w2 (some W.heap.size) hJs hob.1 (fun r e => by cases e; exact ⟨Nat.le_refl _, hrg.walk⟩)
   have hC2 := hC.step hmem hleft
   have hlen : ss.length < L.length := by
    have := hC2.len
    simp only [List.length_append, List.length_cons, List.length_nil] at this
    omega
   obtain ⟨fn, tmps, assign, body, hy, hR⟩ := hY ss k w2 hJ2 hlen
   gi_wp2
   refine hR.mono ?_
   rintro e W3 (⟨rfl, hJ3, hk3⟩ | ⟨rfl, hJx3⟩)
   ·gi_wp2
    have hrg3 := hrg2.walks hk3
    go_roundw
    case rel => exact ⟨_, cnt2, ss ++ [k], hrg3, hC2, hJ3⟩
    case measure => rw [hrg3.left_eq, hrg.left_eq]; exact hlt
   ·gi_wp2
    refine bodyPost_ret (results_none rfl _ _ _) rfl ⟨⟨_, rfl⟩, .inr ⟨_, trivial, hJx3⟩⟩
end Go.Proofs.YtddckdhnolmjoaaGreat.I
namespace Go.Proofs.YtddckdhnolmjoaaGreat.I
open Go.RowKit Go.Shelf Go.MapKept
set_option linter.unusedVariables false
set_option linter.unusedSimpArgs false
set_option linter.unnecessarySimpa false
set_option maxRecDepth 100000
attribute [local go_sem] Oper.semAt_some
set_option maxHeartbeats 4000000 in
theorem appseqI (Bm b : Nat) (L : List (Int × Value)) (hL : L.length ≤ 1000000) (w : World) (h1m : BlockAt w Bm #[.map (some b)] 62) (hm : MapAt .i64 w b L) : Calls Tryz.prog 110 #[.slice none 0 0, .func (.func 86) #[] #[.pointer (some ⟨Bm, 0, none⟩)]] w fun e w' => ∃ v xs, e = .returned v ∧ OwnN sE w.heap.size w' v xs ∧ xs.Perm (L.map (·.1)) ∧ Gr w w' := by
 refine (callsIn_wide (n := 3)).1 ?_
 have h1 : 1 ≤ 3 := by omega
 refine callsIn_of_wp_marks Tryz.func110 rfl trivial ?_ rfl
 simp only [Tryz.ntmps110, List.size_toArray, List.length_cons, List.length_nil, Nat.reduceAdd, Nat.reduceSub, Array.replicate_succ, Array.replicate_zero, List.push_toArray, List.append_toArray, List.nil_append, List.cons_append]
 have hnf : ∀ (W : World) (A : Array Value), (binOp .eql 119 (.func (.func 86) #[] A) .nilFunc).run Tryz.prog W = .ok (.bool false) W := fun W A => by kernel_rfl
 gi_wp2
 obtain ⟨W0, hW0⟩ : ∃ W0, w.alloc (.cells #[.slice none 0 0] 60) = W0 := ⟨_, rfl⟩
 have hs0 : W0.heap.size = w.heap.size + 1 := by rw [← hW0]; simp
 have hbX : BlockAt W0 w.heap.size #[.slice none 0 0] 60 := by rw [← hW0]; infer_instance
 have hg0 : Gr w W0 := by rw [← hW0]; exact gri
 rw [hW0]
 refine wpIn_rangeFunc_ownH (F := Fence.wide) (n := 3) rfl h1 (gf := 86) (lb := #[.pointer (some ⟨Bm, 0, none⟩)]) rfl trivial (enters_of Tryz.func86 (by kernel_rfl) rfl)
  (keysi_stops (3 - 1) (by omega) Bm b L W0 (h1m.gr hg0) (hm.gr hg0)) (fun h k => h.trans k) (fun W l o o' hl ho _ hc' => KeepsWalks.putObj _ ho hc') (Below.refl _ _) (fun _ => rfl)
  (LJ sE w.heap.size w.heap.size W0.heap.size 60 w (fun pre : List Int => pre)) (fun _ _ _ => False) (LJ.own (by omega) (Nat.le_refl _)) (fun _ _ _ _ _ h _ _ => h.elim) ⟨⟨_, hbX, OwnN.nil _ _⟩, hg0.below, Nat.le_refl _⟩
  (fun x a' W => a' = { tmps := #[.slice none 0 0, .func (.func 86) #[] #[.pointer (some ⟨Bm, 0, none⟩)], .pointer (some ⟨w.heap.size, 0, none⟩), undef, .slice none 0 0, .int .i64 x, .func (.func 86) #[] #[.pointer (some ⟨Bm, 0, none⟩)], .int .i64 x, undef, undef, undef, undef, undef], defers := [] })
  (fun x a' s W W' row hs hg hr => hs) ?assign ?body ?done ?stop
 case assign =>
  rintro l pre x W K ⟨⟨v, hv, ho⟩, hb, hm⟩ hK
  gi_wp2
  exact hK _ _ ((KeepsOthers.refl _).from _) (KeepsWalks.refl _) ⟨⟨v, hv, ho⟩, hb, hm⟩ rfl
 case body =>
  rintro l pre x a' W hl ⟨r, hr⟩ ⟨⟨v, hv, ho⟩, hb, hm⟩ rfl hN
  have x0 : W.cell? ⟨w.heap.size, 0, none⟩ = some v := (@block_cells _ _ 0 _ _ hv).trans rfl
  have u0 : W.frozen? ⟨w.heap.size, 0, none⟩ = false := @block_frozen _ _ 0 _ _ hv
  haveI := hv.old
  have hsz := hb.size
  have HV := Lib.hid hv
  have HO := Lib.hid ho
  have HB := Lib.hid hb
  have HL : Hid (pre.length ≤ 2000000) := Lib.hid (by omega)
  have HSZ := Lib.hid hsz
  clear hv ho hb hr hN hsz hbX hg0 hW0 h1m
  gi_wp2_with (first | (gi_at_builtin; refine wpIn_append_n (v := v) sIs rfl _ _ rfl rfl (HO.out.gr gri) _ 0 [x] 1 1 rfl rfl (fun _ _ => trivial) (CellsN.block _ inferInstance rfl) (by have := HL.out; simp; omega) (by have := HSZ.out; simp; omega) (by simp) ?_; intro v1 W1 h1; obtain ⟨A1, c1, hv1, _, _, _⟩ := h1.own.form sIs; simp only [List.length_append, List.length_map, List.length_cons, List.length_nil, Nat.zero_add] at hv1; subst hv1; have H1 := Lib.hid h1; clear h1; have z0 := (@block_cells _ _ 0 _ _ (H1.out.keep _ _ _ (HV.out.gr gri) (by decide))).trans rfl; have zf := @block_frozen _ _ 0 _ _ (H1.out.keep _ _ _ (HV.out.gr gri) (by decide))))
  haveI hX1 := H1.out.keep _ _ _ (HV.out.gr gri) (by decide)
  refine ⟨(((KeepsOthers.of_gr (gri : Gr W _)).trans (KeepsOthers.of_app H1.out)).trans (KeepsOthers.setCell _ _ _)).from _, ((KeepsWalks.of_gr (gri : Gr W _)).trans (KeepsWalks.of_app H1.out)).trans (KeepsWalks.setCell _ _ _), ⟨(.slice A1 (pre.length + 1) c1 : Value), ?blk, ?own⟩, ?bel, ?siz⟩
  case blk =>
   show BlockAt _ _ (#[v].setIfInBounds 0 _) _
   infer_instance
  case own =>
   exact H1.out.own.set_ w.heap.size 0 (.slice A1 (pre.length + 1) c1) (by decide)
  case bel =>
   exact ((HB.out.alloc HSZ.out _).trans (H1.out.below)).setCell (p := ⟨w.heap.size, 0, none⟩) (Nat.le_refl _) _
  case siz =>
   have := H1.out.size
   simp [World.setCell] at this ⊢
   omega
 case done =>
  rintro D ys W hD hS ⟨⟨v, hv, ho⟩, hb, hm⟩ hK
  have x0 : W.cell? ⟨w.heap.size, 0, none⟩ = some v := (@block_cells _ _ 0 _ _ hv).trans rfl
  have HO := Lib.hid ho
  have HB := Lib.hid hb
  have HV := Lib.hid hv
  have HS := Lib.hid hS
  clear ho hb hv hbX hg0 hW0 hS
  gi_wp2
  refine ⟨by simp, .inl ⟨_, _, rfl, run_takeDeferred hK, ?_⟩⟩
  exact ⟨_, results_tmp rfl _ _ _, v, rfl, ys, HO.out.put D _ _ hK rfl, HS.out, Gr.of (HB.out.trans (belowK_b (Nat.le_refl _) W D _ _ (by omega) hK rfl rfl))⟩
 case stop =>
  rintro D c pre W hD _ h _
  exact h.elim
end Go.Proofs.YtddckdhnolmjoaaGreat.I
namespace Go.Proofs.YtddckdhnolmjoaaGreat.I
open Go.RowKit
set_option linter.unusedVariables false
set_option linter.unusedSimpArgs false
set_option linter.unnecessarySimpa false
set_option maxRecDepth 100000
set_option maxHeartbeats 4000000
theorem keysfU (mb : Option Nat) (w : World) : Calls Tryz.prog 57 #[.map mb] w fun e w' => e = .returned (.func (.func 86) #[] #[.pointer (some ⟨w.heap.size, 0, none⟩)]) ∧ w' = w.alloc (.cells #[.map mb] 62) := by
 go_enter Tryz.func57, Tryz.ntmps57
 go_wp2
 go_ret
 exact ⟨rfl, rfl⟩
theorem collectU (Bm b : Nat) (L : List (Int × Value)) (hL : L.length ≤ 1000000) (w : World) (h1m : BlockAt w Bm #[.map (some b)] 62) (hm : MapAt .i64 w b L) : Calls Tryz.prog 84 #[.func (.func 86) #[] #[.pointer (some ⟨Bm, 0, none⟩)]] w fun e w' => ∃ v xs, e = .returned v ∧ OwnN sE w.heap.size w' v xs ∧ xs.Perm (L.map (·.1)) ∧ Gr w w' := by
 have H1 := Lib.hid h1m
 have HM := Lib.hid hm
 clear h1m hm
 go_enter Tryz.func84, Tryz.ntmps84
 go_wp2_with (first | (go_at_call 110; ((with_reducible refine (appseqI Bm b L hL _ (H1.out.gr gri) (HM.out.gr gri)).mono ?_); rintro _ _ ⟨v, xs, rfl, hv, hp, ⟨g1, rfl⟩⟩)))
 go_ret
 exact ⟨v, _, rfl, hv, hp, gri⟩
theorem sortOwn (z w : World) (v : Value) (xs : List Int) (h : OwnN sE z.heap.size w v xs) (hn : xs.length ≤ 256) (hg : Gr z w) : Calls Tryz.prog 85 #[v] w fun e w' => e = .returned (.tuple #[]) ∧ ∃ ys, OwnN sE z.heap.size w' v ys ∧ ys.Perm xs ∧ ys.Pairwise (· ≤ ·) ∧ Gr z w' := by
 rcases h.own.2 with ⟨rfl, h0⟩ | ⟨g, cap, cur, rfl, _⟩
 ·have : xs = [] := List.length_eq_zero_iff.1 (by simpa using h0)
  subst this
  refine (sort_nil (base := ⟨0, .i64, 3⟩) w (hq := .inr ⟨rfl, rfl, rfl⟩)).mono ?_
  rintro _ W2 ⟨rfl, g2⟩
  exact ⟨rfl, [], h.gr g2, .refl _, .nil, hg.trans g2⟩
 ·refine (sort_any ⟨z.heap.size, .i64, 3⟩ g _ cap xs w ⟨h, .inr ⟨rfl, rfl⟩⟩ hn (hq := .inr ⟨rfl, rfl, rfl⟩)).mono ?_
  rintro _ W2 ⟨rfl, ys, hy, hp, hs, ho⟩
  exact ⟨rfl, ys, hy.own, hp, hs, Gr.of (hg.below.grown ho hg.below.size (fun k e => by cases e; exact hy.ge))⟩
theorem sorted_keys {L : List (Int × Value)} (hs : SortK L) {ys : List Int} (hp : ys.Perm (L.map (·.1))) (h : ys.Pairwise (· ≤ ·)) : ys = L.map (·.1) := by
 refine hp.eq_of_pairwise (le := fun a b => a ≤ b) (fun a b _ _ h1 h2 => by omega) h ?_
 rw [List.pairwise_map]
 exact hs.imp fun h => by omega
theorem sortedU (Bm b : Nat) (L : List (Int × Value)) (hL : L.length ≤ 256) (w : World) (h1m : BlockAt w Bm #[.map (some b)] 62) (hm : MapAt .i64 w b L) : Calls Tryz.prog 56 #[.func (.func 86) #[] #[.pointer (some ⟨Bm, 0, none⟩)]] w fun e w' => ∃ v, e = .returned v ∧ OwnN sE w.heap.size w' v (L.map (·.1)) ∧ Gr w w' := by
 have H1 := Lib.hid h1m
 have HM := Lib.hid hm
 clear h1m hm
 go_enter Tryz.func56, Tryz.ntmps56
 go_wp2_with (first | (go_at_call 84; ((with_reducible refine (collectU Bm b L (by omega) _ (H1.out.gr gri) (HM.out.gr gri)).mono ?_); rintro _ _ ⟨v, xs, rfl, hv, hp, ⟨g1, rfl⟩⟩)))
 have HP := Lib.hid hp
 have hlen : xs.length ≤ 256 := by have := hp.length_eq; rw [List.length_map] at this; omega
 have HV := Lib.hid hv
 clear hv hp
 refine (sortOwn w _ v xs HV.out hlen gri).mono ?_
 rintro _ W2 ⟨rfl, ys, hy, hyp, hs, hg⟩
 haveI := grc_of hg
 have HY := Lib.hid hy
 have HE := Lib.hid (sorted_keys (HM.out.sort) (hyp.trans HP.out) hs)
 have HG := Lib.hid hg
 clear hy hyp hs hg
 go_wp2
 go_ret
 exact ⟨_, rfl, HE.out ▸ HY.out.gr gri, HG.out.trans gri⟩
end Go.Proofs.YtddckdhnolmjoaaGreat.I
namespace Go.Proofs.YtddckdhnolmjoaaGreat
open Go.RowKit
set_option linter.unusedVariables false
set_option linter.unusedSimpArgs false
set_option linter.unnecessarySimpa false
set_option maxRecDepth 100000
set_option maxHeartbeats 4000000
theorem keysK_len {L : List (Int × Byt)} {n : Int} (hs : SortK L) (hk : ∀ p ∈ L, 0 ≤ p.1 ∧ p.1 < n) (hn : n ≤ 256) : L.length ≤ 256 := by
 have h1 := nodup_le (L.map (·.1)) ((List.range 256).map fun k : Nat => (k : Int)) (by
  rw [List.nodup_iff_pairwise_ne, List.pairwise_map]
  exact hs.imp fun h e => by omega) (fun x hx => by
  obtain ⟨p, hp, rfl⟩ := List.mem_map.1 hx
  have := hk p hp
  exact List.mem_map.2 ⟨p.1.toNat, List.mem_range.2 (by omega), by omega⟩)
 simpa using h1
theorem mapped_any (base D : Nat) (d : Dev) (v : Int) (x : VolM) (hv : getK d v = some x) (w : World) (h : DevAt base w D d) : Calls Tryz.prog 21 #[.pointer (some ⟨D, 0, none⟩), .int .u64 v] w fun e w' => ∃ r, e = .returned r ∧ OwnN I.sE w.heap.size w' r (x.2.map (·.1)) ∧ Gr w w' := by
 obtain ⟨M, mb, h⟩ := h
 have HD := Lib.hid h
 have HT := Lib.hid (fun W (hW : Gr w W) => there_yes D M W (HD.out.blk.gr hW))
 haveI := h.blk
 have x0 : w.cell? ⟨D, 0, none⟩ = some (.map (some M)) := (@block_cells _ _ 0 _ _ h.blk).trans rfl
 haveI : Old D w := h.blk.old
 have hlk := look_vol1 h v _ hv
 simp only [volV] at hlk
 have HO := h.ok.vols _ ((getK_mem h.ok.sort).1 hv)
 have hlen := keysK_len HO.sort HO.keys HO.s1
 have HM := Lib.hid (h.vol _ ((getK_mem h.ok.sort).1 hv))
 clear h hv HO
 go_enter Tryz.func21, Tryz.ntmps21
 go_wp2_with (first | (go_at_call 19; ((with_reducible refine (HT.out _ gri).mono ?_); rintro _ _ ⟨rfl, g1, rfl⟩)) | (go_at_call 57; ((with_reducible refine (I.keysfU _ _).mono ?_); rintro _ _ ⟨rfl, rfl⟩)) | (go_at_call 56; ((with_reducible refine (I.sortedU _ (mb v) _ (by unfold encK; rw [List.length_map]; exact hlen) _ inferInstance (HM.out.gr gri)).mono ?_); rintro _ W2 ⟨r, rfl, hr, hg⟩; haveI := grc_of hg; have HV := Lib.hid hr; have HG := Lib.hid hg; clear hr hg)))
 go_ret
 have := HV.out
 simp only [encK, List.map_map, Function.comp_def] at this
 exact ⟨r, rfl, this.more (by have := (grown_below w g1).size; simp; omega), Gr.trans gri HG.out⟩
set_option maxRecDepth 100000
set_option maxHeartbeats 4000000
theorem volumes_any (base D : Nat) (d : Dev) (hn : d.length ≤ 256) (w : World) (h : DevAt base w D d) : Calls Tryz.prog 20 #[.pointer (some ⟨D, 0, none⟩)] w fun e w' => ∃ v, e = .returned v ∧ OwnN uE w.heap.size w' v (d.map (·.1)) ∧ Gr w w' := by
 obtain ⟨M, mb, h⟩ := h
 have HD := Lib.hid h
 have HT := Lib.hid (fun W (hW : Gr w W) => there_yes D M W (HD.out.blk.gr hW))
 haveI := h.blk
 have x0 : w.cell? ⟨D, 0, none⟩ = some (.map (some M)) := (@block_cells _ _ 0 _ _ h.blk).trans rfl
 haveI : Old D w := h.blk.old
 clear h
 go_enter Tryz.func20, Tryz.ntmps20
 go_wp2_with (first | (go_at_call 19; ((with_reducible refine (HT.out _ gri).mono ?_); rintro _ _ ⟨rfl, g1, rfl⟩)) | (go_at_call 55; ((with_reducible refine (keysfU _ _).mono ?_); rintro _ _ ⟨rfl, rfl⟩)) | (go_at_call 54; ((with_reducible refine (sortedU _ M _ (by rw [List.length_map]; exact hn) _ inferInstance (HD.out.all.gr gri)).mono ?_); rintro _ W2 ⟨v, rfl, hv, hg⟩; haveI := grc_of hg; have HV := Lib.hid hv; have HG := Lib.hid hg; clear hv hg)))
 go_ret
 have := HV.out
 simp only [List.map_map, Function.comp_def] at this
 exact ⟨v, rfl, this.more (by have := (grown_below w g1).size; simp; omega), Gr.trans gri HG.out⟩
set_option maxRecDepth 100000
set_option maxHeartbeats 4000000
theorem width_4 (w : World) : Calls Tryz.prog 89 #[.int .i32 52] w fun e w' => e = .returned (.int .i64 4) ∧ Gr w w' := by
 go_enter Tryz.func89, Tryz.ntmps89
 go_wp2
 go_ret
 exact ⟨rfl, gri⟩
structure LowP (base : Nat) (W : World) (v' : Value) (ys : List UInt8) (W' : World) : Prop where
 own : OwnN bE base W' v' ys
 below : Below base W W'
 size : W.heap.size ≤ W'.heap.size
 block : ∀ k, k < W.heap.size → (∀ cs f, W.heap[k]? ≠ some (.cells cs bE.E f)) → W'.heap[k]? = W.heap[k]?
theorem LowP.start {base : Nat} {W : World} {v : Value} {xs : List UInt8} (h : OwnN bE base W v xs) : LowP base W v xs W := ⟨h, Below.refl _ _, Nat.le_refl _, fun _ _ _ => rfl⟩
theorem LowP.app {base : Nat} {W W1 W2 W3 : World} {v v' : Value} {ys zs : List UInt8} (h : LowP base W v ys W1) (g : Gr W1 W2) (hb : base ≤ W.heap.size) (a : AppN bE base W2 v ys zs v' W3) : LowP base W v' (ys ++ zs) W3 := by
 have g1 := g.below.size
 have s1 := h.size
 refine ⟨a.own, (h.below.trans (g.below.mono (by omega))).trans a.below, by have := a.size; omega, fun k hk hc => ?_⟩
 have e1 := h.block k hk hc
 have e2 : W2.heap[k]? = W.heap[k]? := (g.below.block k (by omega)).trans e1
 exact (a.block k (by omega) (fun cs f => by rw [e2]; exact hc cs f)).trans e2
theorem LowP.gr {base : Nat} {W W1 W2 : World} {v : Value} {ys : List UInt8} (h : LowP base W v ys W1) (g : Gr W1 W2) (hb : base ≤ W.heap.size) : LowP base W v ys W2 := by
 have g1 := g.below.size
 have s1 := h.size
 exact ⟨h.own.gr g, h.below.trans (g.below.mono (by omega)), by omega, fun k hk hc => (g.below.block k (by omega)).trans (h.block k hk hc)⟩
def leB (n : Int) (k : Nat) : List UInt8 := (List.range k).map fun j => UInt8.ofNat (n / 256 ^ j % 256).toNat
theorem leB_succ (n : Int) (k : Nat) : leB n (k + 1) = leB n k ++ [UInt8.ofNat (n / 256 ^ k % 256).toNat] := by simp [leB, List.range_succ]
theorem low_4 (base : Nat) (v : Value) (xs : List UInt8) (n : Int) (h0 : 0 ≤ n) (hn : n < 4294967296) (w : World) (h : OwnN bE base w v xs) (hb : base ≤ w.heap.size) (hl : xs.length ≤ 10000000) :
  Calls Tryz.prog 88 #[v, .int .u64 n, .int .i64 4] w fun e w' => ∃ v', e = .returned (.tuple #[v', .bool true]) ∧ LowP base w v' (xs ++ leB n 4) w' := by
 have H := Lib.hid h
 have HB := Lib.hid hb
 clear h hb
 go_enter Tryz.func88, Tryz.ntmps88
 go_wp2
 go_loopw [0, 1, 9] (fun v0 v1 v9 wr => ∃ k : Nat, k ≤ 4 ∧ v1 = .int .u64 (n / 256 ^ k) ∧ v9 = .int .i64 (k : Int) ∧ LowP base w v0 (xs ++ leB n k) wr) (fun _ _ v9 _ => 4 - (intOf v9).toNat)
 case atStart => exact ⟨0, by omega, by simp, rfl, by simpa [leB] using LowP.start H.out⟩
 case round =>
  obtain ⟨k, hk, rfl, rfl, hp⟩ := hrel
  have HP := Lib.hid hp
  clear hp
  have hm0 : 0 ≤ n / 256 ^ k := Int.ediv_nonneg h0 (Int.le_of_lt (Int.pow_pos (by omega)))
  obtain ⟨m, hm⟩ : ∃ m, n / 256 ^ k = m := ⟨_, rfl⟩
  rw [hm] at hm0 ⊢
  have hmn : m < 4294967296 := by rw [← hm]; exact Int.lt_of_le_of_lt (Int.ediv_le_self _ h0) hn
  by_cases hlt : k < 4
  ·obtain ⟨y, hy⟩ : ∃ y : UInt8, UInt8.ofNat (m % 256).toNat = y := ⟨_, rfl⟩
   have hcv : IntKind.u8.wrap m = (y.toNat : Int) := by
    rw [← hy]
    simp [IntKind.wrap, IntKind.bits, IntKind.signed]
    omega
   have HE := Lib.hid (show leB n (k + 1) = leB n k ++ [y] by rw [leB_succ, hm, hy])
   have HL : Hid ((xs ++ leB n k).length + 1 ≤ 100000000) := Lib.hid (by simp [leB]; omega)
   have HM := Lib.hid hm
   have HH := Lib.hid hy
   clear hy hm
   have hsz := HP.out.size
   haveI : From w wr := ⟨hsz⟩
   go_wp2_with (first | (at_builtin; refine wp_append_n bIs rfl _ _ rfl rfl (HP.out.own.gr gri) _ 0 [y] 1 1 rfl rfl (fun _ _ => trivial) (CellsN.block _ inferInstance rfl) (by have := HL.out; simp at this ⊢; omega) (by have := HB.out; simp; omega) (by simp) ?_; intro v1 W1 h1; have H1 := Lib.hid (HP.out.app gri HB.out h1); clear h1))
   refine ⟨⟨k + 1, hlt, ?_, by go_num, ?_⟩, by simp [intOf]; omega⟩
   ·rw [← HM.out, Int.pow_succ, Int.ediv_ediv_of_nonneg (Int.le_of_lt (Int.pow_pos (by omega)))]
   ·rw [HE.out, ← List.append_assoc]; exact H1.out
  ·obtain rfl : k = 4 := by omega
   have hm4 : m = 0 := by rw [← hm]; omega
   subst hm4
   go_wp2
   refine bodyPost_ret (v := .tuple #[_, .bool true]) (by simp [results, go_sem]) rfl ⟨_, rfl, HP.out⟩
set_option maxRecDepth 100000
set_option maxHeartbeats 4000000
theorem ixbyte_4 (w : World) : Calls Tryz.prog 138 #[strVal "1248", .int .u8 52] w fun e w' => e = .returned (.int .i64 2) ∧ Gr w w' := by
 have hr : (Extern.BytealgIndexByte.indexByte #[strVal "1248", .int .u8 52]).run Tryz.prog w = .ok (.int .i64 2) w := by kernel_rfl
 have hc := run_callFunc_extern Tryz.func158 (by kernel_rfl) (by kernel_rfl) (by kernel_rfl) (e := Extern.BytealgIndexByte.indexByte) (by kernel_rfl) #[strVal "1248", .int .u8 52] w
 rw [hr] at hc
 simp only [Result.andThen] at hc
 go_enter Tryz.func138, Tryz.ntmps138
 go_wp2
 go_ret
 exact ⟨rfl, gri⟩
theorem ixrune_4 (w : World) : Calls Tryz.prog 112 #[strVal "1248", .int .i32 52] w fun e w' => e = .returned (.int .i64 2) ∧ Gr w w' := by
 go_enter Tryz.func112, Tryz.ntmps112
 go_wp2_with (first | (go_at_call 138; ((with_reducible refine (ixbyte_4 _).mono ?_); rintro _ _ ⟨rfl, ⟨g1, rfl⟩⟩)))
 go_ret
 exact ⟨rfl, gri⟩
theorem contains_4 (w : World) : Calls Tryz.prog 87 #[strVal "1248", .int .i32 52] w fun e w' => e = .returned (.bool true) ∧ Gr w w' := by
 go_enter Tryz.func87, Tryz.ntmps87
 go_wp2_with (first | (go_at_call 112; ((with_reducible refine (ixrune_4 _).mono ?_); rintro _ _ ⟨rfl, ⟨g1, rfl⟩⟩)))
 go_ret
 exact ⟨rfl, gri⟩
set_option maxRecDepth 100000
set_option maxHeartbeats 4000000
theorem LowP.back {base : Nat} {w W W' : World} {v : Value} {ys : List UInt8} (h : LowP base W v ys W') (g : Gr w W) (hb : base ≤ w.heap.size) : LowP base w v ys W' := by
 have g1 := g.below.size
 have s1 := h.size
 refine ⟨h.own, (g.below.mono hb).trans h.below, by omega, fun k hk hc => ?_⟩
 have e1 := g.below.block k hk
 exact (h.block k (by omega) (fun cs f => by rw [e1]; exact hc cs f)).trans e1
theorem contains_4b (w : World) : Calls Tryz.prog 87 #[Value.string { data := #[49, 50, 52, 56] }, .int .i32 52] w fun e w' => e = .returned (.bool true) ∧ Gr w w' := by
 have e : strVal "1248" = Value.string { data := #[49, 50, 52, 56] } := by kernel_rfl
 have h := contains_4 w
 rw [e] at h
 exact h
@[go_sem] theorem taU (n : Int) (w : World) : (Instr.typeAssert (.iface 24 (.int .u64 n)) 20 24 true).run Tryz.prog w = .ok (.tuple #[.int .u64 n, .bool true]) w := by kernel_rfl
theorem lay_4 (base : Nat) (v : Value) (xs : List UInt8) (n : Int) (h0 : 0 ≤ n) (hn : n < 4294967296) (w : World) (h : OwnN bE base w v xs) (hb : base ≤ w.heap.size) (hl : xs.length ≤ 10000000) :
  Calls Tryz.prog 58 #[v, .int .i32 52, .iface 24 (.int .u64 n)] w fun e w' => ∃ v', e = .returned (.tuple #[v', .bool true]) ∧ LowP base w v' (xs ++ leB n 4) w' := by
 have H := Lib.hid h
 have HB := Lib.hid hb
 have HBp := Lib.hid (fun W (g : Gr w W) => Nat.le_trans hb g.below.size)
 clear h hb
 go_enter Tryz.func58, Tryz.ntmps58
 go_wp2_with (first | (go_at_call 87; ((with_reducible refine (contains_4b _).mono ?_); rintro _ _ ⟨rfl, ⟨g1, rfl⟩⟩)) | (go_at_call 89; ((with_reducible refine (width_4 _).mono ?_); rintro _ _ ⟨rfl, ⟨g2, rfl⟩⟩)) | (go_at_call 88; ((with_reducible refine (low_4 base _ xs n h0 hn _ (H.out.gr gri) (HBp.out _ gri) hl).mono ?_); rintro _ _ ⟨v', rfl, hp⟩; have HP := Lib.hid hp; clear hp)))
 exact bodyPost_ret (v := .tuple #[v', .bool true]) (by simp [results, go_sem]) rfl ⟨_, rfl, HP.out.back gri HB.out⟩
@[go_sem] theorem taB_u (cs : Array Value) (w : World) : (Instr.typeAssert (.iface 66 (.agg cs)) 20 24 true).run Tryz.prog w = .ok (.tuple #[.int .u64 0, .bool false]) w := by kernel_rfl
@[go_sem] theorem taB_b (cs : Array Value) (w : World) : (Instr.typeAssert (.iface 66 (.agg cs)) 20 4 true).run Tryz.prog w = .ok (.tuple #[.bool false, .bool false]) w := by kernel_rfl
@[go_sem] theorem taB_s (cs : Array Value) (w : World) : (Instr.typeAssert (.iface 66 (.agg cs)) 20 25 true).run Tryz.prog w = .ok (.tuple #[.slice none 0 0, .bool false]) w := by kernel_rfl
@[go_sem] theorem taB_k (cs : Array Value) (w : World) : (Instr.typeAssert (.iface 66 (.agg cs)) 20 66 true).run Tryz.prog w = .ok (.tuple #[.agg cs, .bool true]) w := by kernel_rfl
theorem lay_h (base : Nat) (v : Value) (xs : List UInt8) (B : Byt) (hBl : B.length = 256) (w : World) (h : OwnN bE base w v xs) (hb : base ≤ w.heap.size) (hl : xs.length ≤ 10000000) :
  Calls Tryz.prog 58 #[v, .int .i32 35, .iface 66 (.agg (bkC B))] w fun e w' => ∃ v', e = .returned (.tuple #[v', .bool true]) ∧ LowP base w v' (xs ++ B) w' := by
 have H := Lib.hid h
 have HB := Lib.hid hb
 have HBp := Lib.hid (fun W (g : Gr w W) => Nat.le_trans hb g.below.size)
 clear h hb
 go_enter Tryz.func58, Tryz.ntmps58
 have EZ := Lib.hid zC_bk
 haveI := bkC_row hBl
 have HLn : Hid (xs.length + B.length ≤ 100000000) := Lib.hid (by omega)
 have HBL := Lib.hid hBl
 have HCL := Lib.hid (fun (b : Nat) (W : World) (hW : BlockAt W b (bkC B) 66) => cellsB (xs := B) (W := W) (b := b) (p := 0) (fun j x hj => by rw [Nat.zero_add, @block_cells _ _ j _ _ hW]; simp [bkC, hj]))
 go_wp2_with (first | (refine wpStoreB rfl _ _ rfl _ _ _ rfl rfl inferInstance inferInstance inferInstance ?_) | (at_builtin; refine wp_append_n bIs rfl _ _ rfl rfl (H.out.gr gri) _ 0 B 256 256 HBL.out rfl (fun _ _ => trivial) (HCL.out _ _ inferInstance) (by have := HLn.out; omega) (HBp.out _ gri) (by rw [HBL.out]; decide) ?_; intro v1 W1 h1; have H1 := Lib.hid ((LowP.start H.out).app gri HB.out h1); clear h1))
 exact bodyPost_ret (v := .tuple #[_, .bool true]) (by simp [results, go_sem]) rfl ⟨_, rfl, H1.out⟩
set_option maxRecDepth 100000
set_option maxHeartbeats 4000000
inductive It
 | num (n : Int)
 | blk (B : Byt)
def It.ok : It → Prop
 | .num n => 0 ≤ n ∧ n < 4294967296
 | .blk B => B.length = 256
def It.letter : It → UInt8
 | .num _ => 52
 | .blk _ => 35
def It.bytes : It → List UInt8
 | .num n => leB n 4
 | .blk B => B
def It.val : It → Value
 | .num n => .iface 24 (.int .u64 n)
 | .blk B => .iface 66 (.agg (bkC B))
def anE : EK It := ⟨fun x => [x.val], 1, 20, 59, 16, .nilIface, It.ok⟩
theorem anIs : anE.Is where
 len := fun _ _ => rfl
 one := fun x _ v hv => by
  simp only [anE, List.mem_cons, List.mem_nil_iff, or_false] at hv
  subst hv
  cases x <;> rfl
 pos := by decide
 hT := Tryz.underlying59
 hE := by kernel_rfl
 hz := rfl
 hb := by decide
theorem lay_any (base : Nat) (v : Value) (xs : List UInt8) (x : It) (hx : x.ok) (w : World) (h : OwnN bE base w v xs) (hb : base ≤ w.heap.size) (hl : xs.length ≤ 10000000) :
  Calls Tryz.prog 58 #[v, .int .i32 (x.letter.toNat : Int), x.val] w fun e w' => ∃ v', e = .returned (.tuple #[v', .bool true]) ∧ LowP base w v' (xs ++ x.bytes) w' := by
 cases x with
 | num n => exact lay_4 base v xs n hx.1 hx.2 w h hb hl
 | blk B => exact lay_h base v xs B hx w h hb hl
theorem OwnN.iterAt {α : Type} {e : EK α} {base : Nat} {W : World} {v : Value} {xs : List α} (h : OwnN e base W v xs) (k : Nat) (s : ByteArray) (pos p' : Nat) [hi : IterAt W k s pos] : OwnN e base (W.iterAt k s p') v xs := h.keep fun q hq => by
 have hq2 := h.own.2
 rcases hq2 with ⟨rfl, _⟩ | ⟨g, cap, cur, rfl, _, hh, _⟩
 ·cases hq
 ·have : q = g := by simpa [Value.ownBlock] using hq.symm
  subst this
  refine Lib.iterAt_other W k q s p' fun e => ?_
  subst e
  rw [hi.eq] at hh
  cases hh
theorem flat_bytes : ∀ (l : List It), (∀ x ∈ l, x.ok) → (l.flatMap It.bytes).length ≤ 256 * l.length
 | [], _ => by simp
 | x :: l, h => by
  have h1 := flat_bytes l fun y hy => h y (List.mem_cons_of_mem _ hy)
  have h2 : x.bytes.length ≤ 256 := by
   have := h x List.mem_cons_self
   cases x with
   | num n => simp [It.bytes, leB]
   | blk B => exact Nat.le_of_eq this
  rw [List.flatMap_cons, List.length_append, List.length_cons]
  omega
theorem row_tail {W : World} {b p c m : Nat} {x : It} {xs : List It} (hb : b < W.heap.size) (hok : ∀ y ∈ xs, y.ok) (h : CellsN anE W b p (x :: xs)) (hm : xs.length = m) (hc : m + 1 ≤ c) : RowN anE W (if c = 1 then some ⟨b, p, none⟩ else some ⟨b, p + 1, none⟩) xs := by
 by_cases h1 : c = 1
 ·have : xs = [] := List.length_eq_zero_iff.1 (by omega)
  subst this
  exact RowN.nil
 ·rw [if_neg h1]
  refine ⟨hok, fun _ => ⟨b, p + 1, rfl, hb, fun j y hj i u hu => ?_⟩⟩
  have := h (j + 1) y (by simpa using hj) i u hu
  have e : p + 1 + j * anE.k + i = p + (j + 1) * anE.k + i := by
   show p + 1 + j * 1 + i = p + (j + 1) * 1 + i
   omega
  rw [e]
  exact this
theorem own_empty (base : Nat) (W : World) (g : Nat) (hg : base ≤ g) (hb : BlockAt W g #[] 5) : OwnN bE base W (.slice (some ⟨g, 0, none⟩) 0 0) [] :=
 ⟨by simp, by simp, .inr ⟨g, 0, #[], rfl, hg, hb.eq, Nat.le_refl _, by unfold maxLen; omega, rfl, rfl⟩⟩
def sliceLen : Value → Nat
 | .slice _ m _ => m
 | _ => 0
theorem pack_any (l : List It) (hok : ∀ x ∈ l, x.ok) (hn : l.length ≤ 30000) (A : Option Addr) (c : Nat) (hcl : l.length ≤ c) (w : World) (hr : RowN anE w A l) :
  Calls Tryz.prog 22 #[.string ⟨(l.map It.letter).toArray⟩, .slice A l.length c] w fun e w' => ∃ v, e = .returned (.tuple #[v, .int .i64 0]) ∧ OwnN bE w.heap.size w' v (l.flatMap It.bytes) ∧ Gr w w' := by
 have HR := Lib.hid hr
 clear hr
 go_enter Tryz.func22, Tryz.ntmps22
 obtain ⟨S, hS⟩ : ∃ S : ByteArray, ⟨(l.map It.letter).toArray⟩ = S := ⟨_, rfl⟩
 have hSz : S.size = l.length := by rw [← hS]; simp [ByteArray.size]
 have hdec : ∀ (k : Nat) x, l[k]? = some x → Utf8.decode S k = (x.letter.toNat, 1) := fun k x hx => by
  have hk : k < S.size := by rw [hSz]; exact (List.getElem?_eq_some_iff.1 hx).1
  have he : S[k]'hk = x.letter := by
   subst hS
   obtain ⟨h1, rfl⟩ := List.getElem?_eq_some_iff.1 hx
   simp [ByteArray.getElem_eq_getElem_data]
  have := decode_ascii S k hk (by rw [he]; cases x <;> (simp only [It.letter]; decide))
  rw [he] at this
  exact this
 rw [hS]
 clear hS
 go_wp2
 go_loopw [6, 7] (fun v6 v7 wr => ∃ k m c' A', l.length = k + m ∧ m ≤ c' ∧ v7 = .slice A' m c' ∧ RowN anE w A' (l.drop k) ∧ OwnN bE w.heap.size wr v6 ((l.take k).flatMap It.bytes) ∧ IterAt wr (w.heap.size + 1) S k ∧ Gr w wr ∧ w.heap.size + 2 ≤ wr.heap.size) (fun _ v7 _ => sliceLen v7)
 case atStart => exact ⟨0, l.length, c, A, by omega, hcl, rfl, HR.out, own_empty _ _ w.heap.size (Nat.le_refl _) inferInstance, inferInstance, gri, by simp⟩
 case round =>
  obtain ⟨k, m, c', A', hkm, hmc, rfl, hrw, ho, hit, hg, hsz⟩ := hrel
  haveI := grc_of hg
  haveI := from_of hg
  haveI := hit
  haveI := hit.old
  have HG := Lib.hid hg
  have HO := Lib.hid ho
  clear hg ho
  by_cases hm : m = 0
  ·subst hm
   have hlt : ¬ k < S.size := by omega
   have HT := Lib.hid (show l.take k = l from List.take_of_length_le (by omega))
   go_wp2
   exact bodyPost_ret (v := .tuple #[u6, .int .i64 0]) (by simp [results, go_sem]) rfl ⟨_, rfl, by have := HO.out; rw [HT.out] at this; exact this, HG.out⟩
  ·obtain ⟨m, rfl⟩ : ∃ m', m = m' + 1 := ⟨m - 1, by omega⟩
   obtain ⟨x, hx⟩ := Option.isSome_iff_exists.1 (show (l[k]?).isSome by simp; omega)
   have hlt : k < S.size := by omega
   have hd := hdec k x hx
   have hdr : l.drop k = x :: l.drop (k + 1) := by
    obtain ⟨h1, rfl⟩ := List.getElem?_eq_some_iff.1 hx
    exact List.drop_eq_getElem_cons h1
   obtain ⟨b, p, rfl, hb, hcell⟩ := hrw.at_ (by rw [hdr]; exact List.cons_ne_nil _ _)
   haveI : Old b w := ⟨hb⟩
   have c0 : w.cell? ⟨b, p, none⟩ = some x.val := by
    have := hcell 0 x (by rw [hdr]; rfl) 0 _ rfl
    simpa using this
   have c1 : wr.cell? ⟨b, p, none⟩ = some x.val := (HG.out.below.cell (p := ⟨b, p, none⟩) hb).trans c0
   have HX := Lib.hid (hok x (List.mem_of_getElem? hx))
   have HT := Lib.hid (row_tail (c := c') (m := m) hb (fun y hy => hok y (List.mem_of_mem_drop hy)) (hdr ▸ hcell) (by rw [List.length_drop]; omega) hmc)
   have HF := Lib.hid (show (l.take (k + 1)).flatMap It.bytes = (l.take k).flatMap It.bytes ++ x.bytes by rw [List.take_add_one, hx, List.flatMap_append]; simp)
   have HKM := Lib.hid hkm
   have HLn : Hid (((l.take k).flatMap It.bytes).length ≤ 10000000) := Lib.hid (by
    have := flat_bytes (l.take k) fun y hy => hok y (List.mem_of_mem_take hy)
    have := List.length_take_le k l
    omega)
   have HSZ := Lib.hid hsz
   clear c0 hdr hx hok hdec hrw hcell hSz hkm
   go_wp2_with (first | (go_at_call 58; ((with_reducible refine (lay_any w.heap.size _ _ x HX.out _ (HO.out.iterAt _ _ _ _) (by have := HSZ.out; simp [World.iterAt]; omega) HLn.out).mono ?_); rintro _ W2 ⟨v2, rfl, hp⟩; have HP := Lib.hid hp; clear hp)))
   have hit2 : IterAt W2 (w.heap.size + 1) S (k + 1) := by
    have hi : IterAt (wr.iterAt (w.heap.size + 1) S (k + 1)) (w.heap.size + 1) S (k + 1) := inferInstance
    exact ⟨(HP.out.block _ hi.lt (fun cs f e => by rw [hi.eq] at e; cases e)).trans hi.eq⟩
   have hg2 : Gr w W2 := Gr.of ((Gr.below (gri : Gr w (wr.iterAt (w.heap.size + 1) S (k + 1)))).trans HP.out.below)
   have HI := Lib.hid hit2
   have HG2 := Lib.hid hg2
   clear hit2 hg2 hit hd c1
   refine wp_region_grow (by kernel_rfl) (by kernel_rfl) ?_
   repeat (go_big_quiet_step (fail))
   refine wpQuiet_nil ?_
   intro g3
   haveI := grc_of HG2.out
   haveI := from_of HG2.out
   haveI := HI.out
   have hT := HT.out
   clear HT
   generalize (if c' = 1 then some (⟨b, p, none⟩ : Addr) else some ⟨b, p + 1, none⟩) = A2 at hT ⊢
   have HT := Lib.hid hT
   clear hT
   go_wp2
   refine ⟨?_, by simp [sliceLen]⟩
   ·refine ⟨k + 1, m, c' - 1, A2, ?r1, ?r2, rfl, HT.out, ?r3, inferInstance, gri, ?r4⟩
    case r1 => have := HKM.out; omega
    case r2 => omega
    case r3 => rw [HF.out]; exact HP.out.own.gr gri
    case r4 => have := HP.out.size; have := HSZ.out; have := (grown_below W2 g3).size; simp [World.iterAt] at *; omega
set_option maxRecDepth 100000
set_option maxHeartbeats 4000000
theorem OwnN.keepY {α β : Type} {e : EK α} {e2 : EK β} {base b2 : Nat} {W W' : World} {v u u' : Value} {xs : List α} {ys zs : List β} (h : OwnN e base W v xs) (k : AppN e2 b2 W u ys zs u' W') (hne : e.E ≠ e2.E) : OwnN e base W' v xs := h.keep fun q hq => by
 rcases h.own.2 with ⟨e1, _⟩ | ⟨g, cap, cur, e1, _, hh, _⟩
 ·rw [e1] at hq
  cases hq
 ·rw [e1] at hq
  have : g = q := by simpa [Value.ownBlock] using hq
  subst this
  exact k.block g (Array.getElem?_eq_some_iff.1 hh).1 (fun cs f e3 => by rw [hh] at e3; simp only [Option.some.injEq, Obj.cells.injEq] at e3; exact hne e3.2.1)
def itsM (m : List (Int × Byt)) : List It := m.flatMap fun q => [.num q.1, .blk q.2]
def itsV (p : Int × VolM) : List It := [.num p.1, .num p.2.1, .num p.2.2.length] ++ itsM p.2.2
def itsK (d : Dev) : List It := .num d.length :: d.flatMap itsV
def bytesK (d : Dev) : List UInt8 := (itsK d).flatMap It.bytes
def itS (l : List It) : ByteArray := ⟨(l.map It.letter).toArray⟩
theorem pack_anyS (l : List It) (hok : ∀ x ∈ l, x.ok) (hn : l.length ≤ 30000) (A : Option Addr) (c : Nat) (hcl : l.length ≤ c) (w : World) (hr : RowN anE w A l) :
  Calls Tryz.prog 22 #[.string (itS l), .slice A l.length c] w fun e w' => ∃ v, e = .returned (.tuple #[v, .int .i64 0]) ∧ OwnN bE w.heap.size w' v (l.flatMap It.bytes) ∧ Gr w w' := pack_any l hok hn A c hcl w hr
theorem itS_app (a b : List It) : itS (a ++ b) = itS a ++ itS b := by
 apply ByteArray.ext
 simp [itS]
theorem itS_size (a : List It) : (itS a).size = a.length := by simp [itS, ByteArray.size]
theorem itsM_len : ∀ m, (itsM m).length = 2 * m.length
 | [] => rfl
 | q :: m => by
  have := itsM_len m
  unfold itsM at *
  rw [List.flatMap_cons, List.length_append, this]
  simp; omega
theorem itsM_take {m : List (Int × Byt)} {j : Nat} {q : Int × Byt} (h : m[j]? = some q) : itsM (m.take (j + 1)) = itsM (m.take j) ++ [.num q.1, .blk q.2] := by
 unfold itsM
 rw [List.take_add_one, h, List.flatMap_append]; simp
theorem itsV_take {d : Dev} {j : Nat} {q : Int × VolM} (h : d[j]? = some q) : (d.take (j + 1)).flatMap itsV = (d.take j).flatMap itsV ++ itsV q := by
 rw [List.take_add_one, h, List.flatMap_append]; simp
theorem vol_len {v : VolM} (h : VolOk v) : v.2.length ≤ 256 := keysK_len h.sort h.keys h.s1
theorem itsV_len {p : Int × VolM} (h : VolOk p.2) : (itsV p).length ≤ 515 := by
 have := vol_len h
 unfold itsV
 rw [List.length_append, itsM_len]
 simp; omega
theorem itsD_len : ∀ (d : Dev), (∀ p ∈ d, VolOk p.2) → (d.flatMap itsV).length ≤ 515 * d.length
 | [], _ => by simp
 | p :: d, h => by
  have h1 := itsD_len d fun q hq => h q (List.mem_cons_of_mem _ hq)
  have h2 := itsV_len (h p List.mem_cons_self)
  rw [List.flatMap_cons, List.length_append, List.length_cons]
  omega
theorem itsV_ok {d : Dev} (h : DevOk d) {p : Int × VolM} (hp : p ∈ d) : ∀ x ∈ itsV p, x.ok := by
 have hv := h.vols p hp
 have hk := h.keys p hp
 have hl := vol_len hv
 have h0 := hv.s0
 have h1 := hv.s1
 intro x hx
 unfold itsV itsM at hx
 rcases List.mem_append.1 hx with hx | hx
 ·simp only [List.mem_cons, List.mem_nil_iff, or_false] at hx
  rcases hx with rfl | rfl | rfl
  ·exact ⟨by omega, by omega⟩
  ·exact ⟨by omega, by omega⟩
  ·exact ⟨by omega, by omega⟩
 ·obtain ⟨q, hq, hx⟩ := List.mem_flatMap.1 hx
  have hq2 := hv.keys q hq
  simp only [List.mem_cons, List.mem_nil_iff, or_false] at hx
  rcases hx with rfl | rfl
  ·exact ⟨by omega, by omega⟩
  ·exact hv.len q hq
theorem itsK_ok {d : Dev} (h : DevOk d) (hn : d.length ≤ 40) : ∀ x ∈ itsK d, x.ok := by
 intro x hx
 rcases List.mem_cons.1 hx with rfl | hx
 ·exact ⟨by omega, by omega⟩
 ·obtain ⟨p, hp, hx⟩ := List.mem_flatMap.1 hx
  exact itsV_ok h hp x hx
theorem OwnN.blk {α : Type} {e : EK α} {base : Nat} {W : World} {g n : Nat} {cs : Array Value} {xs : List α} (h : BlockAt W g cs e.E) (hb : base ≤ g) (hcs : cs.toList = xs.flatMap e.cs) (hn : xs.length = n) (hm : n ≤ 1000) (hok : ∀ x ∈ xs, e.ok x) (hs : cs.size = n * e.k) : OwnN e base W (.slice (some ⟨g, 0, none⟩) n n) xs := by
 subst hn
 have hl : cs.toList.length = xs.length * e.k := by simpa using hs
 refine ⟨hok, by rw [← hcs]; exact hl, .inr ⟨g, xs.length, cs, rfl, hb, h.eq, Nat.le_refl _, by unfold maxLen; omega, hs, ?_⟩⟩
 rw [← hcs]
 exact List.take_of_length_le (by omega)
theorem CellsN.blk {α : Type} {e : EK α} (he : e.Is) {W : World} {g : Nat} {cs : Array Value} {xs : List α} {T : TypeId} (h : BlockAt W g cs T) (hcs : cs.toList = xs.flatMap e.cs) (hok : ∀ x ∈ xs, e.ok x) : CellsN e W g 0 xs := by
 intro j x hj i u hu
 rw [Nat.zero_add, block_cells W g _ cs T, ← Array.getElem?_toList, hcs]
 exact flatN_at he xs hok j i x u hj hu
theorem bytes_any (base D : Nat) (d : Dev) (hn : d.length ≤ 40) (w : World) (h : DevAt base w D d) : Calls Tryz.prog 10 #[.pointer (some ⟨D, 0, none⟩)] w fun e w' => ∃ v, e = .returned v ∧ OwnN bE w.heap.size w' v (bytesK d) ∧ Gr w w' := by
 have HDA := Lib.hid h
 obtain ⟨M, mb, h⟩ := h
 have HD := Lib.hid h
 have HT := Lib.hid (fun W (hW : Gr w W) => there_yes D M W (HD.out.blk.gr hW))
 haveI := h.blk
 have x0 : w.cell? ⟨D, 0, none⟩ = some (.map (some M)) := (@block_cells _ _ 0 _ _ h.blk).trans rfl
 haveI : Old D w := h.blk.old
 have HLO := Lib.hid (itsD_len d h.ok.vols)
 have HN := Lib.hid hn
 have HOK := Lib.hid h.ok
 have hwr : IntKind.u64.wrap (d.length : Int) = (d.length : Int) := by have := HN.out; simp [IntKind.wrap, IntKind.bits, IntKind.signed]; omega
 clear h hn
 go_enter Tryz.func10, Tryz.ntmps10
 go_wp2_with (first | (go_at_call 19; ((with_reducible refine (HT.out _ gri).mono ?_); rintro _ _ ⟨rfl, g1, rfl⟩)) | (go_at_call 20; ((with_reducible refine (volumes_any base D d (by have := HN.out; omega) _ (HDA.out.gr gri)).mono ?_); rintro _ W2 ⟨v2, rfl, hv, hg⟩; obtain ⟨A, c, hA, -, -, -⟩ := hv.form uIs; rw [List.length_map] at hA; subst hA; haveI := grc_of (Gr.trans (gri : Gr w (grown w g1)) hg); haveI := from_of (Gr.trans (gri : Gr w (grown w g1)) hg); have HV := Lib.hid hv; have HG := Lib.hid hg; clear hv hg)))
 have HB0 := Lib.hid (show w.heap.size ≤ W2.heap.size from Nat.le_trans (grown_below w g1).size HG.out.below.size)
 go_loopw [4, 5, 25] (fun v4 v5 v25 wr => ∃ i : Nat, i ≤ d.length ∧ v25 = .int .i64 (i : Int) ∧ v4 = .string (itS (.num d.length :: (d.take i).flatMap itsV)) ∧ OwnN anE w.heap.size wr v5 (.num d.length :: (d.take i).flatMap itsV) ∧ OwnN uE w.heap.size wr (.slice A d.length c) (d.map (·.1)) ∧ Gr w wr) (fun _ _ v _ => d.length - (intOf v).toNat)
 case atStart =>
  refine ⟨0, Nat.zero_le _, rfl, rfl, ?_, (HV.out.gr gri).more (by have := (grown_below w g1).size; omega), gri⟩
  exact OwnN.blk (e := anE) (xs := [.num d.length]) inferInstance HB0.out rfl rfl (by decide) (by intro x hx; rw [List.mem_singleton] at hx; subst hx; exact ⟨by omega, by have := HN.out; omega⟩) rfl
 case round =>
  obtain ⟨i, hi, rfl, rfl, ho, hk, hg⟩ := hrel
  haveI := grc_of hg
  haveI := from_of hg
  have HG := Lib.hid hg
  have HO := Lib.hid ho
  have HK := Lib.hid hk
  clear hg ho hk
  by_cases hlt : i < d.length
  ·obtain ⟨p, hp⟩ := Option.isSome_iff_exists.1 (show (d[i]?).isSome by simp; omega)
   have hpm := List.mem_of_getElem? hp
   have hgk : getK d p.1 = some p.2 := (getK_mem HOK.out.sort).2 hpm
   have hgl := getK_vols d mb p.1
   rw [hgk] at hgl
   obtain ⟨g, c', hAe, -, hgw, -, -, hcl, -⟩ := HK.out.cells uIs (by intro e; rw [List.map_eq_nil_iff] at e; rw [e] at hlt; simp at hlt)
   rw [List.length_map] at hAe
   simp only [Value.slice.injEq] at hAe
   obtain ⟨rfl, -, rfl⟩ := hAe
   have x1 : wr.cell? ⟨g, i, none⟩ = some (.int .u64 p.1) := by
    have := hcl i p.1 (by rw [List.getElem?_map, hp]; rfl) 0 _ rfl
    simpa [uE, sE] using this
   haveI : Old g wr := ⟨hgw⟩
   have HVO := Lib.hid (HOK.out.vols p hpm)
   have HMM := Lib.hid (HD.out.vol p hpm)
   obtain ⟨n, s, m⟩ := p
   have hml : m.length ≤ 256 := vol_len HVO.out
   have hwr2 : IntKind.u64.wrap (m.length : Int) = (m.length : Int) := by simp [IntKind.wrap, IntKind.bits, IntKind.signed]; omega
   have hwr3 : IntKind.u64.wrap s = s := by have h8 : 0 ≤ s := HVO.out.s0; have h9 : s ≤ 256 := HVO.out.s1; simp [IntKind.wrap, IntKind.bits, IntKind.signed]; omega
   have HL := Lib.hid hgl
   have HGK := Lib.hid hgk
   have HPT := Lib.hid (itsV_take hp)
   have HLN := Lib.hid (show ((.num d.length :: (d.take i).flatMap itsV : List It)).length ≤ 30000 from by have := itsD_len (d.take i) (fun q hq => HOK.out.vols q (List.mem_of_mem_take hq)); have := HN.out; simp at *; omega)
   have hsz : ¬ 9223372036854775807 < (itS (.num d.length :: (d.take i).flatMap itsV)).size + 3 := by have := HLN.out; rw [itS_size]; omega
   have HOK3 := Lib.hid (show ∀ x ∈ [It.num n, It.num s, It.num m.length], x.ok from fun x hx => itsV_ok HOK.out hpm x (List.mem_append_left _ hx))
   clear hpm hp hgl hgk hcl
   go_wp2_with (first | (go_at_call 21; ((with_reducible refine (mapped_any base D d n (s, m) HGK.out _ (HDA.out.gr gri)).mono ?_); rintro _ W3 ⟨v3, rfl, hv, hg⟩; obtain ⟨A3, c3, hA, -, -, -⟩ := hv.form I.sIs; rw [List.length_map] at hA; subst hA; haveI := grc_of hg; haveI := from_of hg; haveI := grc_of (HG.out.trans hg); haveI := from_of (HG.out.trans hg); have z3 : W3.cell? ⟨D, 0, none⟩ = some (.map (some M)) := ((HG.out.trans hg).below.cell (p := ⟨D, 0, none⟩) Old.lt).trans x0; haveI : Old D W3 := old_of_cell z3; have HV3 := Lib.hid hv; have HG3 := Lib.hid hg; clear hv hg)) | (at_lookup; refine wpList_lookupK (q := .u64) (b := M) rfl _ _ rfl n Tryz.underlying53 Tryz.underlying24 (Tryz.zeroValue64 _) (HD.out.all.gr gri) rfl rfl ?_; rw [HL.out]) | (at_builtin; refine wp_append_n anIs rfl _ _ rfl rfl (HO.out.gr gri) _ 0 [.num n, .num s, .num m.length] 3 3 rfl rfl HOK3.out (CellsN.blk anIs inferInstance rfl HOK3.out) (by have := HLN.out; simp at this ⊢; omega) past (by simp) ?_; intro v1 W1 h1; have H1 := Lib.hid h1; clear h1))
   obtain ⟨L, hL⟩ : ∃ L : List It, L = (.num d.length :: (d.take i).flatMap itsV) ++ [.num n, .num s, .num m.length] := ⟨_, rfl⟩
   have HLL := Lib.hid hL
   have H1own := Lib.hid (hL ▸ H1.out.own)
   clear hL
   go_loopw [4, 5, 54] (fun v4 v5 v54 wx => ∃ j : Nat, j ≤ m.length ∧ v54 = .int .i64 (j : Int) ∧ v4 = .string (itS (L ++ itsM (m.take j))) ∧ OwnN anE w.heap.size wx v5 (L ++ itsM (m.take j)) ∧ OwnN uE w.heap.size wx (.slice (some ⟨g, 0, none⟩) d.length c) (d.map (·.1)) ∧ OwnN I.sE w.heap.size wx (.slice A3 m.length c3) (m.map (·.1)) ∧ Gr w wx) (fun _ _ v _ => m.length - (intOf v).toNat)
   case atStart =>
    refine ⟨0, Nat.zero_le _, rfl, ?_, ?_, ?_, ?_, by haveI := H1.out.grc w (Nat.le_refl _); exact gri⟩
    ·have e0 : L ++ itsM (m.take 0) = L := by simp [itsM]
     rw [e0, HLL.out, itS_app]; rfl
    ·have e0 : L ++ itsM (m.take 0) = L := by simp [itsM]
     rw [e0]; exact H1own.out
    ·exact ((HK.out.gr HG3.out).gr gri).keepY H1.out (by decide)
    ·exact ((HV3.out.gr gri).more (HG.out.below.size)).keepY H1.out (by decide)
   case round =>
    obtain ⟨j, hj, rfl, rfl, ho2, hk2, hm2, hg2⟩ := hrel
    haveI := grc_of hg2
    haveI := from_of hg2
    have HG4 := Lib.hid hg2
    have HO4 := Lib.hid ho2
    have HK4 := Lib.hid hk2
    have HM4 := Lib.hid hm2
    have z4 : wr.cell? ⟨D, 0, none⟩ = some (.map (some M)) := (hg2.below.cell (p := ⟨D, 0, none⟩) Old.lt).trans x0
    haveI : Old D wr := old_of_cell z4
    clear hg2 ho2 hk2 hm2
    by_cases hjt : j < m.length
    ·obtain ⟨q, hq⟩ := Option.isSome_iff_exists.1 (show (m[j]?).isSome by simp; omega)
     obtain ⟨b, B⟩ := q
     have hqm := List.mem_of_getElem? hq
     have hBl : B.length = 256 := HVO.out.len _ hqm
     have hb0 : 0 ≤ b ∧ b < s := HVO.out.keys _ hqm
     have hs2 : s ≤ 256 := HVO.out.s1
     have hwb : IntKind.u64.wrap b = b := by simp [IntKind.wrap, IntKind.bits, IntKind.signed]; omega
     have hkb : getK (encK bkV m) b = some (Value.agg (bkC B)) := by rw [getK_enc, (getK_mem HVO.out.sort).2 hqm]; rfl
     obtain ⟨g3, c', hAe, -, hgw, -, -, hcl, -⟩ := HM4.out.cells I.sIs (by intro e; rw [List.map_eq_nil_iff] at e; rw [e] at hjt; simp at hjt)
     rw [List.length_map] at hAe
     simp only [Value.slice.injEq] at hAe
     obtain ⟨rfl, -, rfl⟩ := hAe
     have x3 : wr.cell? ⟨g3, j, none⟩ = some (.int .i64 b) := by
      have := hcl j b (by rw [List.getElem?_map, hq]; rfl) 0 _ rfl
      simpa [I.sE, sE] using this
     haveI : Old g3 wr := ⟨hgw⟩
     haveI := bkC_row hBl
     have HKB := Lib.hid hkb
     have HMT := Lib.hid (itsM_take hq)
     have HOK2 := Lib.hid (show ∀ x ∈ [It.num b, It.blk B], x.ok from fun x hx => by
      simp only [List.mem_cons, List.mem_nil_iff, or_false] at hx
      rcases hx with rfl | rfl
      ·exact ⟨by omega, by omega⟩
      ·exact hBl)
     have HLN2 := Lib.hid (show (L ++ itsM (m.take j)).length ≤ 50000 from by have := itsM_len (m.take j); have := HLN.out; have := HN.out; rw [HLL.out]; simp at *; omega)
     have hsz2 : ¬ 9223372036854775807 < (itS (L ++ itsM (m.take j))).size + 2 := by have := HLN2.out; rw [itS_size]; omega
     clear hqm hq hkb hcl hgw hBl hb0 hs2
     go_wp2_with (first | (at_lookup; refine wpList_lookupK (q := .u64) (b := M) rfl _ _ rfl n Tryz.underlying53 Tryz.underlying24 (Tryz.zeroValue64 _) (HD.out.all.gr gri) rfl rfl ?_; rw [HL.out]) | (at_lookup; refine wpList_lookupK (q := .i64) (b := mb n) rfl _ _ rfl b Tryz.underlying62 Tryz.underlying3 (Tryz.zeroValue66 _) (HMM.out.gr gri) rfl rfl ?_; rw [HKB.out]) | (at_builtin; refine wp_append_n anIs rfl _ _ rfl rfl (HO4.out.gr gri) _ 0 [.num b, .blk B] 2 2 rfl rfl HOK2.out (CellsN.blk anIs inferInstance rfl HOK2.out) (by have := HLN2.out; simp at this ⊢; omega) past (by simp) ?_; intro v1 W1 h1; have H5 := Lib.hid h1; clear h1))
     go_roundw
     case rel =>
      refine ⟨j + 1, by omega, by go_num, ?_, ?_, ?_, ?_, by haveI := H5.out.grc w (Nat.le_refl _); exact gri⟩
      ·rw [HMT.out, ← List.append_assoc, itS_app (L ++ _), itS_app L]; rfl
      ·rw [HMT.out, ← List.append_assoc]; exact H5.out.own
      ·exact (HK4.out.gr gri).keepY H5.out (by decide)
      ·exact (HM4.out.gr gri).keepY H5.out (by decide)
     case measure => simp [intOf]; omega
    ·obtain rfl : j = m.length := by omega
     have HE := Lib.hid (show L ++ itsM (m.take m.length) = .num d.length :: (d.take (i + 1)).flatMap itsV from by rw [List.take_length, HLL.out, HPT.out]; simp [itsV])
     have hn40 := HN.out
     go_wp2_with fail
     go_roundw
     case rel => exact ⟨i + 1, hlt, by go_num, by rw [HE.out], HE.out ▸ HO4.out.gr gri, HK4.out.gr gri, HG4.out.trans gri⟩
     case measure => simp [intOf]; omega
  ·obtain rfl : i = d.length := by omega
   have HE := Lib.hid (show (.num d.length :: (d.take d.length).flatMap itsV) = itsK d from by rw [List.take_length]; rfl)
   rw [HE.out] at HO ⊢
   have HLK := Lib.hid (show (itsK d).length ≤ 30000 from by have h1 := HLO.out; have h2 := HN.out; unfold itsK; rw [List.length_cons]; omega)
   obtain ⟨AV, cV, hV, hcV, -, hRV⟩ := HO.out.form anIs
   subst hV
   have HRV := Lib.hid hRV
   have HCV := Lib.hid hcV
   clear hRV hcV
   go_wp2_with (first | (go_at_call 22; ((with_reducible refine (pack_anyS (itsK d) (itsK_ok HOK.out HN.out) HLK.out AV cV HCV.out _ (HRV.out.gr gri)).mono ?_); rintro _ W5 ⟨v5, rfl, hv5, hg5⟩; haveI := grc_of (HG.out.trans (Gr.trans gri hg5)); have HV5 := Lib.hid hv5; have HG5 := Lib.hid hg5; clear hv5 hg5)))
   go_ret
   exact ⟨_, rfl, (HV5.out.gr gri).more past, gri⟩
end Go.Proofs.YtddckdhnolmjoaaGreat
