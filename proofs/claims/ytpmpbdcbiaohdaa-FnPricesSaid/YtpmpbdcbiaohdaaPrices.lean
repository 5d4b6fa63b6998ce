/- Prices that prove an image heaviest: their test. -/
import Derived.Test.YtpmpbdcbiaohdaaReA
import Derived.Test.YtpmpbdcbiaohdaaHelp1
namespace Go.Proofs.Ytpmpbdcbiaohdaa
open Go.RowKit

def priceCell (c n : Int) : Bool := !((c == 1 && decide (n < 0)) || (c == 0 && decide (0 < n)))
def priceRow (r v : List Int) (ay : Int) (b : List Int) (j : Nat) : Bool := (List.range j).all fun (x : Nat) => priceCell (r[x]?.getD 0) (v[x]?.getD 0 - ay - b[x]?.getD 0)
def priceAt (wt m : List (List Int)) (a b : List Int) (y : Nat) : Bool := priceRow (m[y]?.getD []) (wt[y]?.getD []) (a[y]?.getD 0) b (m[y]?.getD []).length
def pricesOk (wt m : List (List Int)) (a b : List Int) : Bool :=
  (weightOf wt m).2 && (decide ((a.length : Int) = m.length) && allIn a (-1000) 1000) && (decide ((b.length : Int) = (m.headD []).length) && allIn b (-1000) 1000) && (List.range m.length).all (priceAt wt m a b)

theorem priceAt_eq {wt m : List (List Int)} {a b : List Int} {k : Nat} {r v : List Int} {ay : Int} (h1 : m[k]? = some r) (h2 : wt[k]? = some v) (h3 : a[k]? = some ay) : priceAt wt m a b k = priceRow r v ay b r.length := by
  unfold priceAt; rw [h1, h2, h3]; rfl
theorem priceRow_succ {r v b : List Int} {ay : Int} {j : Nat} {c y z : Int} (h1 : r[j]? = some c) (h2 : v[j]? = some y) (h3 : b[j]? = some z) : priceRow r v ay b (j + 1) = (priceRow r v ay b j && priceCell c (y - ay - z)) := by
  unfold priceRow; rw [range_all_succ, h1, h2, h3]; rfl
theorem priceRow_false {r v b : List Int} {ay : Int} {n j : Nat} {c y z : Int} (hj : j < n) (h1 : r[j]? = some c) (h2 : v[j]? = some y) (h3 : b[j]? = some z) (h : priceCell c (y - ay - z) = false) : priceRow r v ay b n = false :=
  range_all_false hj (by rw [h1, h2, h3]; exact h)
theorem weightOf_true {wt m : List (List Int)} (h : (weightOf wt m).2 = true) : gridOk m 0 1 = true ∧ weightOk wt m.length (m.headD []).length = true := by
  unfold weightOf at h
  split at h
  · rename_i h2; simpa using h2
  · cases h


set_option maxHeartbeats 4000000 in
theorem implPricesOk_any (A B D E : Option Addr) (ca cb cd ce : Nat) (wt m : List (List Int)) (a b : List Int) (w : World) (hl : wt.length ≤ 1048576) (hr : ∀ r ∈ wt, r.length ≤ 1048576) (hl2 : m.length ≤ 1048576) (hr2 : ∀ r ∈ m, r.length ≤ 1048576)
    (hl3 : a.length ≤ 1048576) (hl4 : b.length ≤ 1048576) (hx : GridAt w A wt) (hy : GridAt w B m) (ha : Ints w D a) (hb : Ints w E b) :
    Calls Try.prog 13 #[.slice A wt.length ca, .slice B m.length cb, .slice D a.length cd, .slice E b.length ce] w fun e w' => e = .returned (.bool (pricesOk wt m a b)) ∧ Drew w w' := by
  obtain ⟨p, hp⟩ : ∃ p, (weightOf wt m).1 = p := ⟨_, rfl⟩
  obtain ⟨z, hz⟩ : ∃ z, (weightOf wt m).2 = z := ⟨_, rfl⟩
  have cw := implWeightOf_any A B ca cb wt m w hl hr hl2 hr2 hx hy
  rw [hp, hz] at cw
  have HZ := Lib.hid hz
  clear hp hz
  cases z
  · go_enter Try.func13, Try.ntmps13
    go_wp2_with (go_at_call 9; refine cw.mono ?_; rintro e w' ⟨rfl, rfl⟩)
    go_ret
    exact ⟨ret_bool (by simp [pricesOk, HZ.out]), Drew.refl _⟩
  obtain ⟨hg1, hg2⟩ := weightOf_true HZ.out
  have hw := weighs_of hg1 hg2
  have hp1 := (gridOk_rows hg1).1
  have hp2 : m.length ≤ 5 := hw.small
  have hlen1 : wt.length ≤ m.length := Nat.le_of_eq hw.len
  have hlen2 : m.length ≤ wt.length := Nat.le_of_eq hw.len.symm
  obtain ⟨r0, m', rfl⟩ : ∃ r0 m', m = r0 :: m' := by
    cases m with
    | nil => simp at hp1
    | cons r0 m' => exact ⟨r0, m', rfl⟩
  have hall := (gridOk_iff.1 hg1).2
  obtain ⟨bm, om, R0, c0, rfl, _, hcell0, _⟩ := hy.head
  generalize hg : r0 :: m' = m at *
  have hhd : m.headD [] = r0 := by rw [← hg]; rfl
  rw [hhd] at hall
  have HD := Lib.hid hhd
  have HW := Lib.hid hw; have HALL := Lib.hid hall
  clear hg hhd hg1 hg2 hw hall hr hr2
  have c1 := allWithin_any D cd a (-1000) 1000 w hl3 ha
  have c2 := allWithin_any E ce b (-1000) 1000 w hl4 hb
  by_cases e1 : (a.length : Int) = m.length
  case neg =>
    have f1 : ((a.length : Int) != (m.length : Int)) = true := by rw [bne_iff_ne]; exact e1
    have E1 := Lib.hid e1; clear e1
    go_enter Try.func13, Try.ntmps13
    go_wp2_with (first | (go_at_call 9; refine cw.mono ?_; rintro e w' ⟨rfl, rfl⟩) | (go_at_call 28; (first | (with_reducible refine c1.mono ?_) | (with_reducible refine c2.mono ?_)); rintro e w' ⟨rfl, rfl⟩))
    go_ret
    exact ⟨ret_bool (by unfold pricesOk; rw [decide_eq_false E1.out]; simp), Drew.refl _⟩
  have f1 : ((a.length : Int) != (m.length : Int)) = false := by rw [bne_eq_false_iff_eq]; exact e1
  have E1 := Lib.hid e1; clear e1
  by_cases e2 : (b.length : Int) = r0.length
  case neg =>
    have f2 : ((b.length : Int) != (r0.length : Int)) = true := by rw [bne_iff_ne]; exact e2
    have E2 := Lib.hid e2; clear e2
    go_enter Try.func13, Try.ntmps13
    go_wp2_with (first | (go_at_call 9; refine cw.mono ?_; rintro e w' ⟨rfl, rfl⟩) | (go_at_call 28; (first | (with_reducible refine c1.mono ?_) | (with_reducible refine c2.mono ?_)); rintro e w' ⟨rfl, rfl⟩))
    go_ret
    exact ⟨ret_bool (by unfold pricesOk; rw [HD.out, decide_eq_false E2.out]; simp), Drew.refl _⟩
  have f2 : ((b.length : Int) != (r0.length : Int)) = false := by rw [bne_eq_false_iff_eq]; exact e2
  have E2 := Lib.hid e2; clear e2
  cases h1 : allIn a (-1000) 1000
  · rw [h1] at c1
    go_enter Try.func13, Try.ntmps13
    go_wp2_with (first | (go_at_call 9; refine cw.mono ?_; rintro e w' ⟨rfl, rfl⟩) | (go_at_call 28; (first | (with_reducible refine c1.mono ?_) | (with_reducible refine c2.mono ?_)); rintro e w' ⟨rfl, rfl⟩))
    go_ret
    exact ⟨ret_bool (by unfold pricesOk; rw [h1]; simp), Drew.refl _⟩
  cases h2 : allIn b (-1000) 1000
  · rw [h1] at c1
    rw [h2] at c2
    go_enter Try.func13, Try.ntmps13
    go_wp2_with (first | (go_at_call 9; refine cw.mono ?_; rintro e w' ⟨rfl, rfl⟩) | (go_at_call 28; (first | (with_reducible refine c1.mono ?_) | (with_reducible refine c2.mono ?_)); rintro e w' ⟨rfl, rfl⟩))
    go_ret
    exact ⟨ret_bool (by unfold pricesOk; rw [h2]; simp), Drew.refl _⟩
  rw [h1] at c1
  rw [h2] at c2
  have hpa : (decide ((a.length : Int) = m.length) && allIn a (-1000) 1000) = true := by rw [h1, decide_eq_true E1.out]; rfl
  have hpb : (decide ((b.length : Int) = r0.length) && allIn b (-1000) 1000) = true := by rw [h2, decide_eq_true E2.out]; rfl
  clear h1 h2
  -- the cells
  have HPA := Lib.hid hpa; have HPB := Lib.hid hpb
  have hal := hpa
  have hbl := hpb
  simp only [Bool.and_eq_true, decide_eq_true_eq] at hal hbl
  obtain ⟨ha1, ha2⟩ := hal
  obtain ⟨hb1, hb2⟩ := hbl
  have HA2 := Lib.hid ha2; have HB2 := Lib.hid hb2
  have ha3 : m.length ≤ a.length := by omega
  have hb3 : r0.length ≤ b.length := by omega
  have HAB := Lib.hid (And.intro ha1 hb1)
  clear hpa hpb ha1 hb1 ha2 hb2
  go_enter Try.func13, Try.ntmps13
  go_wp2_with (first | (go_at_call 9; refine cw.mono ?_; rintro e w' ⟨rfl, rfl⟩) | (go_at_call 28; (first | (with_reducible refine c1.mono ?_) | (with_reducible refine c2.mono ?_)); rintro e w' ⟨rfl, rfl⟩))
  clear cw c1 c2
  go_loopw [52] (fun i wr => ∃ k : Nat, k ≤ m.length ∧ i = .int .i64 k ∧ Hid (Drew w wr) ∧ Hid ((List.range k).all (priceAt wt m a b) = true)) (fun i _ => m.length - (intOf i).toNat)
  case atStart => exact ⟨0, Nat.zero_le _, rfl, Lib.hid (Drew.refl w), Lib.hid (by simp)⟩
  case round =>
    obtain ⟨k, hk, rfl, hd, hs⟩ := hrel
    obtain ⟨n1, hn1⟩ := hd.out
    subst hn1
    by_cases hlt : k < m.length
    · obtain ⟨R, c, r, HX, hcell, hrow⟩ := hy.at1 hlt
      obtain ⟨b2, o2, V, c2, v, rfl, hbv, HV, hcell2, hvrow⟩ := hx.at_ (k := k) (by omega)
      obtain ⟨b5, o5, ay, rfl, hba, HAY, hcell5⟩ := ha.at_ (k := k) (by omega)
      obtain ⟨q1, q2, q3, q4⟩ := HW.out.row k r v HX.out HV.out
      have q5 := (HALL.out r (List.mem_of_getElem? HX.out)).1
      have hvl : r.length ≤ v.length := by omega
      have hrb : r.length ≤ b.length := by omega
      have HBR := Lib.hid (And.intro q3 q4)
      have HM := Lib.hid (priceAt_eq (b := b) HX.out HV.out HAY.out)
      obtain ⟨ay1, ay2⟩ := inR_iff.1 ((List.all_eq_true.1 HA2.out) ay (List.mem_of_getElem? HAY.out))
      have hkw : k < wt.length := by omega
      have hka : k < a.length := by omega
      clear hx hy ha q1 q3 q4 q5
      go_wp2_with fail
      go_loopw [59] (fun i wi => ∃ j : Nat, j ≤ r.length ∧ i = .int .i64 j ∧ Hid (Drew w wi) ∧ Hid (priceRow r v ay b j = true)) (fun i _ => r.length - (intOf i).toNat)
      case atStart => exact ⟨0, Nat.zero_le _, rfl, hd, Lib.hid (by simp [priceRow])⟩
      case round =>
        obtain ⟨j, hj, rfl, hd2, hs2⟩ := hrel
        by_cases hlt2 : j < r.length
        · obtain ⟨b3, o3, x, rfl, hbx, HX2, hcell3⟩ := hrow.at_ hlt2
          obtain ⟨b4, o4, y, rfl, hby, HV2, hcell4⟩ := hvrow.at_ (k := j) (by omega)
          obtain ⟨b6, o6, z, rfl, hbz, HB6, hcell6⟩ := hb.at_ (k := j) (by omega)
          obtain ⟨n, hn⟩ := hd2.out
          subst hn
          have hjv : j < v.length := by omega
          have hjb : j < b.length := by omega
          have hbit := HBR.out.1 x (List.mem_of_getElem? HX2.out)
          obtain ⟨y1, y2⟩ := HBR.out.2 y (List.mem_of_getElem? HV2.out)
          obtain ⟨z1, z2⟩ := inR_iff.1 ((List.all_eq_true.1 HB2.out) z (List.mem_of_getElem? HB6.out))
          have HM2 := Lib.hid (priceRow_succ (ay := ay) HX2.out HV2.out HB6.out)
          clear hrow hvrow hb
          rcases hbit with rfl | rfl
          · by_cases hs3 : 0 < y - ay - z
            · go_wp2_with fail
              go_quiet (fail)
              go_wp2_with fail
              go_ret
              refine ⟨ret_bool ?_, (Drew.refl _).drewN _⟩
              unfold pricesOk
              rw [range_all_false hlt (by rw [HM.out, priceRow_false hlt2 HX2.out HV2.out HB6.out (by simp [priceCell]; omega)]), Bool.and_false]
            · go_wp2_with fail
              go_quiet (fail)
              go_wp2_with fail
              go_roundw
              case rel => exact ⟨j + 1, by omega, by go_num, Lib.hid ((Drew.refl _).drewN _), Lib.hid (by rw [HM2.out, hs2.out]; simp [priceCell]; omega)⟩
              case measure => simp [intOf]; omega
          · by_cases hs3 : y - ay - z < 0
            · go_wp2_with fail
              go_quiet (fail)
              go_wp2_with fail
              go_ret
              refine ⟨ret_bool ?_, (Drew.refl _).drewN _⟩
              unfold pricesOk
              rw [range_all_false hlt (by rw [HM.out, priceRow_false hlt2 HX2.out HV2.out HB6.out (by simp [priceCell]; omega)]), Bool.and_false]
            · go_wp2_with fail
              go_quiet (fail)
              go_wp2_with fail
              go_roundw
              case rel => exact ⟨j + 1, by omega, by go_num, Lib.hid ((Drew.refl _).drewN _), Lib.hid (by rw [HM2.out, hs2.out]; simp [priceCell]; omega)⟩
              case measure => simp [intOf]; omega
        · obtain rfl : j = r.length := by omega
          go_wp2_with fail
          go_roundw
          case rel => exact ⟨k + 1, by omega, by go_num, hd2, Lib.hid (by rw [range_all_succ, hs.out, HM.out, hs2.out]; rfl)⟩
          case measure => simp [intOf]; omega
    · obtain rfl : k = m.length := by omega
      go_wp2_with fail
      go_ret
      exact ⟨ret_bool (by unfold pricesOk; rw [HZ.out, HD.out, HPA.out, HPB.out, hs.out]; rfl), hd.out⟩

end Go.Proofs.Ytpmpbdcbiaohdaa
