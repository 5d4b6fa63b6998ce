/- The number of pieces of an image; one piece. -/
import Derived.Test.YtlhjbpachpjpkaaPaint2
import Derived.Test.YtlhjbpachpjpkaaPaint3
import Derived.Test.YtlhjbpachpjpkaaReA
import Derived.Deep.Heap
namespace Go.Proofs.Ytlhjbpachpjpkaa
open Go.RowKit

/-- what the count has done before it comes to a cell -/
inductive Count (k : Nat) (m : List (List Int)) : Nat → Nat → List (List Int) → Nat → Prop
  | start : Count k m 0 0 m 0
  | white (y x : Nat) (q : List (List Int)) (c : Nat) : Count k m y x q c → x < k → cellI q y x ≠ 1 → Count k m y (x + 1) q c
  | black (y x : Nat) (q q' : List (List Int)) (c : Nat) : Count k m y x q c → x < k → cellI q y x = 1 → Paint q y x q' → Count k m y (x + 1) q' (c + 1)
  | row (y : Nat) (q : List (List Int)) (c : Nat) : Count k m y k q c → Count k m (y + 1) 0 q c
theorem Count.det {k : Nat} {m : List (List Int)} {y x : Nat} {q : List (List Int)} {c : Nat} (h : Count k m y x q c) : ∀ q' c', Count k m y x q' c' → q = q' ∧ c = c' := by
  induction h with
  | start => intro q' c' h'; cases h'; exact ⟨rfl, rfl⟩
  | white y x q c _ hx hc ih =>
    intro q' c' h'
    cases h' with
    | white _ _ _ _ h1 _ _ => exact ih _ _ h1
    | black _ _ q1 _ c1 h1 _ h2 _ => obtain ⟨rfl, _⟩ := ih _ _ h1; exact absurd h2 hc
  | black y x q q2 c _ hx hc hp ih =>
    intro q' c' h'
    cases h' with
    | white _ _ _ _ h1 _ h2 => obtain ⟨rfl, _⟩ := ih _ _ h1; exact absurd hc h2
    | black _ _ q1 _ c1 h1 _ h2 h3 => obtain ⟨rfl, rfl⟩ := ih _ _ h1; exact ⟨hp.det _ h3, rfl⟩
  | row y q c _ ih =>
    intro q' c' h'
    cases h' with
    | row _ _ _ h1 => exact ih _ _ h1
open Classical in
noncomputable def pieces (m : List (List Int)) : Int := if gridOk m 0 1 = true then ((Classical.epsilon fun c : Nat => ∃ q, Count (m.headD []).length m m.length 0 q c : Nat) : Int) else -1
theorem pieces_of {m q : List (List Int)} {c : Nat} (h : gridOk m 0 1 = true) (hc : Count (m.headD []).length m m.length 0 q c) : pieces m = c := by
  have hx : ∃ c : Nat, ∃ q, Count (m.headD []).length m m.length 0 q c := ⟨c, q, hc⟩
  obtain ⟨q2, h2⟩ := Classical.epsilon_spec hx
  unfold pieces
  rw [if_pos h, (hc.det _ _ h2).2]
theorem count_le {k : Nat} {m : List (List Int)} {y x : Nat} {q : List (List Int)} {c : Nat} (h : Count k m y x q c) (hx : x ≤ k) : c ≤ y * k + x := by
  induction h with
  | start => omega
  | white y x q c _ h1 _ ih => have := ih (by omega); omega
  | black y x q q' c _ h1 _ _ ih => have := ih (by omega); omega
  | row y q c _ ih => have := ih (by omega); rw [Nat.add_mul]; omega

/-- the outer row of a grid is as it was where blocks without numbers are -/
theorem OwnGrid.outer {w w' : World} {B b n c : Nat} {g : List (List Int)} (h : OwnGrid w B (.slice (some ⟨b, 0, none⟩) n c) g) (hn : NonInt w w') {y : Nat} {u : Value} (hc : w.cell? ⟨b, y, none⟩ = some u) : w'.cell? ⟨b, y, none⟩ = some u := by
  obtain ⟨us, _, h2, _⟩ := h
  rcases h2.2 with ⟨hv, _⟩ | ⟨b', _, cur, hv, _, hb, _⟩
  · cases hv
  · cases hv
    have := hn b _ hb (by intro cs fz h; simp at h)
    rw [World.cell?_of_block (w := w) (this.trans hb.symm)]; exact hc

set_option maxHeartbeats 4000000 in
theorem specCountPieces_any (A : Option Addr) (cap : Nat) (m : List (List Int)) (w : World) (hl : m.length ≤ 1048576) (hr : ∀ r ∈ m, r.length ≤ 1048576) (hx : GridAt w A m) :
    Calls Try.prog 69 #[.slice A m.length cap] w fun e w' => e = .returned (.int .i64 (pieces m)) ∧ Ext w w' := by
  have ci := specImageOk_any A cap m w hl hr hx
  cases h : gridOk m 0 1
  · rw [h] at ci
    have HP : Hid (pieces m = -1) := Lib.hid (by unfold pieces; rw [if_neg (by rw [h]; simp)])
    go_enter Try.func69, Try.ntmps69
    go_wp2_with (go_at_call 32; refine ci.mono ?_; rintro e w' ⟨rfl, rfl⟩)
    go_ret
    exact ⟨ret_int HP.out.symm, Ext.refl _⟩
  · rw [h] at ci
    have himg := Img.of h
    obtain ⟨n, hn⟩ : ∃ n, m.length = n := ⟨_, rfl⟩
    obtain ⟨k, hk⟩ : ∃ k, (m.headD []).length = k := ⟨_, rfl⟩
    have HP := Lib.hid (fun (q : List (List Int)) (c : Nat) => pieces_of (q := q) (c := c) h)
    rw [hn, hk] at himg HP
    obtain ⟨hn1, hn5⟩ := himg.2.1
    obtain ⟨hk1, hk5⟩ := himg.2.2.1
    have cc := l02Copy_any A cap m w (by omega) (by omega) (fun r hr => by rw [himg.1.2 r hr]; omega) hx
    rw [hn] at ci cc ⊢
    have HM := Lib.hid himg
    clear himg hx hr hn hk h
    go_enter Try.func69, Try.ntmps69
    go_wp2_with (go_at_call 32; refine ci.mono ?_; rintro e w' ⟨rfl, rfl⟩)
    refine cc.mono ?_
    rintro e w1 ⟨b, cb, rfl, ho, he⟩
    have HO := Lib.hid ho
    have HE := Lib.hid he
    clear ho he cc ci
    go_wp2
    go_loopw [14, 4, 5, 6, 22] (fun i cnt _ _ _ wr => ∃ (y c : Nat) (q : List (List Int)), y ≤ n ∧ i = .int .i64 y ∧ cnt = .int .i64 c ∧ Hid (Count k m y 0 q c) ∧ Hid (OwnGrid wr w.heap.size (.slice (some ⟨b, 0, none⟩) n cb) q) ∧ Hid (Img q n k) ∧ Hid (Ext w wr)) (fun i _ _ _ _ _ => n - (intOf i).toNat)
    case atStart => exact ⟨0, 0, m, Nat.zero_le _, rfl, rfl, Lib.hid Count.start, HO, HM, HE⟩
    case round =>
      rename World => wo
      obtain ⟨y, c, q, hy, rfl, rfl, hc, ho, hi, he⟩ := hrel
      by_cases hlt : y < n
      · obtain ⟨r, v0, hr, hrl, _⟩ := hi.out.cell (i := y) (j := 0) hlt (by omega)
        obtain ⟨R, cR, hq, _⟩ := ho.out.row hr (by omega)
        rw [hrl] at hq
        clear hr hrl
        go_wp2
        go_loopw [22, 4, 6] (fun i cnt _ wr => ∃ (x c : Nat) (q : List (List Int)), x ≤ k ∧ i = .int .i64 x ∧ cnt = .int .i64 c ∧ Hid (Count k m y x q c) ∧ Hid (OwnGrid wr w.heap.size (.slice (some ⟨b, 0, none⟩) n cb) q) ∧ Hid (Img q n k) ∧ Hid (Ext w wr)) (fun i _ _ _ => k - (intOf i).toNat)
        case atStart => exact ⟨0, c, q, Nat.zero_le _, rfl, rfl, hc, ho, hi, he⟩
        case round =>
          clear hq hc ho hi
          obtain ⟨x, c, q, hx', rfl, rfl, hc, ho, hi, he'⟩ := hrel
          by_cases hlx : x < k
          · obtain ⟨r, v, hr, hrl, hv, hv01⟩ := hi.out.cell (i := y) (j := x) hlt hlx
            obtain ⟨R, cR, hq, _, _, _, hints, _⟩ := ho.out.row hr (by omega)
            obtain ⟨v', hv', hq2⟩ := hints.at1 (k := x) (by omega)
            obtain rfl : v' = v := by have := hv'.out; rw [hv] at this; exact (Option.some.inj this).symm
            rw [Nat.zero_add] at hq2
            rw [hrl] at hq
            have HCV := Lib.hid (cellI_of hr hv)
            have hcle := count_le hc.out hx'
            have hyk : y * k ≤ 25 := Nat.mul_le_mul (show y ≤ 5 by omega) hk5
            clear hr hrl hv hv' hints
            rcases hv01 with rfl | rfl
            · have HN := Lib.hid (Count.white y x q c hc.out hlx (by rw [HCV.out]; decide))
              go_wp2
              go_roundw
              case rel => exact ⟨x + 1, c, q, by omega, by go_num, rfl, HN, ho, hi, he'⟩
              case measure => simp [intOf]; omega
            · have cp := l10Paint_any w.heap.size b n k cb (ones q + 1) q y x wr (by omega) hi.out (by omega) (by omega) ho.out
              have hc25 : c ≤ 1000 := by omega
              have HC1 := Lib.hid hcle
              clear hcle hyk
              go_wp2_with fail
              refine cp.mono ?_
              rintro e w2 ⟨rfl, q2, W⟩
              have HW := Lib.hid W
              clear W cp
              have HN := Lib.hid (Count.black y x q q2 c hc.out hlx HCV.out HW.out.paint)
              go_wp2
              go_roundw
              case rel => exact ⟨x + 1, c + 1, q2, by omega, by go_num, by go_num, HN, Lib.hid HW.out.own, Lib.hid HW.out.img, Lib.hid (Below.trans he'.out HW.out.below)⟩
              case measure => simp [intOf]; omega
          · obtain rfl : x = k := by omega
            go_wp2
            go_roundw
            case rel => exact ⟨y + 1, c, q, by omega, by go_num, rfl, Lib.hid (Count.row y q c hc.out), ho, hi, he'⟩
            case measure => simp [intOf]; omega
      · obtain rfl : y = n := by omega
        go_wp2
        go_ret
        exact ⟨ret_int (HP.out q c hc.out).symm, he.out⟩

set_option maxHeartbeats 4000000 in
theorem implCountPieces_any (A : Option Addr) (cap : Nat) (m : List (List Int)) (w : World) (hl : m.length ≤ 1048576) (hr : ∀ r ∈ m, r.length ≤ 1048576) (hx : GridAt w A m) :
    Calls Try.prog 14 #[.slice A m.length cap] w fun e w' => e = .returned (.int .i64 (pieces m)) ∧ Ext w w' := by
  have ci := implImageOk_any A cap m w hl hr hx
  cases h : gridOk m 0 1
  · rw [h] at ci
    have HP : Hid (pieces m = -1) := Lib.hid (by unfold pieces; rw [if_neg (by rw [h]; simp)])
    go_enter Try.func14, Try.ntmps14
    go_wp2_with (go_at_call 36; refine ci.mono ?_; rintro e w' ⟨rfl, rfl⟩)
    go_ret
    exact ⟨ret_int HP.out.symm, Ext.refl _⟩
  · rw [h] at ci
    have himg := Img.of h
    obtain ⟨n, hn⟩ : ∃ n, m.length = n := ⟨_, rfl⟩
    obtain ⟨k, hk⟩ : ∃ k, (m.headD []).length = k := ⟨_, rfl⟩
    have HP := Lib.hid (fun (q : List (List Int)) (c : Nat) => pieces_of (q := q) (c := c) h)
    rw [hn, hk] at himg HP
    obtain ⟨hn1, hn5⟩ := himg.2.1
    obtain ⟨hk1, hk5⟩ := himg.2.2.1
    have cc := copyGrid_any A cap m w (by omega) (by omega) (fun r hr => by rw [himg.1.2 r hr]; omega) hx
    rw [hn] at ci cc ⊢
    have HM := Lib.hid himg
    clear himg hx hr hn hk h
    go_enter Try.func14, Try.ntmps14
    go_wp2_with (go_at_call 36; refine ci.mono ?_; rintro e w' ⟨rfl, rfl⟩)
    refine cc.mono ?_
    rintro e w1 ⟨b, cb, rfl, ho, he⟩
    have HO := Lib.hid ho
    have HE := Lib.hid he
    clear ho he cc ci
    have hst : ∀ (W : World) (a : Addr) (mo : Mode) (fn : Fn) (x y : Array Value), (store a (.func fn x y) mo).run Try.prog W = stored Try.prog W a (.func fn x y) mo := fun W a mo fn x y => run_store Try.prog W a _ mo rfl
    go_wp2
    generalize hPe : w1.heap.size = P
    have HPE := Lib.hid hPe
    obtain ⟨F, hF⟩ : ∃ F : Value, F = .func (.func 41) #[] #[.pointer (some ⟨P, 0, none⟩), .pointer (some ⟨P + 1, 0, none⟩)] := ⟨_, rfl⟩
    have hP0 : ∀ F, ((w1.alloc (.cells #[.slice (some ⟨b, 0, none⟩) n cb] 23)).alloc (.cells #[F] 50)).heap[P]? = some (.cells #[.slice (some ⟨b, 0, none⟩) n cb] 23 (0, 0)) := fun F => by
      rw [← hPe, Below.heap_alloc _ _ _ (by simp)]; exact Go.Deep.blk_alloc_new _ _
    have hQ0 : ∀ F, ((w1.alloc (.cells #[.slice (some ⟨b, 0, none⟩) n cb] 23)).alloc (.cells #[F] 50)).heap[P + 1]? = some (.cells #[F] 50 (0, 0)) := fun F => by
      have h := Go.Deep.blk_alloc_new (w1.alloc (.cells #[.slice (some ⟨b, 0, none⟩) n cb] 23)) (.cells #[F] 50)
      rw [← hPe]
      simpa using h
    have HP0 := Lib.hid hP0
    have HQ0 := Lib.hid hQ0
    have HO2 : Hid (∀ F, OwnGrid ((w1.alloc (.cells #[.slice (some ⟨b, 0, none⟩) n cb] 23)).alloc (.cells #[F] 50)) w.heap.size (.slice (some ⟨b, 0, none⟩) n cb) m) := Lib.hid fun F => HO.out.ext (((Ext.refl w1).alloc _).alloc _)
    have HE2 : Hid (∀ F, Ext w ((w1.alloc (.cells #[.slice (some ⟨b, 0, none⟩) n cb] 23)).alloc (.cells #[F] 50))) := Lib.hid fun F => (HE.out.alloc _).alloc _
    clear hst hF hP0 hQ0 hPe
    go_loopw [18, 5, 6, 7, 8, 9, 25] (fun i cnt _ _ _ _ _ wr => ∃ (y c : Nat) (q : List (List Int)), y ≤ n ∧ i = .int .i64 y ∧ cnt = .int .i64 c ∧ Hid (Count k m y 0 q c) ∧ Hid (OwnGrid wr w.heap.size (.slice (some ⟨b, 0, none⟩) n cb) q) ∧ Hid (Img q n k) ∧ Hid (Ext w wr) ∧ Hid (wr.heap[P]? = some (.cells #[.slice (some ⟨b, 0, none⟩) n cb] 23 (0, 0))) ∧ Hid (wr.heap[P + 1]? = some (.cells #[.func (.func 41) #[] #[.pointer (some ⟨P, 0, none⟩), .pointer (some ⟨P + 1, 0, none⟩)]] 50 (0, 0)))) (fun i _ _ _ _ _ _ _ => n - (intOf i).toNat)
    case atStart => exact ⟨0, 0, m, Nat.zero_le _, rfl, rfl, Lib.hid Count.start, Lib.hid (HO2.out _), HM, Lib.hid (HE2.out _), Lib.hid (HP0.out _), Lib.hid (HQ0.out _)⟩
    case round =>
      rename World => wo
      obtain ⟨y, c, q, hy, rfl, rfl, hc, ho, hi, he, hp, hq0⟩ := hrel
      by_cases hlt : y < n
      · obtain ⟨r, v0, hr, hrl, _⟩ := hi.out.cell (i := y) (j := 0) hlt (by omega)
        obtain ⟨R, cR, hq, _⟩ := ho.out.row hr (by omega)
        rw [hrl] at hq
        clear hr hrl
        go_wp2
        go_loopw [25, 5, 8, 9] (fun i cnt _ _ wr => ∃ (x c : Nat) (q : List (List Int)), x ≤ k ∧ i = .int .i64 x ∧ cnt = .int .i64 c ∧ Hid (Count k m y x q c) ∧ Hid (OwnGrid wr w.heap.size (.slice (some ⟨b, 0, none⟩) n cb) q) ∧ Hid (Img q n k) ∧ Hid (Ext w wr) ∧ Hid (wr.heap[P]? = some (.cells #[.slice (some ⟨b, 0, none⟩) n cb] 23 (0, 0))) ∧ Hid (wr.heap[P + 1]? = some (.cells #[.func (.func 41) #[] #[.pointer (some ⟨P, 0, none⟩), .pointer (some ⟨P + 1, 0, none⟩)]] 50 (0, 0))) ∧ Hid (wr.cell? ⟨b, y, none⟩ = some (.slice (some ⟨R, 0, none⟩) k cR))) (fun i _ _ _ _ => k - (intOf i).toNat)
        case atStart => exact ⟨0, c, q, Nat.zero_le _, rfl, rfl, hc, ho, hi, he, hp, hq0, Lib.hid hq⟩
        case round =>
          clear hq hc ho hi hp hq0
          obtain ⟨x, c, q, hx', rfl, rfl, hc, ho, hi, he', hp, hq0, hrow⟩ := hrel
          by_cases hlx : x < k
          · obtain ⟨r, v, hr, hrl, hv, hv01⟩ := hi.out.cell (i := y) (j := x) hlt hlx
            have hown := ho.out.rowOwn hr hrow.out
            obtain ⟨v', hv', hq2⟩ := hown.ints.2.at1 (k := x) (by omega)
            obtain rfl : v' = v := by have := hv'.out; rw [hv] at this; exact (Option.some.inj this).symm
            rw [Nat.zero_add] at hq2
            have HCV := Lib.hid (cellI_of hr hv)
            have hcle := count_le hc.out hx'
            have hyk : y * k ≤ 25 := Nat.mul_le_mul (show y ≤ 5 by omega) hk5
            clear hr hrl hv hv' hown
            rcases hv01 with rfl | rfl
            · have HN := Lib.hid (Count.white y x q c hc.out hlx (by rw [HCV.out]; decide))
              go_wp2
              go_roundw
              case rel => exact ⟨x + 1, c, q, by omega, by go_num, rfl, HN, ho, hi, he', hp, hq0, hrow⟩
              case measure => simp [intOf]; omega
            · have cp := wipe_any w.heap.size b n k cb P (P + 1) (ones q + 1) q y x wr (by omega) hi.out (by omega) (by omega) ho.out hp.out hq0.out
              have hc25 : c ≤ 1000 := by omega
              have HC1 := Lib.hid hcle
              have cQ := cell_of_one hq0.out
              clear hcle hyk
              go_wp2_with fail
              refine cp.mono ?_
              rintro e w2 ⟨rfl, q2, W⟩
              have HW := Lib.hid W
              clear W cp cQ
              have HN := Lib.hid (Count.black y x q q2 c hc.out hlx HCV.out HW.out.paint)
              have HP2 := Lib.hid (HW.out.rest P _ hp.out (by intro cs fz h; simp at h))
              have HQ2 := Lib.hid (HW.out.rest (P + 1) _ hq0.out (by intro cs fz h; simp at h))
              have HR2 : Hid (w2.cell? ⟨b, y, none⟩ = some (.slice (some ⟨R, 0, none⟩) k cR)) := Lib.hid (OwnGrid.outer ho.out HW.out.rest hrow.out)
              go_wp2
              go_roundw
              case rel => exact ⟨x + 1, c + 1, q2, by omega, by go_num, by go_num, HN, Lib.hid HW.out.own, Lib.hid HW.out.img, Lib.hid (Below.trans he'.out HW.out.below), HP2, HQ2, HR2⟩
              case measure => simp [intOf]; omega
          · obtain rfl : x = k := by omega
            go_wp2
            go_roundw
            case rel => exact ⟨y + 1, c, q, by omega, by go_num, rfl, Lib.hid (Count.row y q c hc.out), ho, hi, he', hp, hq0⟩
            case measure => simp [intOf]; omega
      · obtain rfl : y = n := by omega
        go_wp2
        go_ret
        exact ⟨ret_int (HP.out q c hc.out).symm, he.out⟩

theorem specIsPolyomino_any (A : Option Addr) (cap : Nat) (m : List (List Int)) (w : World) (hl : m.length ≤ 1048576) (hr : ∀ r ∈ m, r.length ≤ 1048576) (hx : GridAt w A m) :
    Calls Try.prog 34 #[.slice A m.length cap] w fun e w' => e = .returned (.bool (pieces m == 1)) ∧ Ext w w' := by
  have c1 := specCountPieces_any A cap m w hl hr hx
  obtain ⟨p, hp⟩ : ∃ p, pieces m = p := ⟨_, rfl⟩
  rw [hp] at c1 ⊢
  clear hp
  cases b1 : (p == 1)
  all_goals
    go_enter Try.func34, Try.ntmps34
    go_wp2_with fail
    refine c1.mono ?_
    rintro e w' ⟨rfl, he⟩
    go_wp2
    go_ret
    exact ⟨rfl, he⟩

theorem implIsPolyomino_any (A : Option Addr) (cap : Nat) (m : List (List Int)) (w : World) (hl : m.length ≤ 1048576) (hr : ∀ r ∈ m, r.length ≤ 1048576) (hx : GridAt w A m) :
    Calls Try.prog 11 #[.slice A m.length cap] w fun e w' => e = .returned (.bool (pieces m == 1)) ∧ Ext w w' := by
  have c1 := implCountPieces_any A cap m w hl hr hx
  obtain ⟨p, hp⟩ : ∃ p, pieces m = p := ⟨_, rfl⟩
  rw [hp] at c1 ⊢
  clear hp
  cases b1 : (p == 1)
  all_goals
    go_enter Try.func11, Try.ntmps11
    go_wp2_with fail
    refine c1.mono ?_
    rintro e w' ⟨rfl, he⟩
    go_wp2
    go_ret
    exact ⟨rfl, he⟩
end Go.Proofs.Ytlhjbpachpjpkaa
