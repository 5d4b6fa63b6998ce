/- IsFixed, in the reference and in the program. -/
import Derived.Test.YtgbehjjefiepdaaReach2
import Derived.Test.YtgbehjjefiepdaaPaint3
namespace Go.Proofs.Ytgbehjjefiepdaa
open Go.RowKit Tomo

theorem reach_fixB {m : Grid} (h : gridOk m 0 1 = true) {n k : Nat} (hn : m.length = n) (hk : (m.headD []).length = k) {a b s t : Nat} (ha : a < n) (hb : b < k) (hs : s = if cellB m a b = true then n + b else a) (ht : t = if cellB m a b = true then a else n + b)
    {bs : List Bool} {Q : List Nat} (hF : Found n k (cellB m) s bs Q) (hL : Looked n k (cellB m) Q Q.length) {y : Bool} (hy : bs[t]? = some y) : fixB (allI (rsI m) (csI m)) a b = !y := by
  have hT : ∀ v, v < n + k → (bs[v]?.getD false = true ↔ bs[v]? = some true) := fun v hv => by
    cases e : bs[v]? with
    | none => simp
    | some z => simp
  have hs5 : s < n + k := by rw [hs]; split <;> omega
  have key := reach_fix h hn hk (fun v => bs[v]?.getD false) a b ha hb (by
      rw [← hs]
      exact (hT s hs5).2 ((hF.mem s hs5).2 hF.start)) (fun v hv h1 => by
      rw [← hs]
      exact hF.rch v ((hF.mem v hv).1 ((hT v hv).1 h1))) (fun v w hv hw h1 he => (hT w hw).2 (hF.closed hL v w hv hw ((hT v hv).1 h1) he))
  rw [← ht, ← fixB_iff h hn hk ha hb] at key
  simp only [hy, Option.getD_some] at key
  cases y
  · exact key.1 rfl
  · cases e : fixB (allI (rsI m) (csI m)) a b
    · rfl
    · have := key.2 e; cases this

/-- the cell lies in the image, and the image is one -/
def cellIn (m : Grid) (y x : Int) : Bool := gridOk m 0 1 && (inR y 0 (m.length - 1) && inR x 0 ((m.headD []).length - 1))
noncomputable def isFixed (m : Grid) (y x : Int) : Bool := cellIn m y x && fixB (allI (rsI m) (csI m)) y.toNat x.toNat

theorem hasCell2_any (A : Option Addr) (ca : Nat) (m : Grid) (y x : Int) (w : World) (hl : m.length ≤ 1048576) (hr : ∀ r ∈ m, r.length ≤ 1048576) (hx : GridAt w A m) :
    Calls Try.prog 66 #[.slice A m.length ca, .int .i64 y, .int .i64 x] w fun e w' => e = .returned (.bool (cellIn m y x)) ∧ w = w' := by
  have ci := implImageOk_any A ca m w hl hr hx
  cases h : gridOk m 0 1
  · rw [h] at ci
    have HC : Hid (cellIn m y x = false) := Lib.hid (by unfold cellIn; rw [h]; rfl)
    clear hx hr
    go_enter Try.func66, Try.ntmps66
    go_wp2_with (go_at_call 70; refine ci.mono ?_; rintro e w' ⟨rfl, rfl⟩)
    go_ret
    exact ⟨ret_bool HC.out.symm, rfl⟩
  · refine (hasCell_any A ca m m.length (m.headD []).length y x w hl (Img.of h) hx).mono fun e w' hh => ⟨?_, hh.2⟩
    rw [hh.1]; unfold cellIn; rw [h, Bool.true_and]

set_option maxHeartbeats 2000000 in
theorem l02In_any (A : Option Addr) (ca : Nat) (m : Grid) (y x : Int) (w : World) (hl : m.length ≤ 1048576) (hr : ∀ r ∈ m, r.length ≤ 1048576) (hx : GridAt w A m) :
    Calls Try.prog 64 #[.slice A m.length ca, .int .i64 y, .int .i64 x] w fun e w' => e = .returned (.bool (cellIn m y x)) ∧ w = w' := by
  have ci := specImageOk_any A ca m w hl hr hx
  cases h : gridOk m 0 1
  · rw [h] at ci
    have HC : Hid (cellIn m y x = false) := Lib.hid (by unfold cellIn; rw [h]; rfl)
    clear hx hr
    go_enter Try.func64, Try.ntmps64
    go_wp2_with (go_at_call 69; refine ci.mono ?_; rintro e w' ⟨rfl, rfl⟩)
    go_ret
    exact ⟨ret_bool HC.out.symm, rfl⟩
  · have hi := Img.of h
    rw [h] at ci
    obtain ⟨hn1, hn5⟩ := hi.2.1
    obtain ⟨hk1, hk5⟩ := hi.2.2.1
    obtain ⟨n, hn⟩ : ∃ n, m.length = n := ⟨_, rfl⟩
    obtain ⟨k, hk⟩ : ∃ k, (m.headD []).length = k := ⟨_, rfl⟩
    have HC : Hid (cellIn m y x = (inR y 0 (n - 1) && inR x 0 (k - 1))) := Lib.hid (by unfold cellIn; rw [h, hn, hk, Bool.true_and])
    rw [hn, hk] at hi
    rw [hn] at ci hl hn1 hn5 ⊢
    rw [hk] at hk1 hk5
    obtain ⟨b, o, R0, c0, r0, rfl, _, HX, hq0, _⟩ := hx.at_ (k := 0) (by rw [hi.1.1]; omega)
    have hr0l : r0.length = k := hi.1.row HX.out
    rw [hr0l, Nat.add_zero] at hq0
    clear hr hr0l hi hx hn hk h
    cases b1 : inR y 0 (n - 1) <;> cases b2 : inR x 0 (k - 1)
    all_goals
      go_enter Try.func64, Try.ntmps64
      go_wp2_with (first | (go_at_call 69; refine ci.mono ?_; rintro e w' ⟨rfl, rfl⟩) | (go_at_call 59; refine (l01In_any _ _ _ _).mono ?_; rintro e w' ⟨rfl, rfl⟩))
      go_ret
      exact ⟨ret_bool (by rw [HC.out, b1, b2]; rfl), rfl⟩

set_option maxHeartbeats 4000000 in
theorem specIsFixed_any (A : Option Addr) (ca : Nat) (m : Grid) (y x : Int) (w : World) (hl : m.length ≤ 1048576) (hr : ∀ r ∈ m, r.length ≤ 1048576) (hx : GridAt w A m) :
    Calls Try.prog 33 #[.slice A m.length ca, .int .i64 y, .int .i64 x] w fun e w' => e = .returned (.bool (isFixed m y x)) ∧ Ext w w' := by
  have ci := l02In_any A ca m y x w hl hr hx
  cases h0 : cellIn m y x
  · rw [h0] at ci
    have HC : Hid (isFixed m y x = false) := Lib.hid (by unfold isFixed; rw [h0]; rfl)
    clear hx hr
    go_enter Try.func33, Try.ntmps33
    go_wp2_with (go_at_call 64; refine ci.mono ?_; rintro e w' ⟨rfl, rfl⟩)
    go_ret
    exact ⟨ret_bool HC.out.symm, Ext.refl w⟩
  rw [h0] at ci
  have h0' := h0
  unfold cellIn at h0'
  rw [Bool.and_eq_true, Bool.and_eq_true, inR_iff, inR_iff] at h0'
  obtain ⟨h, ⟨y1, y2⟩, x1, x2⟩ := h0'
  obtain ⟨Y, rfl⟩ : ∃ Y : Nat, y = Y := ⟨y.toNat, by omega⟩
  obtain ⟨X, rfl⟩ : ∃ X : Nat, x = X := ⟨x.toNat, by omega⟩
  have hi := Img.of h
  obtain ⟨n, hn⟩ : ∃ n, m.length = n := ⟨_, rfl⟩
  obtain ⟨k, hk⟩ : ∃ k, (m.headD []).length = k := ⟨_, rfl⟩
  rw [hn, hk] at hi
  obtain ⟨hn1, hn5⟩ := hi.2.1
  obtain ⟨hk1, hk5⟩ := hi.2.2.1
  have hYn : Y < n := by omega
  have hXk : X < k := by omega
  obtain ⟨bm, om, _, _, _, hA, _⟩ := hx.at_ (k := 0) (by rw [hn]; omega)
  subst hA
  obtain ⟨R, ro, rc, c, hc1, hc2, hc3, hc4⟩ := hi.mem hx hYn hXk
  have hFX : ∀ s t : Nat, (s = if c = 1 then n + X else Y) → (t = if c = 1 then Y else n + X) → ∀ bs Q, Found n k (cellB m) s bs Q → Looked n k (cellB m) Q Q.length → ∀ z, bs[t]? = some z → isFixed m Y X = !z := fun s t hs ht bs Q hF hL z hz => by
    unfold isFixed
    rw [h0, Bool.true_and, Int.toNat_natCast, Int.toNat_natCast]
    have hcc : (cellB m Y X = true) = (c = 1) := by rw [cellB_at2, hc3, beq_iff_eq]
    exact reach_fixB h hn hk hYn hXk (by rw [hs]; simp only [hcc]) (by rw [ht]; simp only [hcc]) hF hL hz
  have HR : Hid (∀ s : Nat, s < n + k → Calls Try.prog 65 #[.slice (some ⟨bm, om, none⟩) n ca, .int .i64 s] w fun e w' => ∃ b bs, e = .returned (.slice (some ⟨b, 0, none⟩) (n + k : Nat) (n + k : Nat)) ∧ OwnB w' w.heap.size (.slice (some ⟨b, 0, none⟩) (n + k) (n + k)) bs ∧ (∃ Q, Found n k (cellB m) s bs Q ∧ Looked n k (cellB m) Q Q.length) ∧ Ext w w') :=
    Lib.hid fun s hs => l07Reach_any (some ⟨bm, om, none⟩) ca m n k s w hi hs hx
  rw [hn] at ci ⊢
  obtain ⟨res, hres⟩ : ∃ res, isFixed m Y X = res := ⟨_, rfl⟩
  rw [hres] at hFX ⊢
  have HFX := Lib.hid hFX
  obtain ⟨T, hT⟩ : ∃ T, n + k = T := ⟨_, rfl⟩
  rw [hT] at HR
  have hT10 : T ≤ 10 := by omega
  have hYT : Y < T := by omega
  have hXT : n + X < T := by omega
  clear hx hr hl hi hFX hn hk h0 h hres y1 y2 x1 x2 hc3
  rcases hc4 with rfl | rfl
  · have cc := HR.out Y hYT
    clear HR
    go_enter Try.func33, Try.ntmps33
    go_wp2_with (go_at_call 64; refine ci.mono ?_; rintro e w' ⟨rfl, rfl⟩)
    refine cc.mono ?_
    rintro e w1 ⟨b, bs, rfl, hB, ⟨Q, hF, hL⟩, he⟩
    obtain ⟨⟨z, hz, hzc⟩, _, _⟩ := hB.put hXT (by rw [hF.len, hT])
    have HRES := Lib.hid (HFX.out Y (n + X) (by rw [if_neg (by decide)]) (by rw [if_neg (by decide)]) bs Q hF hL z hz)
    have HE := Lib.hid he
    clear hB hF hL he hz cc hT
    go_wp2_with fail
    go_ret
    exact ⟨ret_bool HRES.out.symm, HE.out⟩
  · have cc := HR.out (n + X) hXT
    rw [Int.natCast_add] at cc
    clear HR
    go_enter Try.func33, Try.ntmps33
    go_wp2_with (go_at_call 64; refine ci.mono ?_; rintro e w' ⟨rfl, rfl⟩)
    refine cc.mono ?_
    rintro e w1 ⟨b, bs, rfl, hB, ⟨Q, hF, hL⟩, he⟩
    obtain ⟨⟨z, hz, hzc⟩, _, _⟩ := hB.put hYT (by rw [hF.len, hT])
    have HRES := Lib.hid (HFX.out (n + X) Y (by simp) (by simp) bs Q hF hL z hz)
    have HE := Lib.hid he
    clear hB hF hL he hz cc hT
    go_wp2_with fail
    go_ret
    exact ⟨ret_bool HRES.out.symm, HE.out⟩
end Go.Proofs.Ytgbehjjefiepdaa
