/- All images: the program's AllImages. -/
import Derived.Test.YtlhjbpachpjpkaaPuA
namespace Go.Proofs.Ytlhjbpachpjpkaa
open Go.RowKit Tomo

theorem putAll_imgs {r : Int} {rs cols : List Int} (h : sumsOk (r :: rs) cols = true) : putRow (contK rs []) rs.length [] cols r [] = imgs (r :: rs) cols := by
  obtain ⟨hr1, hr5, hc1, hc5, hra, hca, _⟩ := sumsOk_parts h
  have hR : ∀ q ∈ r :: rs, 0 ≤ q ∧ q ≤ (cols.length : Int) := fun q hq => inR_iff.1 ((List.all_eq_true.1 hra) q hq)
  have hC : ∀ q ∈ cols, 0 ≤ q ∧ q ≤ ((r :: rs).length : Int) := fun q hq => inR_iff.1 ((List.all_eq_true.1 hca) q hq)
  rw [← putAll_contK, putAll_eq rs cols r [] (hR r List.mem_cons_self).1 (hR r List.mem_cons_self).2 (fun q hq => hR q (List.mem_cons_of_mem _ hq)) (fun q hq => by have := hC q hq; simpa using this)]
  simp

theorem heap_new (w : World) (o : Obj) : (w.alloc o).heap[w.heap.size]? = some o := Go.Deep.blk_alloc_new _ _
theorem OwnGrids.base {w : World} {B B' : Nat} {v : Value} {gs : List (List (List Int))} (h : OwnGrids w B v gs) (k : B' ≤ B) : OwnGrids w B' v gs := by
  obtain ⟨us, h1, h2, h3, h4⟩ := h
  exact ⟨us, h1, ownsRow_base h2 k, fun i u r hu hr => (h3 i u r hu hr).base k, h4⟩
theorem box_cols {w w2 : World} {A B : Option Addr} {ca cb n k : Nat}
    (he : Ext (((w.alloc (.cells #[.slice A n ca] 28)).alloc (.cells #[.slice B k cb] 28)).alloc (.cells #[.slice none 0 0] 25)) w2) : w2.cell? ⟨w.heap.size + 1, 0, none⟩ = some (.slice B k cb) := by
  have h : w2.heap[w.heap.size + 1]? = some (.cells #[.slice B k cb] 28 (0, 0)) := by
    rw [he.block _ (by simp), Below.heap_alloc _ _ _ (by simp)]
    have := heap_new (w.alloc (.cells #[.slice A n ca] 28)) (.cells #[.slice B k cb] 28)
    simpa using this
  exact cell_of_one h
theorem start_put {rows cols : List Int} {A B : Option Addr} {ca cb : Nat} {w w2 w3 : World} {mb mc L lc n k : Nat} (hx : Ints w A rows)
    (he : Ext (((w.alloc (.cells #[.slice A n ca] 28)).alloc (.cells #[.slice B k cb] 28)).alloc (.cells #[.slice none 0 0] 25)) w2)
    (ho : OwnGrid w2 (w.heap.size + 3) (.slice (some ⟨mb, 0, none⟩) n mc) (List.replicate n (List.replicate k 0)))
    (he3 : Ext (w2.alloc (.cells #[.slice (some ⟨mb, 0, none⟩) n mc] 23)) w3) (hL : Own w3 (w2.heap.size + 1) (.slice (some ⟨L, 0, none⟩) k lc) cols) {W : World}
    (e : Ext ((w3.alloc (.cells #[.slice (some ⟨L, 0, none⟩) k lc] 28)).alloc (.cells #[.func (.func 71) #[] #[.pointer (some ⟨w.heap.size + 1, 0, none⟩), .pointer (some ⟨w.heap.size, 0, none⟩), .pointer (some ⟨w.heap.size + 1 + 1, 0, none⟩), .pointer (some ⟨w2.heap.size, 0, none⟩), .pointer (some ⟨w3.heap.size, 0, none⟩), .pointer (some ⟨w3.heap.size + 1, 0, none⟩)]] 71)) W) :
    PutSt ⟨w.heap.size + 1, w.heap.size, w.heap.size + 1 + 1, w2.heap.size, w3.heap.size, w3.heap.size + 1, mb, mc, L, lc, cb, ca, w.heap.size, w.heap.size + 3, w3.heap.size + 2, n, k, B, A⟩ rows W [] (List.replicate n (List.replicate k 0)) cols := by
  have s1 : w.heap.size + 3 ≤ w2.heap.size := by have := he.size; simp at this; omega
  have s2 : w2.heap.size + 1 ≤ w3.heap.size := by have := he3.size; simp at this; omega
  have s3 : w3.heap.size + 2 ≤ W.heap.size := by have := e.size; simp at this; omega
  have k3 : ∀ i, i < w3.heap.size → W.heap[i]? = w3.heap[i]? := fun i hi => by
    rw [e.block i (by simp; omega), Below.heap_alloc _ _ _ (by simp; omega), Below.heap_alloc _ _ _ (by omega)]
  have k2 : ∀ i, i < w2.heap.size → W.heap[i]? = w2.heap[i]? := fun i hi => by
    rw [k3 i (by omega), he3.block i (by simp; omega), Below.heap_alloc _ _ _ (by omega)]
  have e3 : Ext w3 W := Ext.trans (((Ext.refl w3).alloc _).alloc _) e
  have e2 : Ext w2 W := Ext.trans (Ext.trans ((Ext.refl w2).alloc _) he3) e3
  have e1 : Ext w W := Ext.trans (Ext.trans ((((Ext.refl w).alloc _).alloc _).alloc _) he) e2
  refine ⟨?_, ?_, ?_, ?_, ?_, ⟨_, ?_, OwnGrids.nil _ _⟩, ho.ext e2, (hL.ext e3).base (by show w.heap.size + 3 ≤ _; omega), ?_, ?_, ?_, ?_⟩
  · show W.heap[w.heap.size + 1]? = _
    rw [k2 _ (by omega), he.block _ (by simp), Below.heap_alloc _ _ _ (by simp)]
    have := heap_new (w.alloc (.cells #[.slice A n ca] 28)) (.cells #[.slice B k cb] 28)
    simpa using this
  · show W.heap[w.heap.size]? = _
    rw [k2 _ (by omega), he.block _ (by simp; omega), Below.heap_alloc _ _ _ (by simp; omega), Below.heap_alloc _ _ _ (by simp)]
    exact heap_new _ _
  · show W.heap[w2.heap.size]? = _
    rw [k3 _ (by omega), he3.block _ (by simp)]
    exact heap_new _ _
  · show W.heap[w3.heap.size]? = _
    rw [e.block _ (by simp; omega), Below.heap_alloc _ _ _ (by simp)]
    exact heap_new _ _
  · show W.heap[w3.heap.size + 1]? = _
    rw [e.block _ (by simp)]
    have := heap_new (w3.alloc (.cells #[.slice (some ⟨L, 0, none⟩) k lc] 28)) (.cells #[.func (.func 71) #[] #[.pointer (some ⟨w.heap.size + 1, 0, none⟩), .pointer (some ⟨w.heap.size, 0, none⟩), .pointer (some ⟨w.heap.size + 1 + 1, 0, none⟩), .pointer (some ⟨w2.heap.size, 0, none⟩), .pointer (some ⟨w3.heap.size, 0, none⟩), .pointer (some ⟨w3.heap.size + 1, 0, none⟩)]] 71)
    simpa [Cx.ptrs] using this
  · show W.heap[w.heap.size + 1 + 1]? = _
    rw [k2 _ (by omega), he.block _ (by simp)]
    have := heap_new ((w.alloc (.cells #[.slice A n ca] 28)).alloc (.cells #[.slice B k cb] 28)) (.cells #[.slice none 0 0] 25)
    simpa using this
  · intro p hp
    obtain ⟨cs, hcs⟩ := ho.block
    have hp2 : RowVal w2 _ p := RowVal.back ((k2 mb (heap_lt hcs))) hp
    have hLB := (hL.lt (b := L) rfl).1
    refine ⟨fun e => ?_, fun b hb => ?_⟩
    · have := (ho.rowVal_lt hp2 e).2
      change L < _ at this
      omega
    · have := (ho.rowVal_lt hp2 hb).2
      show b < w3.heap.size + 2
      omega
  · intro i r hi
    obtain ⟨b, o, hA, hlt, hc⟩ := hx i r hi
    exact ⟨b, o, hA, hlt, (e1.cell (p := ⟨b, o + i, none⟩) hlt).trans hc⟩
  · obtain ⟨cs, hcs⟩ := ho.block
    obtain ⟨cl, hcl⟩ := hL.block
    have h1 := heap_lt hcs
    have h2 := heap_lt hcl
    refine ⟨?_, ?_, ?_, ?_, ?_, ?_, ?_, ?_⟩ <;> dsimp only <;> omega
  · refine ⟨?_, ?_, ?_, ?_⟩ <;> dsimp only <;> omega

set_option maxHeartbeats 4000000 in
theorem implAllImages_any (A B : Option Addr) (ca cb : Nat) (rows cols : List Int) (w : World) (hl : rows.length ≤ 1048576) (hl2 : cols.length ≤ 1048576) (hx : Ints w A rows) (hy : Ints w B cols) :
    Calls Try.prog 35 #[.slice A rows.length ca, .slice B cols.length cb] w fun e w' => ∃ v, e = .returned (.tuple #[v, .bool (sumsOk rows cols)]) ∧ OwnGrids w' w.heap.size v (allI rows cols) ∧ Ext w w' := by
  have e2 : Ext w ((w.alloc (.cells #[.slice A rows.length ca] 28)).alloc (.cells #[.slice B cols.length cb] 28)) := ((Ext.refl w).alloc _).alloc _
  have cs := implSumsOk_any A B ca cb rows cols _ hl hl2 (hx.ext e2) (hy.ext e2)
  cases h : sumsOk rows cols
  · have HA : Hid (allI rows cols = []) := Lib.hid (by simp [allI, h])
    rw [h] at cs
    have HE2 := Lib.hid e2
    clear e2
    go_enter Try.func35, Try.ntmps35
    go_wp2_with (go_at_call 70; refine cs.mono ?_; rintro e w' ⟨rfl, rfl⟩)
    go_ret2
    exact ⟨_, rfl, by rw [HA.out]; exact OwnGrids.nil _ _, HE2.out⟩
  · have HA : Hid (allI rows cols = imgs rows cols) := Lib.hid (by simp [allI, h])
    obtain ⟨hr1, hr5, hc1, hc5, hra, hca2, _⟩ := sumsOk_parts h
    have HRA : Hid (∀ r ∈ rows, 0 ≤ r ∧ r ≤ 5) := Lib.hid (fun r hr => by have := inR_iff.1 ((List.all_eq_true.1 hra) r hr); omega)
    have HCA : Hid (∀ r ∈ cols, 0 ≤ r ∧ r ≤ 5) := Lib.hid (fun r hr => by have := inR_iff.1 ((List.all_eq_true.1 hca2) r hr); omega)
    cases rows with
    | nil => simp at hr1
    | cons r rs =>
    have HPI := Lib.hid (putAll_imgs h)
    have HNR : Hid ((r :: rs).length = rs.length + 1) := Lib.hid rfl
    obtain ⟨n, hn⟩ : ∃ n, (r :: rs).length = n := ⟨_, rfl⟩
    obtain ⟨k, hk⟩ : ∃ k, cols.length = k := ⟨_, rfl⟩
    have HN := Lib.hid hn
    have HK := Lib.hid hk
    have HX := Lib.hid hx
    have HY := Lib.hid hy
    rw [h] at cs
    obtain ⟨bA, oA, r', rfl, hbA, hr', crow⟩ := hx.at_ (k := 0) (by simp)
    obtain rfl : r' = r := by have := hr'.out; simpa using this.symm
    rw [hn, hk] at cs
    rw [hn] at hr1 hr5 hl
    rw [hk] at hc1 hc5 hl2
    rw [hn, hk]
    have HE2 := Lib.hid e2
    clear e2 hx hy hra hca2 h hn hk hr'
    have hst : ∀ (W : World) (a : Addr) (mo : Mode) (fn : Fn) (x y : Array Value), (store a (.func fn x y) mo).run Try.prog W = stored Try.prog W a (.func fn x y) mo := fun W a mo fn x y => run_store Try.prog W a _ mo rfl
    go_enter Try.func35, Try.ntmps35
    go_wp2_with (go_at_call 70; refine cs.mono ?_; rintro e w' ⟨rfl, rfl⟩)
    refine (newGrid_any n k _ (by omega) (by omega) (by omega) (by omega)).mono ?_
    rintro e w2 ⟨mb, mc, rfl, ho, he⟩
    have HO := Lib.hid ho
    have HE := Lib.hid he
    have hs2 := he.size
    simp only [World.size_alloc] at hs2
    have hb2 := box_cols he
    have hn1 : w.heap.size + 1 < w2.heap.size := by omega
    have hn2 : ¬ w.heap.size + 1 = w2.heap.size := by omega
    have ci := copyInts_any B cb cols (w2.alloc (.cells #[.slice (some ⟨mb, 0, none⟩) n mc] 23)) (by rw [HK.out]; omega) (by rw [HK.out]; omega) (HY.out.ext (((((Ext.refl w).alloc _).alloc _).alloc _).trans (he.alloc _)))
    rw [HK.out] at ci
    clear ho he
    go_wp2_with fail
    refine ci.mono ?_
    rintro e w3 ⟨L, lc, rfl, hown, he3⟩
    have hs3 := he3.size
    simp only [World.size_alloc] at hs3
    have HST : Hid (∀ W, Ext ((w3.alloc (.cells #[.slice (some ⟨L, 0, none⟩) k lc] 28)).alloc (.cells #[.func (.func 71) #[] #[.pointer (some ⟨w.heap.size + 1, 0, none⟩), .pointer (some ⟨w.heap.size, 0, none⟩), .pointer (some ⟨w.heap.size + 1 + 1, 0, none⟩), .pointer (some ⟨w2.heap.size, 0, none⟩), .pointer (some ⟨w3.heap.size, 0, none⟩), .pointer (some ⟨w3.heap.size + 1, 0, none⟩)]] 71)) W → PutSt ⟨w.heap.size + 1, w.heap.size, w.heap.size + 1 + 1, w2.heap.size, w3.heap.size, w3.heap.size + 1, mb, mc, L, lc, cb, ca, w.heap.size, w.heap.size + 3, w3.heap.size + 2, n, k, B, some ⟨bA, oA, none⟩⟩ (r' :: rs) W [] (List.replicate n (List.replicate k 0)) cols) :=
      Lib.hid (fun W e => start_put HX.out HE.out (HO.out.base (by simp)) he3 (hown.base (by simp)) e)
    have HEF : Hid (Ext w ((w3.alloc (.cells #[.slice (some ⟨L, 0, none⟩) k lc] 28)).alloc (.cells #[.func (.func 71) #[] #[.pointer (some ⟨w.heap.size + 1, 0, none⟩), .pointer (some ⟨w.heap.size, 0, none⟩), .pointer (some ⟨w.heap.size + 1 + 1, 0, none⟩), .pointer (some ⟨w2.heap.size, 0, none⟩), .pointer (some ⟨w3.heap.size, 0, none⟩), .pointer (some ⟨w3.heap.size + 1, 0, none⟩)]] 71))) :=
      Lib.hid (Ext.trans ((((Ext.refl w).alloc _).alloc _).alloc _) (Ext.trans HE.out (Ext.trans ((Ext.refl w2).alloc _) (Ext.trans he3 (((Ext.refl w3).alloc _).alloc _)))))
    clear hown he3 ci hb2
    go_wp2
    have S0 := HST.out _ (Ext.refl _)
    generalize hWf : World.alloc (World.alloc w3 _) _ = Wf at S0 HST HEF ⊢
    have HPUT : Hid (∀ W, Ext Wf W → Calls Try.prog 71 #[.int .i64 0, .int .i64 0, .int .i64 r', .pointer (some ⟨w.heap.size + 1, 0, none⟩), .pointer (some ⟨w.heap.size, 0, none⟩), .pointer (some ⟨w.heap.size + 1 + 1, 0, none⟩), .pointer (some ⟨w2.heap.size, 0, none⟩), .pointer (some ⟨w3.heap.size, 0, none⟩), .pointer (some ⟨w3.heap.size + 1, 0, none⟩)] W
        fun e w' => e = .returned (.tuple #[]) ∧ ∃ v, w'.cell? ⟨w.heap.size + 1 + 1, 0, none⟩ = some v ∧ OwnGrids w' w.heap.size v (imgs (r' :: rs) cols) ∧ Ext w w') := Lib.hid (fun W e => by
      have S1 := HST.out W e
      have hN := HN.out
      have hR := HNR.out
      have h25 : 2 ^ (cols.length + rs.length * k) ≤ 2 ^ 25 := Nat.pow_le_pow_right (by omega) (by
        have h1 : rs.length * k ≤ 4 * 5 := Nat.mul_le_mul (by omega) hc5
        rw [HK.out]; omega)
      have e25 : (2 : Nat) ^ 25 = 33554432 := by decide
      have hp := put_any ⟨w.heap.size + 1, w.heap.size, w.heap.size + 1 + 1, w2.heap.size, w3.heap.size, w3.heap.size + 1, mb, mc, L, lc, cb, ca, w.heap.size, w.heap.size + 3, w3.heap.size + 2, n, k, B, some ⟨bA, oA, none⟩⟩ (r' :: rs) hr5 hc1 hc5 HRA.out rs cols [] [] [] r' 0 0 [] W rfl (by show 0 + 1 + rs.length = n; omega) rfl rfl rfl (by show 0 + cols.length = k; rw [HK.out]; omega)
        (HRA.out r' List.mem_cons_self).1 (HRA.out r' List.mem_cons_self).2 (fun l hl => HCA.out l (by simpa using hl)) (by show 0 + 2 ^ (cols.length + rs.length * k) ≤ _; omega) (fun q hq => by cases hq) (by
          have em : mOf k [] [] cols.length rs.length = List.replicate n (List.replicate k 0) := by
            unfold mOf
            rw [HK.out, show n = rs.length + 1 by omega, List.replicate_succ]
            rfl
          show PutSt _ _ _ _ (mOf k [] [] cols.length rs.length) _
          rw [em]; exact S1)
      refine hp.mono fun e' w' ⟨h1, h2, h3⟩ => ⟨h1, ?_⟩
      obtain ⟨v, hv, hg⟩ := h2.ho
      rw [List.nil_append, HPI.out] at hg
      exact ⟨v, cell_of_one hv, hg.base (by show w.heap.size ≤ w3.heap.size + 2; omega), Below.trans (Ext.trans HEF.out e) h3⟩)
    have cF : Wf.cell? ⟨w3.heap.size + 1, 0, none⟩ = some (.func (.func 71) #[] #[.pointer (some ⟨w.heap.size + 1, 0, none⟩), .pointer (some ⟨w.heap.size, 0, none⟩), .pointer (some ⟨w.heap.size + 1 + 1, 0, none⟩), .pointer (some ⟨w2.heap.size, 0, none⟩), .pointer (some ⟨w3.heap.size, 0, none⟩), .pointer (some ⟨w3.heap.size + 1, 0, none⟩)]) := cell_of_one S0.hf
    have cR : Wf.cell? ⟨w.heap.size, 0, none⟩ = some (.slice (some ⟨bA, oA, none⟩) n ca) := cell_of_one S0.hr
    have cq : Wf.cell? ⟨bA, oA, none⟩ = some (.int .i64 r') := by
      obtain ⟨b, o, hA, _, hc⟩ := S0.row 0 r' rfl
      injection hA with hA
      injection hA with h1 h2
      subst h1 h2
      exact hc
    clear S0 hWf HST hs2 hs3 hn1 hn2 HO HE hst crow
    first | go_region_with (go_at_call 71; refine (HPUT.out _ (Ext.refl Wf).drew).mono ?_; rintro e w4 ⟨rfl, v, hv, hg, he⟩; have QQ := Lib.hid (And.intro hg he); clear hg he) | fail
    all_goals
      go_wp2
      go_ret2
      exact ⟨_, rfl, by rw [HA.out]; exact QQ.out.1, QQ.out.2⟩
end Go.Proofs.Ytlhjbpachpjpkaa
