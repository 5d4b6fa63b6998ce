/- Texts merged: Path1 Path2. -/
import Derived.Test.YtlhjbpachpjpkaaQueue
import Derived.Test.YtlhjbpachpjpkaaSameSums
import Derived.Carry
import Derived.Deep.RegionWith
import Derived.Deep.DeepCutAuto
import Derived.StillTailTactics
namespace Go.Proofs.Ytlhjbpachpjpkaa
open Go.RowKit Tomo

/-- the map holds the distances of the images found, and of no other -/
structure Far (qs : List Grid) (ds : List Nat) (f : Int → Option Int) : Prop where
  hit : ∀ (j : Nat) q (d : Nat), qs[j]? = some q → ds[j]? = some d → f (keyI q) = some (d : Int)
  miss : ∀ x, (∀ q ∈ qs, keyI q ≠ x) → f x = none
theorem Far.start (t : Grid) : Far [t] [0] (fun x => if x = keyI t then some 0 else none) := by
  refine ⟨fun j q d hq hd => ?_, fun x hx => ?_⟩
  · cases j with
    | zero =>
      have e1 : t = q := by simpa using hq
      have e2 : 0 = d := by simpa using hd
      subst e1 e2
      simp
    | succ j => simp at hq
  · have h1 := hx t List.mem_cons_self
    show (if x = keyI t then some 0 else none) = none
    rw [if_neg (fun e => h1 e.symm)]
theorem Far.isIn {qs : List Grid} {ds : List Nat} {f : Int → Option Int} {n k : Nat} {y : Grid} (h : Far qs ds f) (hi : ∀ q ∈ qs, Img q n k) (hy : Img y n k) (hs : (f (keyI y)).isSome = true) : y ∈ qs := by
  refine Classical.byContradiction fun hn => ?_
  rw [h.miss (keyI y) (fun q hq e => hn (by rw [← keyI_inj (hi q hq) hy e]; exact hq))] at hs
  cases hs
theorem Far.isOut {qs : List Grid} {ds : List Nat} {f : Int → Option Int} {y : Grid} (h : Far qs ds f) (hl : qs.length = ds.length) (hs : (f (keyI y)).isSome = false) : y ∉ qs := fun hm => by
  obtain ⟨j, hj⟩ := List.getElem?_of_mem hm
  have hjl : j < ds.length := by rw [← hl]; exact (List.getElem?_eq_some_iff.1 hj).1
  rw [h.hit j y _ hj (List.getElem?_eq_getElem hjl)] at hs
  cases hs
theorem Far.add {qs : List Grid} {ds : List Nat} {f : Int → Option Int} {n k : Nat} {y : Grid} {d : Nat} (h : Far qs ds f) (hl : qs.length = ds.length) (hi : ∀ q ∈ qs, Img q n k) (hy : Img y n k) (hn : y ∉ qs) :
    Far (qs ++ [y]) (ds ++ [d]) (fun x => if x = keyI y then some (d : Int) else f x) := by
  refine ⟨fun j q e hq hd => ?_, fun x hx => ?_⟩
  · show (if keyI q = keyI y then some (d : Int) else f (keyI q)) = _
    rcases snoc_at hq with ⟨a1, a2⟩ | ⟨a1, rfl⟩
    · rcases snoc_at hd with ⟨b1, b2⟩ | ⟨b1, rfl⟩
      · have hm := List.mem_of_getElem? a2
        rw [if_neg (fun e => hn (by rw [← keyI_inj (hi q hm) hy e]; exact hm))]
        exact h.hit j q e a2 b2
      · omega
    · rcases snoc_at hd with ⟨b1, b2⟩ | ⟨b1, rfl⟩
      · omega
      · rw [if_pos rfl]
  · show (if x = keyI y then some (d : Int) else f x) = none
    rw [if_neg (fun e => hx y (List.mem_append_right _ List.mem_cons_self) e.symm)]
    exact h.miss x fun q hq => hx q (List.mem_append_left _ hq)
/-- the search by the program: its memory, and what it has found -/
structure PSt (w wr : World) (rows cols : List Int) (t : Grid) (M : Nat) (v : Value) (qs : List Grid) (ds : List Nat) (f : Int → Option Int) (i : Nat) : Prop where
  ext : Ext w wr
  new : w.heap.size ≤ M
  grids : GridsO wr w.heap.size v qs
  map : MapF wr M qs.length f
  far : Far qs ds f
  bfs : Bfs (sideBy rows.length cols.length) t qs ds i
  cls : ∀ q ∈ qs, q ∈ allI rows cols
section
variable {w wr : World} {rows cols : List Int} {t : Grid} {M : Nat} {v : Value} {qs : List Grid} {ds : List Nat} {f : Int → Option Int} {i : Nat}
theorem PSt.img (h : PSt w wr rows cols t M v qs ds f i) : ∀ q ∈ qs, Img q rows.length cols.length := fun q hq => allI_img (h.cls q hq)
theorem PSt.few (h : PSt w wr rows cols t M v qs ds f i) : qs.length ≤ 33554432 := Nat.le_trans (nodup_le h.bfs.nodup h.cls) (allI_len _ _)
theorem PSt.lt (h : PSt w wr rows cols t M v qs ds f i) : M < wr.heap.size := by
  obtain ⟨es, clock, hb⟩ := h.map.isMap
  exact heap_lt hb
/-- new blocks -/
theorem PSt.step {w' : World} (h : PSt w wr rows cols t M v qs ds f i) (e : Ext wr w') : PSt w w' rows cols t M v qs ds f i :=
  ⟨h.ext.trans e, h.new, h.grids.ext e, h.map.blk (e.block M h.lt), h.far, h.bfs, h.cls⟩
/-- an image is entered into the map -/
theorem PSt.enter {w' : World} (h : PSt w wr rows cols t M v qs ds f i) (hg : wr.grownBy w' (some M)) : Ext w w' ∧ GridsO w' w.heap.size v qs ∧ NonQ wr w' :=
  ⟨Below.grown h.ext hg h.ext.size (fun j hj => by cases hj; exact h.new), h.grids.but h.map.isMap hg, NonQ.map h.map.isMap hg⟩
/-- a new image: into the map, then into the queue -/
theorem PSt.push {w' w5 : World} {o : Obj} {bq l c d : Nat} {q y : Grid} {v5 : Value} (h : PSt w wr rows cols t M (.slice (some ⟨bq, 0, none⟩) l c) qs ds f i) (hg : wr.grownBy w' (some M)) (hm : MapF w' M (qs.length + 1) (fun x => if x = keyI y then some ((d : Int) + 1) else f x))
    (hq : qs[i]? = some q) (hd : ds[i]? = some d) (hs : sideBy rows.length cols.length q y) (hy : y ∉ qs) (hgs : GridsO w5 w.heap.size v5 (qs ++ [y])) (hgr : (w'.alloc o).grownBy w5 (some bq)) :
    PSt w w5 rows cols t M v5 (qs ++ [y]) (ds ++ [d + 1]) (fun x => if x = keyI y then some ((d : Int) + 1) else f x) i := by
  obtain ⟨e1, g1, _⟩ := h.enter hg
  have hbq := (h.grids.lt (b := bq) rfl).1
  have hyi := (side_same hs).1
  have hqm := h.cls q (List.mem_of_getElem? hq)
  refine ⟨Below.grown (e1.alloc o) hgr (e1.alloc o).size (fun j hj => by cases hj; exact hbq), h.new, hgs, ?_, ?_, h.bfs.add hq hd hs hy, fun x hx => ?_⟩
  · have hlt : M < w'.heap.size := by obtain ⟨es, clock, hb⟩ := hm.isMap; exact heap_lt hb
    have e2 : (w'.alloc o).heap[M]? = w'.heap[M]? := ((Ext.refl w').alloc o).block M hlt
    have hlt2 : M < (w'.alloc o).heap.size := Nat.lt_of_lt_of_le hlt ((Ext.refl w').alloc o).size
    have hne : M ≠ bq := fun e => by
      subst e
      obtain ⟨es, clock, hb⟩ := hm.isMap
      obtain ⟨us, _, h2, _⟩ := g1
      rcases h2.2 with ⟨hv, _⟩ | ⟨b', cap, cur, hv, _, hb', _⟩
      · cases hv
      · cases hv
        rw [hb] at hb'
        cases hb'
    have hm2 := hm.blk (w' := w5) ((hgr.block M hlt2 (fun e => hne (by simpa using e))).trans e2)
    rw [List.length_append]
    exact hm2
  · have := h.far.add (d := d + 1) h.bfs.len h.img hyi hy
    have e3 : ((d + 1 : Nat) : Int) = (d : Int) + 1 := by omega
    rw [e3] at this
    exact this
  · rcases List.mem_append.1 hx with e | e
    · exact h.cls x e
    · rw [List.mem_singleton.1 e]; exact side_class q y hqm hs
end
theorem found_old {N : Grid → Grid → Prop} {root : Grid} {qs : List Grid} {ds : List Nat} {i d : Nat} (h : Bfs N root qs ds i) (hd : ds[i]? = some d) {y : Grid} (hy : y ∈ qs) : Found2 qs ds d y := by
  obtain ⟨j, hj⟩ := List.getElem?_of_mem hy
  have hjl : j < ds.length := by rw [← h.len]; exact (List.getElem?_eq_some_iff.1 hj).1
  exact ⟨j, ds[j], hj, List.getElem?_eq_getElem hjl, h.near j _ d (List.getElem?_eq_getElem hjl) hd⟩
theorem found_new {qs : List Grid} {ds : List Nat} {d : Nat} {y : Grid} (hl : qs.length = ds.length) : Found2 (qs ++ [y]) (ds ++ [d + 1]) d y :=
  ⟨qs.length, d + 1, by rw [List.getElem?_append_right (Nat.le_refl _), Nat.sub_self]; rfl, by rw [hl, List.getElem?_append_right (Nat.le_refl _), Nat.sub_self]; rfl, Nat.le_refl _⟩
/-- all has been found, and the map says the distances -/
structure Got (n k : Nat) (t : Grid) (qs : List Grid) (ds : List Nat) (f : Int → Option Int) : Prop where
  bfs : Bfs (sideBy n k) t qs ds qs.length
  img : ∀ q ∈ qs, Img q n k
  far : Far qs ds f
  few : qs.length ≤ 33554432
/-- the map says this distance of this image -/
def DistAt (qs : List Grid) (ds : List Nat) (f : Int → Option Int) (g : Grid) (d : Nat) : Prop := (f (keyI g)).getD 0 = (d : Int) ∧ (0 < d → ∃ j : Nat, qs[j]? = some g ∧ ds[j]? = some d)
section
variable {n k : Nat} {t : Grid} {qs : List Grid} {ds : List Nat} {f : Int → Option Int}
theorem Got.dist (h : Got n k t qs ds f) {j : Nat} {g : Grid} {d : Nat} (hg : qs[j]? = some g) (hd : ds[j]? = some d) : DistAt qs ds f g d :=
  ⟨by rw [h.far.hit j g d hg hd]; rfl, fun _ => ⟨j, hg, hd⟩⟩
theorem Got.le (h : Got n k t qs ds f) {g : Grid} {d : Nat} (hd : DistAt qs ds f g d) : d ≤ 33554432 := by
  rcases Nat.eq_zero_or_pos d with e | e
  · omega
  · obtain ⟨j, h1, h2⟩ := hd.2 e
    have h3 := h.bfs.low j d h2
    have h4 := (List.getElem?_eq_some_iff.1 h1).1
    have h5 := h.few
    omega
theorem Got.start (h : Got n k t qs ds f) {m : Grid} (hm : Img m n k) : DistAt qs ds f m (wayLen (sideBy n k) t m) := by
  by_cases hmq : m ∈ qs
  · obtain ⟨j, hj⟩ := List.getElem?_of_mem hmq
    have hjl : j < ds.length := by rw [← h.bfs.len]; exact (List.getElem?_eq_some_iff.1 hj).1
    have hdj : ds[j]? = some ds[j] := List.getElem?_eq_getElem hjl
    rw [wayLen_of (h.bfs.isDist hj hdj)]
    exact h.dist hj hdj
  · rw [h.bfs.far hmq]
    exact ⟨by rw [h.far.miss _ (fun q hq e => hmq (by rw [← keyI_inj (h.img q hq) hm e]; exact hq))]; rfl, fun h0 => by omega⟩
theorem Got.near (h : Got n k t qs ds f) {g y : Grid} {d : Nat} (hd : DistAt qs ds f g d) (h0 : 0 < d) (hn : sideBy n k g y) : ∃ d', DistAt qs ds f y d' ∧ d ≤ d' + 1 := by
  obtain ⟨j, h1, h2⟩ := hd.2 h0
  obtain ⟨j', d', h3, h4, _⟩ := h.bfs.step h1 h2 hn
  refine ⟨d', h.dist h3 h4, ?_⟩
  obtain ⟨j2, d2, h5, h6, h7⟩ := h.bfs.step h3 h4 (side_symm _ _ hn)
  obtain rfl := nodup_at h.bfs.nodup h1 h5
  rw [h2] at h6
  cases h6
  exact h7
theorem Got.down (h : Got n k t qs ds f) {g : Grid} {d : Nat} (hd : DistAt qs ds f g (d + 1)) : ∃ y, sideBy n k g y ∧ DistAt qs ds f y d := by
  obtain ⟨j, h1, h2⟩ := hd.2 (by omega)
  obtain ⟨z, j', h3, h4, h5⟩ := h.bfs.down side_symm h1 h2
  exact ⟨z, h3, h.dist h4 h5⟩
end
theorem PSt.got {w wr : World} {rows cols : List Int} {t : Grid} {M : Nat} {v : Value} {qs : List Grid} {ds : List Nat} {f : Int → Option Int} (h : PSt w wr rows cols t M v qs ds f qs.length) : Got rows.length cols.length t qs ds f := ⟨h.bfs, h.img, h.far, h.few⟩
theorem nil_sw (w : World) (B : Nat) : OwnS w B (.slice none 0 0) [] := ⟨by decide, .inl ⟨rfl, rfl⟩⟩
/-- blocks of cells that are no list of switches are as they were, and maps -/
structure NonS (w w' : World) : Prop where
  cells : ∀ (k : Nat) cs t fz, w.heap[k]? = some (.cells cs t fz) → t ≠ 78 → w'.heap[k]? = some (.cells cs t fz)
  map : ∀ (k : Nat) es clock, w.heap[k]? = some (.map es clock) → w'.heap[k]? = some (.map es clock)
theorem NonS.grown {w w' : World} {B : Nat} {v : Value} {ss : List Sw} (h : OwnS w B v ss) (hg : w.grownBy w' v.ownBlock) : NonS w w' := by
  have key : ∀ (k : Nat) o, w.heap[k]? = some o → (∀ cs fz, o ≠ .cells cs 78 fz) → w'.heap[k]? = some o := fun k o hk ho => by
    refine (hg.block k (heap_lt hk) (fun e => ?_)).trans hk
    rcases h.2 with ⟨hv, _⟩ | ⟨g, cap, cur, hv, _, hb, _⟩
    · rw [hv] at e; cases e
    · rw [hv] at e
      have e2 : k = g := by simpa [Value.ownBlock] using e
      rw [e2, hb] at hk
      exact ho _ _ (Option.some.inj hk).symm
  exact ⟨fun k cs t fz hk ht => key k _ hk (fun cs' fz' e => by cases e; exact ht rfl), fun k es clock hk => key k _ hk (fun cs' fz' e => by cases e)⟩
theorem NonS.ownsRow {w w' : World} {B : Nat} {e : TypeId} {size : Nat} {v : Value} {n : Nat} {xs : List Value} (k : NonS w w') (h : w.ownsRow B e size v n xs) (he : e ≠ 78) : w'.ownsRow B e size v n xs := by
  obtain ⟨h1, h2⟩ := h
  refine ⟨h1, ?_⟩
  rcases h2 with h2 | ⟨g, cap, cur, hv, hb, hg, hrest⟩
  · exact .inl h2
  · exact .inr ⟨g, cap, cur, hv, hb, k.cells g _ _ _ hg he, hrest⟩
theorem NonS.grid {w w' : World} {B : Nat} {v : Value} {g : Grid} (k : NonS w w') (h : OwnGrid w B v g) : OwnGrid w' B v g := by
  obtain ⟨us, h1, h2, h3, h4⟩ := h
  exact ⟨us, h1, k.ownsRow h2 (by decide), fun i u r hu hr => k.ownsRow (h3 i u r hu hr) (by decide), h4⟩
theorem NonS.mapF {w w' : World} {b n : Nat} {f : Int → Option Int} (k : NonS w w') (h : MapF w b n f) : MapF w' b n f := by
  obtain ⟨es, clock, hb⟩ := h.isMap
  exact h.blk ((k.map b es clock hb).trans hb.symm)
section
variable {ops : Array Oper} {rest : List Oper} {o : Oper} {a : Act} {Q : Exit → Act → World → Prop}
/-- 'append(list, s)', with what it leaves as it was -/
theorem app_sw2 {w : World} {B : Nat} {v : Value} {xs : List Sw} {s : Sw} (h : OwnS w B v xs) (hB : B ≤ w.heap.size) (hl : xs.length + 1 ≤ 1000000000) {ad : Addr} {c : Nat}
    (hy : ∀ j u, (flatS [s])[j]? = some u → w.cell? (ad.add j) = some u) (hgd : o.guard = none) (p x : Operand) (ho : o.op = .call { callee := .builtin .append, args := #[p, x], argTypes := #[64, 64] })
    (hs : a.eval p = v) (hx : a.eval x = .slice (some ad) 1 c)
    (hK : ∀ v' w', OwnS w' B v' (xs ++ [s]) → NonS w w' → w.grownBy w' v.ownBlock → wpList Try.prog ops Q rest (a.put o.dst v') w') :
    wpList Try.prog ops Q (o :: rest) a w := by
  refine wpList_plain hgd fun K hk => ?_
  obtain ⟨i, hi, hz, hsz, hby⟩ := infoSw'
  refine wp_append_own w p x 64 ho B 78 i (.agg #[.int .i64 0, .int .i64 0, .int .i64 0, .int .i64 0]) 4 32 Try.underlying64 hi hz hsz hby rfl (by decide) v xs.length (flatS xs) hs h ad 1 c (flatS [s]) hx (flatS_len [s]) hy
    (fun u hu => flatS_one u hu) (by unfold maxLen; omega) (by omega) hB ?_
  intro v' w' hown hgrow _
  refine hk _ _ (hK v' w' ?_ (NonS.grown h hgrow) hgrow)
  unfold OwnS
  rw [List.length_append, flatS_app]
  exact hown
end
def sLen : Value → Nat
  | .slice _ p _ => p
  | _ => 0
/-- the image where the way stands: the first one, or one made on the way -/
def AtG (wr : World) (A X : Option Addr) (n c : Nat) (m g : Grid) : Prop := (g = m ∧ X = A) ∨ OwnGrid wr 0 (.slice X n c) g
theorem AtG.gridAt {w wr : World} {A X : Option Addr} {n c : Nat} {m g : Grid} (h : AtG wr A X n c m g) (hx : GridAt w A m) (e : Ext w wr) : GridAt wr X g := by
  rcases h with ⟨rfl, rfl⟩ | h
  · exact hx.ext e
  · exact h.gridAt
theorem AtG.ext {wr w' : World} {A X : Option Addr} {n c : Nat} {m g : Grid} (h : AtG wr A X n c m g) (e : Ext wr w') : AtG w' A X n c m g := by
  rcases h with h | h
  · exact .inl h
  · exact .inr (h.ext e)
/-- the way so far: p switches of D -/
structure WaySt (w wr : World) (A : Option Addr) (m : Grid) (M N n k : Nat) (qs : List Grid) (ds : List Nat) (f : Int → Option Int) (v : Value) (ss : List Sw) (X : Option Addr) (c : Nat) (g : Grid) (d : Nat) : Prop where
  ext : Ext w wr
  out : OwnS wr w.heap.size v ss
  map : MapF wr M N f
  img : Img g n k
  at_ : AtG wr A X n c m g
  dist : DistAt qs ds f g d
theorem WaySt.step {w wr w' : World} {A : Option Addr} {m : Grid} {M N n k : Nat} {qs : List Grid} {ds : List Nat} {f : Int → Option Int} {v : Value} {ss : List Sw} {X : Option Addr} {c : Nat} {g : Grid} {d : Nat} (h : WaySt w wr A m M N n k qs ds f v ss X c g d) (e : Ext wr w') : WaySt w w' A m M N n k qs ds f v ss X c g d := by
  have hlt : M < wr.heap.size := by obtain ⟨es, clock, hb⟩ := h.map.isMap; exact heap_lt hb
  exact ⟨h.ext.trans e, h.out.ext e, h.map.blk (e.block M hlt), h.img, h.at_.ext e, h.dist⟩
theorem WaySt.push {w wr w' : World} {A : Option Addr} {m : Grid} {M N n k : Nat} {qs : List Grid} {ds : List Nat} {f : Int → Option Int} {v v' : Value} {ss : List Sw} {s : Sw} {X Y : Option Addr} {c c' : Nat} {g y : Grid} {d d' : Nat} (h : WaySt w wr A m M N n k qs ds f v ss X c g d)
    (hy : OwnGrid wr 0 (.slice Y n c') y) (hyi : Img y n k) (hd : DistAt qs ds f y d') (ho : OwnS w' w.heap.size v' (ss ++ [s])) (hn : NonS wr w') (hg : wr.grownBy w' v.ownBlock) : WaySt w w' A m M N n k qs ds f v' (ss ++ [s]) Y c' y d' :=
  ⟨Below.grown h.ext hg h.ext.size (fun j hj => (World.ownsRow.lt h.out j hj).1), ho, hn.mapF h.map, hyi, .inr (hn.grid hy), hd⟩
end Go.Proofs.Ytlhjbpachpjpkaa

namespace Go.Proofs.Ytlhjbpachpjpkaa
open Go.RowKit Tomo

set_option maxRecDepth 100000 in
set_option maxHeartbeats 16000000 in
theorem PathTo_any (A B : Option Addr) (ca cb : Nat) (rows cols : List Int) (n k : Nat) (m t : Grid) (w : World) (hn : rows.length = n) (hk : cols.length = k) (hn4 : n ≤ 4) (hk4 : k ≤ 4) (hm : m ∈ allI rows cols) (ht : t ∈ allI rows cols)
    (hx : GridAt w A m) (hy : OwnGrid w 0 (.slice B n cb) t) :
    Calls Try.prog 61 #[.slice A n ca, .slice B n cb] w fun e w' => ∃ P c, e = .returned (.tuple #[.slice P (wayLen (sideBy n k) t m) c, .bool true]) ∧ Ext w w' := by
  have hmi : Img m n k := by have := allI_img hm; rw [hn, hk] at this; exact this
  have hti : Img t n k := by have := allI_img ht; rw [hn, hk] at this; exact this
  obtain ⟨hn1, _⟩ := hmi.2.1
  obtain ⟨hk1, _⟩ := hmi.2.2.1
  obtain ⟨m1, m2⟩ := allI_eq hm
  obtain ⟨t1, t2⟩ := allI_eq ht
  have cs := SameSums_any A B ca cb m t n k w hmi hti (m1.trans t1.symm) (m2.trans t2.symm) hx hy.gridAt
  obtain ⟨b0, o0, _, _, _, rfl, _⟩ := hx.at_ (k := 0) (by rw [hmi.1.1]; omega)
  obtain ⟨R0, cr0, p0, q0, _⟩ := row_fact hmi hx (show 0 < n by omega)
  rw [Nat.add_zero] at q0
  have HQ0 : Hid (∀ W, Ext w W → W.cell? ⟨b0, o0, none⟩ = some (.slice (some ⟨R0, p0, none⟩) k cr0)) := Lib.hid fun W e => (e.cell (World.block_lt_of_cell? _ _ q0)).trans q0
  have HX := Lib.hid hx
  have HY := Lib.hid hy
  have HMI := Lib.hid hmi
  have HTI := Lib.hid hti
  have HM := Lib.hid hm
  have HT := Lib.hid ht
  have HN := Lib.hid hn
  have HK := Lib.hid hk
  have hmm := @run_makeMap Try.prog
  have hn0 : 0 < n := by omega
  have hnI : (0 : Int) < (n : Int) := by omega
  have hkey := key_wf hti
  obtain ⟨D, hD⟩ : ∃ D, wayLen (sideBy n k) t m = D := ⟨_, rfl⟩
  have HD := Lib.hid hD
  rw [hD]
  clear hx hy hmi hti hm ht hn hk m1 m2 t1 t2 q0 hD
  go_enter Try.func61, Try.ntmps61
  go_wp2_with fail
  refine cs.mono ?_
  rintro e w1 ⟨rfl, he1⟩
  have q0 := HQ0.out w1 he1
  have HE1 := Lib.hid he1
  obtain ⟨M, hM⟩ : ∃ M, w1.heap.size = M := ⟨_, rfl⟩
  obtain ⟨W0, hW0⟩ : ∃ W0, w1.alloc (.map #[] 0) = W0 := ⟨_, rfl⟩
  have hE0 : Ext w1 W0 := by rw [← hW0]; exact (Ext.refl w1).alloc _
  have hM0 : MapF W0 M 0 (fun _ => none) := by rw [← hW0, ← hM]; exact MapF.made w1
  have ck := keyOf_any B cb t n k W0 HTI.out (HY.out.gridAt.ext (he1.trans hE0))
  obtain ⟨K, hK⟩ : ∃ K, keyI t = K := ⟨_, rfl⟩
  rw [hK] at hkey ck
  obtain ⟨W1, hr1, hm1, hg1⟩ := hM0.put (x := K) (v := 0) (by omega) (wf_small (by omega) (by omega)) (wf_small (by omega) (by omega))
  have HM1 := Lib.hid hm1
  have HNQ1 := Lib.hid (NonQ.map hM0.isMap hg1)
  have hE1 : Ext w W1 := Below.grown (he1.trans hE0) hg1 (he1.trans hE0).size (fun j hj => by cases hj; rw [← hM]; exact he1.size)
  have HEW1 := Lib.hid hE1
  have HW0 := Lib.hid hW0
  have HNW := Lib.hid (he1.trans hE0)
  have HMS : Hid (w.heap.size ≤ M) := Lib.hid (by rw [← hM]; exact he1.size)
  have HKK := Lib.hid hK
  clear cs he1 hE0 hM0 hm1 hg1 hE1 hW0 hK hkey
  have HPS : Hid (PSt w (W1.alloc (.cells #[.slice B n cb] 23)) rows cols t M (.slice (some ⟨W1.heap.size, 0, none⟩) 1 1) [t] [0] (fun x => if x = K then some 0 else none) 0) := Lib.hid (by
    have hg : OwnGrid W1 0 (.slice B n cb) t := HNQ1.out.grid (HY.out.ext HNW.out)
    have hlt : M < W1.heap.size := by obtain ⟨es, clock, hb⟩ := HM1.out.isMap; exact heap_lt hb
    refine ⟨HEW1.out.alloc _, HMS.out, GridsO.lit hg _ HEW1.out.size, HM1.out.blk (((Ext.refl W1).alloc _).block M hlt), by rw [← HKK.out]; exact Far.start t, ?_, fun q hq => ?_⟩
    · rw [HN.out, HK.out]; exact Bfs.start t
    · rw [List.mem_singleton.1 hq]; exact HT.out)
  go_upto_region 3 with fail
  go_wp2_with fail
  rw [HW0.out]
  refine ck.mono ?_
  rintro e w' ⟨rfl, rfl⟩
  clear ck hmm
  go_wp2_with fail
  clear hr1 HM1 HNQ1 HNW HW0
  go_loopw [7, 8, 10, 11, 12, 13, 14] (fun v i _ _ _ _ _ wr => ∃ (ii bq cq ln : Nat) (qs : List Grid) (ds : List Nat) (f : Int → Option Int), v = .slice (some ⟨bq, 0, none⟩) ln cq ∧ i = .int .i64 ii ∧ ii ≤ ln ∧ ln ≤ 33554432 ∧ Hid (qs.length = ln) ∧ Hid (PSt w wr rows cols t M (.slice (some ⟨bq, 0, none⟩) ln cq) qs ds f ii)) (fun _ i _ _ _ _ _ _ => 33554433 - (intOf i).toNat)
  case atStart => exact ⟨0, W1.heap.size, 1, 1, [t], [0], _, rfl, rfl, by omega, by omega, Lib.hid rfl, HPS⟩
  case round =>
    rename World => wo
    clear HPS q0
    obtain ⟨ii, bq, cq, ln, qs, ds, f, rfl, rfl, hil, hl3, hln, hP⟩ := hrel
    by_cases hlt : ii < ln
    · have hltI : (ii : Int) < (ln : Int) := by omega
      obtain ⟨q, hq⟩ : ∃ q, qs[ii]? = some q := ⟨_, List.getElem?_eq_getElem (by rw [hln.out]; exact hlt)⟩
      obtain ⟨d, hd⟩ : ∃ d, ds[ii]? = some d := ⟨_, List.getElem?_eq_getElem (by rw [← hP.out.bfs.len, hln.out]; exact hlt)⟩
      obtain ⟨b', c', he, _, _, hel⟩ := hP.out.grids.form (by rw [hln.out]; omega)
      rw [hln.out] at he
      cases he
      obtain ⟨X, xc, hcell, hox, hgx⟩ := hel ii q hq
      have hqi : Img q n k := by have := hP.out.img q (List.mem_of_getElem? hq); rw [HN.out, HK.out] at this; exact this
      rw [hqi.1.1] at hcell
      have csw := implSwitches_any X xc q n k wo hqi.ok hqi hgx
      have HQD := Lib.hid (And.intro hq hd)
      have HQI := Lib.hid hqi
      have hdl : d ≤ 33554432 := by have := hP.out.bfs.low ii d hd; omega
      clear hel hq hd hox hgx hqi
      go_wp2_with fail
      refine csw.mono ?_
      rintro e w2 ⟨vs, ss, rfl, hsw, hall⟩
      obtain ⟨⟨VA, vc, hva⟩, _⟩ := hsw.own.at_
      subst hva
      have HSS := Lib.hid hsw.own
      have HSO := Lib.hid hsw.ok
      have HSA := Lib.hid hall
      have HP2 := Lib.hid (hP.out.step hsw.ext)
      have hfew := hsw.few
      obtain ⟨sl, hsl⟩ : ∃ sl, ss.length = sl := ⟨_, rfl⟩
      have HSL := Lib.hid hsl
      rw [hsl] at HSS hfew
      rw [hsl]
      have HLN := Lib.hid hln.out
      clear csw hsw hall hsl hP hcell hln
      go_wp2_with fail
      go_loopw [55, 7, 10, 11, 12, 13, 14] (fun l v _ _ _ _ _ wr => ∃ (ll bq cq ln : Nat) (qs : List Grid) (ds : List Nat) (f : Int → Option Int), l = .int .i64 ll ∧ v = .slice (some ⟨bq, 0, none⟩) ln cq ∧ ll ≤ sl ∧ ii < ln ∧ ln ≤ 33554432 ∧ Hid (qs.length = ln) ∧ Hid (PSt w wr rows cols t M (.slice (some ⟨bq, 0, none⟩) ln cq) qs ds f ii) ∧ Hid (qs[ii]? = some q ∧ ds[ii]? = some d) ∧ Hid (OwnS wr wo.heap.size (.slice VA sl vc) ss) ∧ Hid (∀ (l' : Nat) s, l' < ll → ss[l']? = some s → ∀ y, SwSt q n k s.a s.b s.x s.y 2 0 y → Found2 qs ds d y)) (fun l _ _ _ _ _ _ _ => sl - (intOf l).toNat)
      case atStart => exact ⟨0, bq, cq, ln, qs, ds, f, rfl, rfl, Nat.zero_le _, hlt, hl3, HLN, HP2, HQD, HSS, Lib.hid (fun l' s h => by omega)⟩
      case round =>
        rename World => wr
        clear HP2 HQD HSS HLN hil hl3 hlt hltI
        obtain ⟨ll, bq, cq, ln, qs, ds, f, rfl, rfl, hll, hlt, hl3, hln, hP, hQD, hS, hF⟩ := hrel
        by_cases hltl : ll < sl
        · have hltlI : (ll : Int) < (sl : Int) := by omega
          have hltI : (ii : Int) < (ln : Int) := by omega
          obtain ⟨s, hs⟩ : ∃ s, ss[ll]? = some s := ⟨_, List.getElem?_eq_getElem (by rw [HSL.out]; exact hltl)⟩
          obtain ⟨g, c, he, hcells⟩ := hS.out.at_.2 (by rw [HSL.out]; omega)
          rw [HSL.out] at he
          cases he
          obtain ⟨d1, d2, d3, d4⟩ := hcells ll s hs
          obtain ⟨v1, v2, v3, v4, v5⟩ := HSO.out s (List.mem_of_getElem? hs)
          obtain ⟨b', c', he, _, _, hel⟩ := hP.out.grids.form (by rw [hln.out]; omega)
          rw [hln.out] at he
          cases he
          obtain ⟨X, xc, hcell, hox, hgx⟩ := hel ii q hQD.out.1
          rw [HQI.out.1.1] at hcell
          obtain ⟨wb, hwb⟩ : ∃ wb, wr.alloc (.cells #[.int .i64 s.a, .int .i64 s.b, .int .i64 s.x, .int .i64 s.y] 78) = wb := ⟨_, rfl⟩
          have heb : Ext wr wb := by rw [← hwb]; exact (Ext.refl wr).alloc _
          have b1 : wb.cell? ⟨wr.heap.size, 0, none⟩ = some (.int .i64 s.a) := by rw [← hwb]; simp
          have b2 : wb.cell? ⟨wr.heap.size, 1, none⟩ = some (.int .i64 s.b) := by rw [← hwb]; simp
          have b3 : wb.cell? ⟨wr.heap.size, 2, none⟩ = some (.int .i64 s.x) := by rw [← hwb]; simp
          have b4 : wb.cell? ⟨wr.heap.size, 3, none⟩ = some (.int .i64 s.y) := by rw [← hwb]; simp
          have hcb : wb.cell? ⟨bq, ii, none⟩ = some (.slice X n xc) := (heb.cell (World.block_lt_of_cell? _ _ hcell)).trans hcell
          have HWB := Lib.hid hwb
          have HEB := Lib.hid heb
          have HCA := Lib.hid (fun W (e : Ext wb W) => implApply_any X xc q n k s.a s.b s.x s.y W HQI.out (hgx.ext (heb.trans e)) v1 v2 v3 v4 v5)
          have HGX := Lib.hid hgx
          have HHS := Lib.hid hs
          have HCELL := Lib.hid hcell
          clear hel hcells hox hgx hwb heb v1 v2 v3 v4 v5 hs hcell
          go_upto_region 11 with fail
          rw [HWB.out]
          clear d1 d2 d3 d4
          go_wp2_with fail
          go_cut [11, 12] (fun x ok wx => ∃ (yb yc : Nat) (y : Grid), x = .slice (some ⟨yb, 0, none⟩) n yc ∧ ok = .bool true ∧ Hid (OwnGrid wx 0 (.slice (some ⟨yb, 0, none⟩) n yc) y) ∧ Hid (SwSt q n k s.a s.b s.x s.y 2 0 y) ∧ Hid (Ext wb wx))
          case first =>
            go_wp2_with fail
            first | go_region_with (go_at_call 88; refine (HCA.out _ (by (repeat (first | exact Ext.refl _ | apply Ext.drew)))).mono ?_; rintro e w3 ⟨yb, yc, y, rfl, hoy, hsy, hey⟩) | fail
            all_goals
              have HY3 := Lib.hid (hoy.base (Nat.zero_le _))
              have HS3 := Lib.hid hsy
              have HE3 : Hid (Ext wb w3) := Lib.hid ((Ext.refl wb).drew.trans hey)
              clear hoy hsy hey
              go_wp2_with fail
              go_meet
              exact ⟨yb, yc, y, rfl, rfl, HY3, HS3, HE3⟩
          case rest =>
            rename World => w3
            obtain ⟨yb, yc, y, rfl, rfl, hY, hSY, hE3⟩ := hcut
            clear b1 b2 b3 b4 hcb
            have hsd : sideBy n k q y := ⟨HQI.out, s, HSO.out s (List.mem_of_getElem? HHS.out), hSY.out⟩
            have hyi := (side_same hsd).1
            have hext : Ext wr w3 := HEB.out.trans hE3.out
            have HP3 := Lib.hid (hP.out.step hext)
            have HS3 := Lib.hid (hS.out.ext hext)
            have ckn := keyOf_any (some ⟨yb, 0, none⟩) yc y n k w3 hyi hY.out.gridAt
            have hkw := key_wf hyi
            have hlk := HP3.out.map.look2 (wf_small (x := keyI y) (by omega) (by omega))
            have HSD := Lib.hid hsd
            have HYI := Lib.hid hyi
            have HGX3 := Lib.hid (HGX.out.ext hext)
            have hc3 : w3.cell? ⟨bq, ii, none⟩ = some (.slice X n xc) := (hext.cell (World.block_lt_of_cell? _ _ HCELL.out)).trans HCELL.out
            have HC3 := Lib.hid hc3
            have HNY : Hid (∀ (y' : Grid), SwSt q n k s.a s.b s.x s.y 2 0 y' → y' = y) := Lib.hid fun y' h' => h'.uniq hSY.out
            obtain ⟨K3, hK3⟩ : ∃ K3, keyI y = K3 := ⟨_, rfl⟩
            obtain ⟨fc, hfc⟩ : ∃ fc, (f (keyI y)).getD 0 = fc := ⟨_, rfl⟩
            obtain ⟨fb, hfb⟩ : ∃ fb, (f (keyI y)).isSome = fb := ⟨_, rfl⟩
            rw [hfc, hfb] at hlk
            have HFB := Lib.hid hfb
            have HK3 := Lib.hid hK3
            rw [hK3] at hlk ckn hkw
            have HNEXT : Hid (∀ (qs2 : List Grid) (ds2 : List Nat), Found2 qs2 ds2 d y → (∀ (l' : Nat) s', l' < ll → ss[l']? = some s' → ∀ y', SwSt q n k s'.a s'.b s'.x s'.y 2 0 y' → Found2 qs2 ds2 d y') → ∀ (l' : Nat) s', l' < ll + 1 → ss[l']? = some s' → ∀ y', SwSt q n k s'.a s'.b s'.x s'.y 2 0 y' → Found2 qs2 ds2 d y') := Lib.hid fun qs2 ds2 hf hall l' s' hl' hs' y' hy' => by
              by_cases e : l' = ll
              · subst e
                have e2 : s' = s := by
                  have h := HHS.out
                  rw [hs'] at h
                  exact Option.some.inj h
                subst e2
                rw [HNY.out y' hy']; exact hf
              · exact hall l' s' (by omega) hs' y' hy'
            clear hsd hyi hext hc3 hfc hfb hK3 hP hS HGX
            cases fb
            · have hyq : y ∉ qs := HP3.out.far.isOut HP3.out.bfs.len HFB.out
              have HPd := Lib.hid (HP3.out.step (Ext.refl w3).drew)
              have hqk := key_wf HQI.out
              have hl1 := HPd.out.map.look (wf_small (x := keyI q) (by omega) (by omega))
              rw [HPd.out.far.hit ii q d hQD.out.1 hQD.out.2] at hl1
              simp only [Option.getD_some] at hl1
              obtain ⟨W4, hput, hm4, hg4⟩ := HPd.out.map.put (x := K3) (v := (d : Int) + 1) (by have := HP3.out.few; omega) (wf_small (by omega) (by omega)) (wf_small (by omega) (by omega))
              obtain ⟨Kq, hKq⟩ : ∃ Kq, keyI q = Kq := ⟨_, rfl⟩
              have cy1 : Calls Try.prog 86 #[.slice (some ⟨yb, 0, none⟩) n yc] w3.drew fun e w'' => e = .returned (.int .i64 (keyI y)) ∧ w'' = w3.drew := (keyOf_any (some ⟨yb, 0, none⟩) yc y n k w3.drew HYI.out (hY.out.ext (Ext.refl w3).drew).gridAt).mono fun e w'' h => ⟨h.1, h.2.symm⟩
              have cq1 : Calls Try.prog 86 #[.slice X n xc] w3.drew fun e w'' => e = .returned (.int .i64 (keyI q)) ∧ w'' = w3.drew := (keyOf_any X xc q n k w3.drew HQI.out (HGX3.out.ext (Ext.refl w3).drew)).mono fun e w'' h => ⟨h.1, h.2.symm⟩
              rw [HK3.out] at cy1
              rw [hKq] at cq1
              rw [hKq] at hl1 hqk
              have hc3 := HC3.out
              have hwd : IntKind.i64.wrap ((d : Int) + 1) = (d : Int) + 1 := IntWalk.i64_in _ (by omega)
              have HM4 := Lib.hid hm4
              have HG4 := Lib.hid hg4
              have HYQ := Lib.hid hyq
              have hltI : (ii : Int) < (ln : Int) := by omega
              clear hm4 hg4 hyq hKq hqk hkw
              go_wp2_with fail
              refine ckn.mono ?_
              rintro e w' ⟨rfl, rfl⟩
              clear ckn
              go_upto_region 14 with fail
              have hc3d : w3.drew.cell? ⟨bq, ii, none⟩ = some (.slice X n xc) := hc3
              go_still_tail 11, (by kernel_rfl)
              still_call cy1
              repeat still_step
              still_call cq1
              repeat still_step
              refine wpStill_nil ?_
              change wpList _ _ _ _ _ w3.drew
              obtain ⟨hE4, hgr4, hnq4⟩ := HPd.out.enter HG4.out
              have HE4 := Lib.hid hE4
              have HGR4 := Lib.hid hgr4
              have HNQ4 := Lib.hid hnq4
              have HY4 := Lib.hid (hnq4.grid (hY.out.ext (Ext.refl w3).drew))
              have hqs : qs.length ≤ 33554432 := HP3.out.few
              have hwsz : w.heap.size ≤ W4.heap.size := hE4.size
              clear cy1 cq1 hc3d hc3 hl1 hlk hgr4 hnq4 hE4
              go_wp2_with (at_builtin; refine app_queue (HGR4.out.ext ((Ext.refl W4).alloc _)) (HY4.out.ext ((Ext.refl W4).alloc _)) (by simp; omega) (by omega) (new_cell rfl) rfl _ _ rfl rfl rfl ?_)
              intro b5 c5 w5 hgs hnq hgr
              have HP5 := Lib.hid (HPd.out.push HG4.out (by rw [HK3.out]; exact HM4.out) hQD.out.1 hQD.out.2 (by rw [HN.out, HK.out]; exact HSD.out) HYQ.out hgs hgr)
              have HS5 := Lib.hid (hnq.sw ((HNQ4.out.sw (HS3.out.ext (Ext.refl w3).drew)).ext ((Ext.refl W4).alloc _)))
              have HLN5 : Hid ((qs ++ [y]).length = ln + 1) := Lib.hid (by rw [List.length_append, hln.out]; rfl)
              have hln5 : ln + 1 ≤ 33554432 := by have := HP5.out.few; rw [HLN5.out] at this; exact this
              have HQD5 : Hid ((qs ++ [y])[ii]? = some q ∧ (ds ++ [d + 1])[ii]? = some d) := Lib.hid ⟨by rw [List.getElem?_append_left (by rw [hln.out]; exact hlt)]; exact hQD.out.1, by rw [List.getElem?_append_left (by rw [← HP3.out.bfs.len, hln.out]; exact hlt)]; exact hQD.out.2⟩
              have HFN := Lib.hid (HNEXT.out (qs ++ [y]) (ds ++ [d + 1]) (found_new HP3.out.bfs.len) (fun l' s' h1 h2 y' h3 => (hF.out l' s' h1 h2 y' h3).app _ _))
              clear hgs hnq hgr hput
              rw [hln.out] at HP5 ⊢
              go_wp2_with fail
              go_roundw
              case rel => exact ⟨ll + 1, b5, c5, ln + 1, _, _, _, by go_num, rfl, by omega, by omega, hln5, HLN5, HP5, HQD5, HS5, HFN⟩
              case measure => simp [intOf]; omega
            · have HFN := Lib.hid (HNEXT.out qs ds (found_old HP3.out.bfs hQD.out.2 (HP3.out.far.isIn (n := n) (k := k) (by have h := HP3.out.img; rw [HN.out, HK.out] at h; exact h) HYI.out HFB.out)) hF.out)
              go_wp2_with fail
              refine ckn.mono ?_
              rintro e w' ⟨rfl, rfl⟩
              clear ckn
              go_wp2_with fail
              go_roundw
              case rel => exact ⟨ll + 1, bq, cq, ln, qs, ds, f, by go_num, rfl, by omega, hlt, hl3, hln, HP3, hQD, HS3, HFN⟩
              case measure => simp [intOf]; omega
        · obtain rfl : ll = sl := by omega
          have HNX : Hid (PSt w wr rows cols t M (.slice (some ⟨bq, 0, none⟩) ln cq) qs ds f (ii + 1)) := Lib.hid ⟨hP.out.ext, hP.out.new, hP.out.grids, hP.out.map, hP.out.far, hP.out.bfs.next hQD.out.1 hQD.out.2 (fun y hy => by
            rw [HN.out, HK.out] at hy
            obtain ⟨_, s, hs, hsw⟩ := hy
            obtain ⟨l', hl'⟩ := List.getElem?_of_mem (HSA.out s hs)
            have hlt' : l' < ll := by rw [← HSL.out]; exact (List.getElem?_eq_some_iff.1 hl').1
            exact hF.out l' s hlt' hl' y hsw), hP.out.cls⟩
          clear hP hQD hS hF
          go_wp2_with fail
          go_roundw
          case rel => exact ⟨ii + 1, bq, cq, ln, qs, ds, f, rfl, by go_num, by omega, hl3, hln, HNX⟩
          case measure => simp [intOf]; omega
    · obtain rfl : ii = ln := by omega
      have hgot : Got n k t qs ds f := by
        have h := hP.out
        rw [← hln.out] at h
        have h := h.got
        rw [HN.out, HK.out] at h
        exact h
      have HGOT := Lib.hid hgot
      have hdm : DistAt qs ds f m D := by rw [← HD.out]; exact hgot.start HMI.out
      have hDl := hgot.le hdm
      have HWY : Hid (WaySt w wo (some ⟨b0, o0, none⟩) m M qs.length n k qs ds f (.slice none 0 0) [] (some ⟨b0, o0, none⟩) ca m D) := Lib.hid ⟨hP.out.ext, nil_sw wo w.heap.size, hP.out.map, HMI.out, .inl ⟨rfl, rfl⟩, hdm⟩
      clear hgot hdm hP hln
      go_wp2_with fail
      go_loopw [15, 16, 18, 19, 20] (fun v at_ _ _ _ wr => ∃ (pp d xc : Nat) (V : Option Addr) (vc : Nat) (ss : List Sw) (X : Option Addr) (g : Grid), v = .slice V pp vc ∧ at_ = .slice X n xc ∧ pp + d = D ∧ Hid (ss.length = pp) ∧ Hid (WaySt w wr (some ⟨b0, o0, none⟩) m M qs.length n k qs ds f (.slice V pp vc) ss X xc g d)) (fun v _ _ _ _ _ => D - (sLen v))
      case atStart => exact ⟨0, D, ca, none, 0, [], _, m, rfl, rfl, by omega, Lib.hid rfl, HWY⟩
      case round =>
        rename World => wx
        clear HWY
        obtain ⟨pp, d, xc, V, vc, ss, X, g, rfl, rfl, hpd, hpl, hW⟩ := hrel
        have hgi := hW.out.img
        have hgx : GridAt wx X g := hW.out.at_.gridAt HX.out hW.out.ext
        have ckg := keyOf_any X xc g n k wx hgi hgx
        have hkw := key_wf hgi
        have hlk := hW.out.map.look (wf_small (x := keyI g) (by omega) (by omega))
        rw [hW.out.dist.1] at hlk
        obtain ⟨Kg, hKg⟩ : ∃ Kg, keyI g = Kg := ⟨_, rfl⟩
        rw [hKg] at hlk ckg hkw
        have HKG := Lib.hid hKg
        have HGI := Lib.hid hgi
        have HGX := Lib.hid hgx
        clear hgi hgx hKg hkw
        go_upto_region 19 with fail
        go_wp2_with fail
        refine ckg.mono ?_
        rintro e w' ⟨rfl, rfl⟩
        clear ckg
        by_cases hd0 : 0 < d
        · have hdI : (0 : Int) < (d : Int) := by omega
          have csw := implSwitches_any X xc g n k wx HGI.out.ok HGI.out HGX.out
          go_wp2_with fail
          refine csw.mono ?_
          clear hlk
          rintro e w2 ⟨vs, sl, rfl, hsw, hall⟩
          obtain ⟨⟨VA, vcc, hva⟩, _⟩ := hsw.own.at_
          subst hva
          have HSS := Lib.hid hsw.own
          have HSO := Lib.hid hsw.ok
          have HSA := Lib.hid hall
          have HW2 := Lib.hid (hW.out.step hsw.ext)
          have hfew := hsw.few
          obtain ⟨ns, hns⟩ : ∃ ns, sl.length = ns := ⟨_, rfl⟩
          have HSL := Lib.hid hns
          rw [hns] at HSS hfew
          rw [hns]
          clear csw hsw hall hns hW
          go_wp2_with fail
          go_loopw [102, 15, 16, 18, 19, 20] (fun l v at_ _ _ _ wr => ∃ ll : Nat, l = .int .i64 ll ∧ v = .slice V pp vc ∧ at_ = .slice X n xc ∧ ll ≤ ns ∧ Hid (OwnS wr wx.heap.size (.slice VA ns vcc) sl) ∧ Hid (WaySt w wr (some ⟨b0, o0, none⟩) m M qs.length n k qs ds f (.slice V pp vc) ss X xc g d) ∧ Hid (∀ (l' : Nat) s, l' < ll → sl[l']? = some s → ∀ y, SwSt g n k s.a s.b s.x s.y 2 0 y → ∀ e, DistAt qs ds f y e → d ≤ e)) (fun l _ _ _ _ _ _ => ns - (intOf l).toNat)
          case atStart => exact ⟨0, rfl, rfl, rfl, Nat.zero_le _, HSS, HW2, Lib.hid (fun l' s h => by omega)⟩
          case round =>
            rename World => wr
            clear HW2 HSS
            obtain ⟨ll, rfl, rfl, rfl, hll, hS, hW, hF⟩ := hrel
            by_cases hltl : ll < ns
            · have hltlI : (ll : Int) < (ns : Int) := by omega
              obtain ⟨s, hs⟩ : ∃ s, sl[ll]? = some s := ⟨_, List.getElem?_eq_getElem (by rw [HSL.out]; exact hltl)⟩
              obtain ⟨ga, c, he, hcells⟩ := hS.out.at_.2 (by rw [HSL.out]; omega)
              rw [HSL.out] at he
              cases he
              obtain ⟨d1, d2, d3, d4⟩ := hcells ll s hs
              obtain ⟨v1, v2, v3, v4, v5⟩ := HSO.out s (List.mem_of_getElem? hs)
              obtain ⟨wb, hwb⟩ : ∃ wb, wr.alloc (.cells #[.int .i64 s.a, .int .i64 s.b, .int .i64 s.x, .int .i64 s.y] 78) = wb := ⟨_, rfl⟩
              have heb : Ext wr wb := by rw [← hwb]; exact (Ext.refl wr).alloc _
              have b1 : wb.cell? ⟨wr.heap.size, 0, none⟩ = some (.int .i64 s.a) := by rw [← hwb]; simp
              have b2 : wb.cell? ⟨wr.heap.size, 1, none⟩ = some (.int .i64 s.b) := by rw [← hwb]; simp
              have b3 : wb.cell? ⟨wr.heap.size, 2, none⟩ = some (.int .i64 s.x) := by rw [← hwb]; simp
              have b4 : wb.cell? ⟨wr.heap.size, 3, none⟩ = some (.int .i64 s.y) := by rw [← hwb]; simp
              have HWB := Lib.hid hwb
              have HEB := Lib.hid heb
              have hgw : GridAt wb X g := (hW.out.at_.gridAt HX.out hW.out.ext).ext heb
              have cap := implApply_any X xc g n k s.a s.b s.x s.y wb HGI.out hgw v1 v2 v3 v4 v5
              have HGW := Lib.hid hgw
              have HHS := Lib.hid hs
              clear hcells hwb heb v1 v2 v3 v4 v5 hs hgw
              go_upto_region 23 with fail
              rw [HWB.out]
              clear d1 d2 d3 d4
              go_wp2_with fail
              refine cap.mono ?_
              rintro e w3 ⟨yb, yc, y, rfl, hoy, hsy, hey⟩
              clear cap
              have hsd : sideBy n k g y := ⟨HGI.out, s, HSO.out s (List.mem_of_getElem? HHS.out), hsy⟩
              have hyi := (side_same hsd).1
              obtain ⟨e, hye, hle⟩ := HGOT.out.near hW.out.dist hd0 hsd
              have hel := HGOT.out.le hye
              have hgl := HGOT.out.le hW.out.dist
              have hext : Ext wr w3 := HEB.out.trans hey
              have HW3 := Lib.hid (hW.out.step (hext.trans (Ext.refl w3).drew))
              have HS3 := Lib.hid (hS.out.ext (hext.trans (Ext.refl w3).drew))
              have HOY := Lib.hid (hoy.ext (Ext.refl w3).drew)
              have HSW := Lib.hid hsy
              have HYI := Lib.hid hyi
              have HYE := Lib.hid hye
              have cy1 : Calls Try.prog 86 #[.slice (some ⟨yb, 0, none⟩) n yc] w3.drew fun e w'' => e = .returned (.int .i64 (keyI y)) ∧ w'' = w3.drew := (keyOf_any (some ⟨yb, 0, none⟩) yc y n k w3.drew hyi HOY.out.gridAt).mono fun e w'' h => ⟨h.1, h.2.symm⟩
              have cg1 : Calls Try.prog 86 #[.slice X n xc] w3.drew fun e w'' => e = .returned (.int .i64 (keyI g)) ∧ w'' = w3.drew := (keyOf_any X xc g n k w3.drew HGI.out (HGW.out.ext (hey.trans (Ext.refl w3).drew))).mono fun e w'' h => ⟨h.1, h.2.symm⟩
              have hky := key_wf hyi
              have hkg := key_wf HGI.out
              have hl1 := HW3.out.map.look (wf_small (x := keyI y) (by omega) (by omega))
              have hl2 := HW3.out.map.look (wf_small (x := keyI g) (by omega) (by omega))
              rw [hye.1] at hl1
              rw [hW.out.dist.1] at hl2
              obtain ⟨Ky, hKy⟩ : ∃ Ky, keyI y = Ky := ⟨_, rfl⟩
              rw [hKy] at cy1 hl1 hky
              rw [HKG.out] at cg1 hl2 hkg
              have b1 := (hey.trans (Ext.refl w3).drew).cell (World.block_lt_of_cell? _ _ b1) |>.trans b1
              have b2 := (hey.trans (Ext.refl w3).drew).cell (World.block_lt_of_cell? _ _ b2) |>.trans b2
              have b3 := (hey.trans (Ext.refl w3).drew).cell (World.block_lt_of_cell? _ _ b3) |>.trans b3
              have b4 := (hey.trans (Ext.refl w3).drew).cell (World.block_lt_of_cell? _ _ b4) |>.trans b4
              clear hsd hyi hye hext hKy hW hS hoy hsy hey
              go_upto_region 24 with fail
              go_still_tail 8, (by kernel_rfl)
              still_call cy1
              repeat still_step
              still_call cg1
              repeat still_step
              refine wpStill_nil ?_
              change wpList _ _ _ _ _ w3.drew
              clear hl1 hl2 cy1 cg1
              by_cases hed : e < d
              · have hedI : (e : Int) < (d : Int) := by omega
                have hD1 : pp + (1 + e) = D := by omega
                go_wp2_with (at_builtin; refine app_sw2 (B := w.heap.size) (s := s) (HW3.out.out.ext ((Ext.refl w3.drew).alloc _)) (Nat.le_trans HW3.out.ext.size ((Ext.refl w3.drew).alloc _).size) (by have := hpl.out; omega) (sw_cells (by simp) (by simp) (by simp) (by simp)) rfl _ _ rfl rfl rfl ?_)
                intro v5 w5 ho5 hn5 hg5
                obtain ⟨⟨V5, vc5, hv5⟩, _⟩ := ho5.at_
                have hl5 : (ss ++ [s]).length = pp + 1 := by rw [List.length_append, hpl.out]; rfl
                rw [hl5] at hv5
                subst hv5
                have HW5 := Lib.hid ((HW3.out.step ((Ext.refl w3.drew).alloc _)).push ((HOY.out.base (Nat.zero_le _)).ext ((Ext.refl w3.drew).alloc _)) HYI.out HYE.out ho5 hn5 hg5)
                have HL5 := Lib.hid hl5
                clear ho5 hn5 hg5 hl5
                go_wp2_with fail
                go_roundw
                case rel => exact ⟨pp + 1, e, yc, V5, vc5, ss ++ [s], some ⟨yb, 0, none⟩, y, rfl, rfl, by omega, HL5, HW5⟩
                case measure => simp [sLen]; omega
              · have hedI : ¬ (e : Int) < (d : Int) := by omega
                have hF2 : ∀ (l' : Nat) s', l' < ll + 1 → sl[l']? = some s' → ∀ y', SwSt g n k s'.a s'.b s'.x s'.y 2 0 y' → ∀ e', DistAt qs ds f y' e' → d ≤ e' := fun l' s' hl' hs' y' hy' e' he' => by
                  by_cases hq : l' = ll
                  · subst hq
                    have e2 : s' = s := by
                      have h := HHS.out
                      rw [hs'] at h
                      exact Option.some.inj h
                    subst e2
                    rw [hy'.uniq HSW.out] at he'
                    have h1 := he'.1
                    rw [HYE.out.1] at h1
                    omega
                  · exact hF.out l' s' (by omega) hs' y' hy' e' he'
                have HF2 := Lib.hid hF2
                clear hF2
                go_wp2_with fail
                go_roundw
                case rel => exact ⟨ll + 1, by go_num, rfl, rfl, by omega, HS3, HW3, HF2⟩
                case measure => simp [intOf]; omega
            · exfalso
              obtain rfl : ll = ns := by omega
              obtain ⟨d', rfl⟩ : ∃ d', d = d' + 1 := ⟨d - 1, by omega⟩
              obtain ⟨y, ⟨_, s, hs, hsw⟩, hy⟩ := HGOT.out.down hW.out.dist
              obtain ⟨l', hl'⟩ := List.getElem?_of_mem (HSA.out s hs)
              have hlt' : l' < ll := by rw [← HSL.out]; exact (List.getElem?_eq_some_iff.1 hl').1
              have := hF.out l' s hlt' hl' y hsw d' hy
              omega
        · have hdI : ¬ (0 : Int) < (d : Int) := by omega
          obtain rfl : d = 0 := by omega
          obtain rfl : pp = D := by omega
          have HEND := Lib.hid hW.out.ext
          clear hW
          go_wp2_with fail
          exact bodyPost_ret (v := .tuple #[.slice V pp vc, .bool true]) (by simp [results, Try.results61, go_sem]) rfl ⟨V, vc, rfl, HEND.out⟩
end Go.Proofs.Ytlhjbpachpjpkaa
