/- Grids grown beside a cursor that moves. -/
import Derived.Test.YtpmpbdcbiaohdaaMake3
import Derived.Test.YtpmpbdcbiaohdaaGrids2
namespace Go.Proofs.Ytpmpbdcbiaohdaa
open Go.RowKit Tomo

theorem OwnGrid.keepsS {p B : Nat} {w w' : World} {v : Value} {g : Grid} (h : OwnGrid w B v g) (k : Keeps p w w') (hp : p < B) : OwnGrid w' B v g := h.seg fun i h1 h2 => k.2 i h2 (by omega)
section
variable {ops : Array Oper} {rest : List Oper} {o : Oper} {a : Act} {Q : Exit → Act → World → Prop}
theorem app_row_l {w : World} {B : Nat} {v u : Value} {g : List (List Int)} {r : List Int} (h : OwnGrid w B v g) (hB : B ≤ w.heap.size) (hu : Own w B u r) (hap : ∀ p, RowVal w v p → p.ownBlock = none ∨ p.ownBlock ≠ u.ownBlock) (hl : g.length ≤ 1000000) {ad : Addr} {c : Nat}
    (hy : w.cell? ad = some u) (hgd : o.guard = none) (s x : Operand) (ho : o.op = .call { callee := .builtin .append, args := #[s, x], argTypes := #[23, 23] })
    (hs : a.eval s = v) (hx : a.eval x = .slice (some ad) 1 c)
    (hK : ∀ b cap w', OwnGrid w' B (.slice (some ⟨b, 0, none⟩) (g.length + 1) cap) (g ++ [r]) → (∀ z, Below B z w → Below B z w') → wpList Try.prog ops Q rest (a.put o.dst (.slice (some ⟨b, 0, none⟩) (g.length + 1) cap)) w') :
    wpList Try.prog ops Q (o :: rest) a w :=
  wpList_plain hgd fun _ hk => app_row_old h hB hu hap hl hy s x ho hs hx fun b cap w' h1 h2 _ _ => hk _ _ (hK b cap w' h1 h2)
end
end Go.Proofs.Ytpmpbdcbiaohdaa
