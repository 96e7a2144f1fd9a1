/- Offers of splitters, plain: their error. Walks: tree.buyFault, the reference's OffersFault. -/
import Derived.Test.YteliiknlpfjlkaaGreatDoorWalkAll
import Derived.Test.YteliiknlpfjlkaaGreatDoorRefBAll
set_option linter.unusedVariables false
set_option linter.unusedSimpArgs false
namespace Go.Proofs.YteliiknlpfjlkaaGreatDoor
open Go Go.RowKit

structure Offer where
  ways : Int
  price : Int
deriving DecidableEq, Inhabited
def Offer.cells (o : Offer) : List Value := [.int .i64 o.ways, .int .i64 o.price]
theorem Offer.cells_len (o : Offer) : o.cells.length = 2 := rfl
theorem offer_at {w : World} {b off : Nat} {p : Offer} (h : ∀ j u, p.cells[j]? = some u → w.cell? ⟨b, off + j, none⟩ = some u) :
    w.cell? ⟨b, off, none⟩ = some (.int .i64 p.ways) ∧ w.cell? ⟨b, off + 1, none⟩ = some (.int .i64 p.price) := ⟨h 0 _ rfl, h 1 _ rfl⟩
def offerFault (o : Offer) : Int := if waysB o.ways then (if outB o.price 1 1000000 then 1 else 0) else 1
def offersFault (l : List Offer) (n : Int) : Int := if 8 < l.length then 2 else if firstF (l.map offerFault) = 0 then (if outB n 0 2000 then 1 else 0) else firstF (l.map offerFault)

theorem offer_first (o : Offer) : firstF [spanF (dbl o.ways) 1 7, spanF o.price 1 1000000] = offerFault o := by
  have h := (dbl_le o.ways).2
  unfold offerFault spanF waysB
  by_cases h1 : 1 ≤ dbl o.ways
  · have : outB (dbl o.ways) 1 7 = false := outB_false.2 ⟨h1, h⟩
    rw [this]; cases outB o.price 1 1000000 <;> simp [firstF, h1]
  · have : outB (dbl o.ways) 1 7 = true := outB_true.2 (.inl (by omega))
    rw [this]; simp [firstF, h1]
end Go.Proofs.YteliiknlpfjlkaaGreatDoor
