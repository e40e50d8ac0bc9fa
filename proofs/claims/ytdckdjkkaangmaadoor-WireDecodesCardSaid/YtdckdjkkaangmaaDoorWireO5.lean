/- The document's SameReqs at one and one: the other ways. -/
import Derived.Test.YtdckdjkkaangmaaDoorWireO3
import Derived.Test.YtdckdjkkaangmaaDoorWireO4
import Derived.Test.YtdckdjkkaangmaaDoorWireO6
namespace Go.Proofs.YtdckdjkkaangmaaDoor
set_option linter.unusedVariables false
set_option linter.unusedSimpArgs false
set_option maxRecDepth 100000
open Go.RowKit
theorem dreqs_any {w : World} {a0 a1 a2 a3 a4 a5 a6 a7 b0 b1 b2 b3 b4 b5 b6 b7 : Int} {g h : Nat} {A B A2 B2 : Option Addr} {c d c2 d2 : Nat} {xs ys : List UInt8} {us vs : List Nat} (hG : Blk w g 35 #[.int .i64 a0, .int .u64 a1, .int .i64 a2, .int .u64 a3, .int .u64 a4, .int .u64 a5, .int .u64 a6, .int .i64 a7, .slice A xs.length c, .slice A2 us.length c2]) (hH : Blk w h 35 #[.int .i64 b0, .int .u64 b1, .int .i64 b2, .int .u64 b3, .int .u64 b4, .int .u64 b5, .int .u64 b6, .int .i64 b7, .slice B ys.length d, .slice B2 vs.length d2]) (hA : Bytes w A xs) (hB : Bytes w B ys) :
    Calls Tryd.prog 33 #[.slice (some ⟨g, 0, none⟩) 1 1, .slice (some ⟨h, 0, none⟩) 1 1] w fun e w' => e = .returned (.bool (decide ((a0 = b0 ∧ a1 = b1 ∧ a2 = b2 ∧ a3 = b3 ∧ a4 = b4 ∧ a5 = b5 ∧ a6 = b6 ∧ a7 = b7) ∧ xs = ys ∧ us.length = vs.length))) ∧ Below w.heap.size w w' := by
  by_cases hab : a0 = b0 ∧ a1 = b1 ∧ a2 = b2 ∧ a3 = b3 ∧ a4 = b4 ∧ a5 = b5 ∧ a6 = b6 ∧ a7 = b7
  · by_cases hxy : xs = ys
    · by_cases hl : us.length = vs.length
      · exact dreqs_yes hG hH hA hB hab hxy hl
      · exact dreqs_len hG hH hA hB hab hxy hl
    · exact dreqs_txt hG hH hA hB hab hxy
  · by_cases h1 : a0 = b0 ∧ a1 = b1
    · by_cases h2 : a2 = b2
      · by_cases h3 : a3 = b3
        · by_cases h4 : a4 = b4
          · by_cases h5 : a5 = b5
            · by_cases h6 : a6 = b6
              · exact dreqs_n7 hG hH hA hB ⟨h1.1, h1.2, h2, h3, h4, h5, h6⟩ fun h7 => hab ⟨h1.1, h1.2, h2, h3, h4, h5, h6, h7⟩
              · exact dreqs_n6 hG hH hA hB ⟨h1.1, h1.2, h2, h3, h4, h5⟩ h6
            · exact dreqs_n5 hG hH hA hB ⟨h1.1, h1.2, h2, h3, h4⟩ h5
          · exact dreqs_n4 hG hH hA hB ⟨h1.1, h1.2, h2, h3⟩ h4
        · exact dreqs_n3 hG hH hA hB ⟨h1.1, h1.2, h2⟩ h3
      · exact dreqs_n2 hG hH hA hB h1 h2
    · exact dreqs_n1 hG hH hA hB h1
end Go.Proofs.YtdckdjkkaangmaaDoor
