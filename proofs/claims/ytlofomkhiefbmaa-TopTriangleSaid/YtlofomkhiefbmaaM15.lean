/- Walks. -/
import Derived.Test.YtlofomkhiefbmaaJH
import Derived.Test.YtlofomkhiefbmaaJT
import Derived.Test.YtlofomkhiefbmaaM14
import Derived.Test.YtlofomkhiefbmaaSH
set_option maxRecDepth 10000
set_option linter.unusedVariables false
set_option linter.unusedSimpArgs false
namespace Go.Proofs.Ytlofomkhiefbmaa
open Go.RowKit
theorem MRow.owns {B e : Nat} {w : World} {C : Gh} {A : Option Addr} {c : Nat} {rows : List (List Value)} (h : MRow B e 1 w C A c rows) : w.ownsRow B e 1 (.slice A rows.length c) rows.length rows.flatten := by
  rcases h with ⟨rfl, rfl, rfl⟩ | ⟨g, spare, rfl, h2, h3, h4, h5, h6, h7⟩
  · exact World.ownsRow_nil _ _ _ _
  · have hfl := flatten_len (fun r hr => (h7 r hr).1)
    exact ⟨hfl, .inr ⟨g, c, _, rfl, h2, h3.blk, h4, by simp only [maxLen]; omega, by simpa using h6, by rw [← hfl]; simp⟩⟩
theorem String_c {B gb c : Nat} {A : Option Addr} {rows : List (List Value)} {l : List UInt8} {w : World} {C : Gh} (hg : B ≤ gb) (st : St w C gb [.pointer (some ⟨gb, 0, none⟩), .slice A rows.length c] 80) (hm : MRow B 5 1 w C A c rows) (hr : rows.flatten = Lib.byteCells l) (h0 : l ≠ []) :
    Ret Try.prog 36 #[.pointer (some ⟨gb, 0, none⟩)] w fun v w' => v = .string ⟨l.toArray⟩ ∧ Below B w w' := by
  have hown := hm.owns
  have hl : rows.length = (Lib.byteCells l).length := by rw [← hr]; have := hown.1; omega
  refine Calls.mono (Try.Builder_String B gb l w (.inr ⟨hg, _, st.blk, by rw [← hl, ← hr]; exact hown, ?_⟩) h0) ?_
  · rcases hm with ⟨rfl, rfl, rfl⟩ | ⟨g, spare, rfl, h2, h3, h4, h5, h6, h7⟩
    · simp [Value.ownBlock]
    · have := h3.ne_type st (by decide)
      simpa [Value.ownBlock] using this
  · rintro e w' ⟨rfl, hb⟩
    exact ⟨_, rfl, rfl, hb⟩
theorem Contains_c {s : ByteArray} {c : UInt8} {w : World} {C : Gh} (hH : Has w C) : Ret Try.prog 64 #[.string s, .string ⟨#[c]⟩] w fun v w' => v = .bool (decide (0 ≤ Lib.indexByte s.data.toList c)) ∧ Ext w.heap.size w C w' C := by
  refine Calls.mono (Try.strings_Contains_one s c w) ?_
  rintro e w' ⟨rfl, rfl⟩
  exact ⟨_, rfl, rfl, Ext.refl hH⟩
end Go.Proofs.Ytlofomkhiefbmaa
