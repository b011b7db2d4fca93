/- The contract of slices.Reverse at bytes that were made of a string, and of the string made of them. -/
import Derived.Test.YtadibbbaegbljaaRevLay
import Derived.Test.YtadibbbaegbljaaLaw
import Derived.Laws.IdiomStrings
namespace Go.Proofs.Ytadibbbaegbljaa
open Go.RowKit Go.Sort

def encB (c : UInt8) : Value := .int .u8 (c.toNat : Int)
theorem encB_one : Go.Proofs.OneCell encB := fun _ => rfl
/-- The block that '[]byte(s)' lays holds the bytes. -/
theorem bytes_holds (w : World) (s : ByteArray) (cap : Nat) (e : TypeId) :
    Holds encB (w.alloc (.cells (bytesRow s cap) e ((bytesRow s cap).size, (bytesRow s cap).size + 1))) w.heap.size 0 s.data.toList.toArray := by
  intro j hj
  have hj' : j < s.data.size := by simpa using hj
  have hb := heap_alloc_new w (.cells (bytesRow s cap) e ((bytesRow s cap).size, (bytesRow s cap).size + 1))
  have hsz : j < (bytesRow s cap).size := by
    have := bytesRow_at s cap j hj'
    exact (Array.getElem?_eq_some_iff.1 this).1
  refine ⟨?_, ?_⟩
  · rw [Nat.zero_add, cell_of_row _ w.heap.size j _ _ _ hb, bytesRow_at s cap j hj']
    have e1 : s.data.toList.toArray[j]! = s.data[j] := by rw [getElem!_pos _ j hj]
    rw [e1, encB]
  · simp only [World.frozen?, hb, Nat.zero_add]
    simp; omega
/-- What slices.Reverse does: a string of the slice is the reversed one. -/
def RevRet (w : World) (g cap : Nat) (l : List UInt8) (e : Ending) (w' : World) : Prop :=
  e = .returned (.tuple #[]) ∧ w.grownBy w' (some g) ∧ (convert 29 9 (.slice (some ⟨g, 0, none⟩) l.length cap)).run Try.prog w' = .ok (.string ⟨l.reverse.toArray⟩) w'
theorem reverse_any (l : List UInt8) (g cap : Nat) (w : World) (hH : Holds encB w g 0 l.toArray) (hl : l.length ≤ 1000) :
    Calls Try.prog 14 #[.slice (some ⟨g, 0, none⟩) l.length cap] w (RevRet w g cap l) := by
  refine (AnyE.slices_Reverse Try.reverseBytes encB encB_one g 0 cap l w hH (by omega)).mono ?_
  rintro e w' ⟨he, n, rfl⟩
  have hh := holds_putRow encB (Sort.ahead w n) g 0 l.toArray l.reverse.toArray hH (by simp)
  refine ⟨he, ⟨rfl, rfl, rfl, by simp [putRow, mapBlock, Sort.ahead], fun k hk hne => ?_⟩, ?_⟩
  · have : g ≠ k := fun e => hne (by rw [e])
    simp [putRow, mapBlock, Sort.ahead, Array.getElem?_modify, this]
  · have hlen : l.length = l.reverse.length := by simp
    rw [hlen]
    refine run_convert_bytes_back _ _ _ 5 _ _ l.reverse Try.underlying29 Try.underlying5 Try.underlying9 fun j hj => ?_
    have h1 := (hh j (by simpa using hj)).1
    rw [Nat.zero_add] at h1
    have e1 : l.reverse.toArray[j]! = l.reverse[j] := by rw [getElem!_pos _ j (by simpa using hj)]; simp
    rw [e1] at h1
    unfold Addr.add
    split
    · rename_i h0; subst h0; exact h1
    · show (putRow encB (Sort.ahead w n) g 0 l.reverse.toArray).cell? ⟨g, 0 + j, none⟩ = _
      rw [Nat.zero_add]; exact h1
end Go.Proofs.Ytadibbbaegbljaa
