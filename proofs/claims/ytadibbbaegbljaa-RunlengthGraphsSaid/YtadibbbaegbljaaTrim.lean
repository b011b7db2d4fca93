/- The contract of integer.trim: it returns the same slice, without the zeros at its end; it changes nothing. -/
import Derived.Test.YtadibbbaegbljaaProg
import Derived.Test.YtadibbbaegbljaaBase
import Derived.Test.YtadibbbaegbljaaNat
namespace Go.Proofs.Ytadibbbaegbljaa
open Go.RowKit

/-- Cells of digits. -/
def cs32 (l : List Nat) : List Value := l.map fun (d : Nat) => Value.int .u32 (d : Int)
theorem cs32_length (l : List Nat) : (cs32 l).length = l.length := by simp [cs32]
theorem cs32_get {l : List Nat} {i d : Nat} (h : l[i]? = some d) : (cs32 l)[i]? = some (.int .u32 (d : Int)) := by simp [cs32, h]

def TrimPost (w : World) (v : Value) (ds : List Nat) (e : Ending) (w' : World) : Prop :=
  w = w' ∧ ∃ v', e = .returned v' ∧ Row w v' (tz ds).length (cs32 (tz ds))

set_option maxHeartbeats 400000 in
theorem trim_any (ds : List Nat) (v : Value) (w : World) (h : Row w v ds.length (cs32 ds)) :
    Calls Try.prog 74 #[v] w (TrimPost w v ds) := by
  rcases h with ⟨rfl, h1, h2⟩ | ⟨b, off, cap, rfl, h1, h2, h3, h4⟩
  · have hd : ds = [] := List.length_eq_zero_iff.1 h1
    subst hd
    clear h1 h2
    go_enter Try.func74, Try.ntmps74
    go_wp2
    go_loop [0] (fun x => x = .slice none 0 0) (fun _ => 0)
    case atStart => rfl
    case round =>
      subst hrel
      go_wp2
      go_ret
      exact ⟨rfl, .slice none 0 0, rfl, Row.nil w⟩
  · unfold maxLen at h2
    have hlen : ds.length ≤ 9223372036854775807 := by omega
    go_enter Try.func74, Try.ntmps74
    go_wp2
    go_loop [0] (fun x => ∃ k : Nat, k ≤ ds.length ∧ x = .slice (some ⟨b, off, none⟩) k cap ∧ tz (ds.take k) = tz ds) (fun x => match x with | .slice _ k _ => k | _ => 0)
    case atStart => exact ⟨ds.length, Nat.le_refl _, rfl, by simp⟩
    case round =>
      obtain ⟨k, hk, rfl, he⟩ := hrel
      have HE := Lib.hid he; clear he
      cases k with
      | zero =>
        go_wp2
        go_ret
        refine ⟨rfl, .slice (some ⟨b, off, none⟩) 0 cap, rfl, ?_⟩
        rw [← HE.out]
        exact .inr ⟨b, off, cap, rfl, by simp [tz], h2, h3, by simp [tz, cs32]⟩
      | succ k =>
        have hget : ds[k]? = some (ds[k]'(by omega)) := List.getElem?_eq_getElem _
        obtain ⟨d, hd⟩ : ∃ d, d = ds[k]'(by omega) := ⟨_, rfl⟩
        rw [← hd] at hget; clear hd
        have hcell : w.cell? ⟨b, off + k, none⟩ = some (.int .u32 (d : Int)) := h4 k _ (cs32_get hget)
        have HG := Lib.hid hget; clear hget
        have H4 := Lib.hid h4; clear h4
        by_cases h0 : d = 0
        · subst h0
          go_wp2
          go_round
          case rel => exact ⟨k, by omega, rfl, by rw [← HE.out, List.take_add_one, HG.out]; simp [tz_snoc_zero]⟩
          case measure => simp
        · have hz : ((d : Int) == 0) = false := by simp; omega
          go_wp2
          go_ret
          refine ⟨rfl, .slice (some ⟨b, off, none⟩) (k + 1) cap, rfl, ?_⟩
          have e : tz ds = ds.take (k + 1) := by rw [← HE.out, List.take_add_one, HG.out]; simp [tz_snoc_pos _ _ h0]
          rw [e]
          exact .inr ⟨b, off, cap, by rw [List.length_take, Nat.min_eq_left hk], by rw [List.length_take]; omega, h2, h3, fun j u hu => H4.out j u (by
            simp only [cs32, List.map_take, List.getElem?_take] at hu
            split at hu
            · exact hu
            · cases hu)⟩
end Go.Proofs.Ytadibbbaegbljaa
