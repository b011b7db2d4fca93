/- Plain laws for RunlengthGreatest. -/
import Derived.Test.YtadibbbaegbljaaLaw
namespace Go.Proofs.Ytadibbbaegbljaa
open Go.RowKit

theorem vgo_take (d k : Int) : ∀ (l : List UInt8) (i : Nat) (run : Int) (bg : Bool) (m : Nat), vgo d k l i run bg = i + m → m ≤ l.length →
    vgo d k (l.take m) i run bg = i + m ∧ (m < l.length → vgo d k (l.take (m + 1)) i run bg = i + m)
  | [], i, run, bg, m, h, hm => by
    have : m = 0 := by simpa using hm
    subst this
    simp [vgo]
  | c :: t, i, run, bg, m, h, hm => by
    rw [vgo] at h
    by_cases hc : c = 48
    · rw [if_pos hc] at h
      by_cases hv : 0 ≤ k ∧ k < run + 1
      · rw [if_pos hv] at h
        have : m = 0 := by omega
        subst this
        refine ⟨by simp [vgo], fun _ => ?_⟩
        simp only [Nat.zero_add, List.take_succ_cons, List.take_zero, vgo]
        rw [if_pos hc, if_pos hv]; rfl
      · rw [if_neg hv] at h
        have hge := (vgo_le d k t (i + 1) (run + 1) bg).1
        obtain ⟨m', rfl⟩ : ∃ m', m = m' + 1 := ⟨m - 1, by omega⟩
        have ih := vgo_take d k t (i + 1) (run + 1) bg m' (by omega) (by simp at hm; omega)
        refine ⟨?_, fun hl => ?_⟩
        · simp only [List.take_succ_cons, vgo]
          rw [if_pos hc, if_neg hv, ih.1]; omega
        · simp only [List.take_succ_cons, vgo]
          rw [if_pos hc, if_neg hv, ih.2 (by simp at hl; omega)]; omega
    · rw [if_neg hc] at h
      by_cases hv : bg = true ∧ run < d
      · rw [if_pos hv] at h
        have : m = 0 := by omega
        subst this
        refine ⟨by simp [vgo], fun _ => ?_⟩
        simp only [Nat.zero_add, List.take_succ_cons, List.take_zero, vgo]
        rw [if_neg hc, if_pos hv]; rfl
      · rw [if_neg hv] at h
        have hge := (vgo_le d k t (i + 1) 0 true).1
        obtain ⟨m', rfl⟩ : ∃ m', m = m' + 1 := ⟨m - 1, by omega⟩
        have ih := vgo_take d k t (i + 1) 0 true m' (by omega) (by simp at hm; omega)
        refine ⟨?_, fun hl => ?_⟩
        · simp only [List.take_succ_cons, vgo]
          rw [if_neg hc, if_neg hv, ih.1]; omega
        · simp only [List.take_succ_cons, vgo]
          rw [if_neg hc, if_neg hv, ih.2 (by simp at hl; omega)]; omega

theorem ofK_pair (a b : Int) : pairB (ofD a) (ofK a b) = true := by
  unfold pairB ofD ofK
  split <;> simp <;> omega
theorem rchk_word {d k : Int} {l : List UInt8} (hp : pairB d k = true) (hl : l.length ≤ 65536) (hw : ∀ c ∈ l, c = 48 ∨ c = 49) : rchk d k l = 0 := by
  rw [rchk, if_pos hp, wchk, if_neg (by omega), if_neg (by omega), if_pos]
  rw [List.all_eq_true]
  intro c hc
  rcases hw c hc with rfl | rfl <;> decide
theorem IsWord.len {s : ByteArray} (h : IsWord s) : s.data.toList.length ≤ 65536 := by have := h.1; rw [bytes_size]; omega
theorem ext_list (s : ByteArray) (n : Nat) : (s.extract 0 n).data.toList = s.data.toList.take n := by
  simp [ByteArray.data_extract]
theorem ext_list2 (s : ByteArray) (m n : Nat) : (s.extract m n).data.toList = (s.data.toList.take n).drop m := by
  simp [ByteArray.data_extract, List.drop_take]
theorem IsWord.ext {s : ByteArray} (h : IsWord s) (m n : Nat) : IsWord (s.extract m n) := by
  refine ⟨?_, ?_⟩
  · have := h.1
    rw [ByteArray.size_extract]; omega
  · intro c hc
    rw [ext_list2] at hc
    exact h.2 c (List.mem_of_mem_take (List.mem_of_mem_drop hc))
theorem validR_word {d k : Int} {s : ByteArray} (hp : pairB d k = true) (hw : IsWord s) : validR d k s.data.toList = okW d k s.data.toList := by
  rw [validR, rchk_word hp hw.len hw.2]; rfl

theorem beq_bytes (a b : ByteArray) : (a == b) = decide (a = b) := by
  rw [beq_toListBytes, ByteArray.toList_eq, ByteArray.toList_eq]
  by_cases h : a = b
  · subst h; simp
  · have : ¬ a.data = b.data := fun e => h (ByteArray.ext e)
    simp [h, this]
theorem bne_bytes (a b : ByteArray) : (a != b) = !decide (a = b) := by rw [bne, beq_bytes]
/-- What the law RunlengthGreatest needs of Greatest's result. -/
theorem greatest_facts {d k : Int} {s : ByteArray} (hp : pairB d k = true) (hw : IsWord s) :
    (greatestS d k s).size ≤ s.size ∧ s.extract 0 (greatestS d k s).size = greatestS d k s ∧ IsWord (greatestS d k s) ∧ validR d k (greatestS d k s).data.toList = true ∧
    ((greatestS d k s).size < s.size → validR d k (s.extract 0 ((greatestS d k s).size + 1)).data.toList = false) := by
  have hr : rchk d k s.data.toList = 0 := rchk_word hp hw.len hw.2
  have hg : greatestS d k s = s.extract 0 (vlen d k s.data.toList) := if_pos hr
  have hle := vlen_le d k s.data.toList
  obtain ⟨h1, h2⟩ := vgo_take d k s.data.toList 0 0 false (vlen d k s.data.toList) (by unfold vlen; omega) hle
  have hb := bytes_size s
  have hsz : (greatestS d k s).size = vlen d k s.data.toList := by rw [hg, ByteArray.size_extract]; omega
  have hW : IsWord (greatestS d k s) := by rw [hg]; exact hw.ext 0 _
  refine ⟨by omega, by rw [hsz, hg], hW, ?_, fun hlt => ?_⟩
  · rw [validR_word hp hW, hg, okW, ext_list]
    rw [List.length_take, Nat.min_eq_left hle]
    unfold vlen at h1 ⊢
    rw [h1]; simp
  · rw [validR_word hp (hw.ext 0 _), okW, ext_list, List.length_take, hsz]
    have h3 := h2 (by omega)
    rw [Nat.zero_add] at h3
    have h4 : vlen d k (s.data.toList.take (vlen d k s.data.toList + 1)) = vlen d k s.data.toList := h3
    rw [h4, hb, beq_eq_false_iff_ne]
    omega
end Go.Proofs.Ytadibbbaegbljaa
