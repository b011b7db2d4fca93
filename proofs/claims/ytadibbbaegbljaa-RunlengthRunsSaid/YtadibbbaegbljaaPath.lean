/- groovelaw17.path: the sets that a word leads to. -/
import Derived.Test.YtadibbbaegbljaaStep
import Derived.Deep.QuietTactic
import Derived.Deep.RegionHeld3
namespace Go.Proofs.Ytadibbbaegbljaa
open Go.RowKit

theorem step_any (L S label : Int) (es : List E3) (v vs : Value) (set : List Int) (w : World) (hes : Row w v es.length (ce es)) (hset : Row w vs set.length (ci set)) (hok : okEs es) (hchk : chk L S es = 0) (hs : IsSet S set) (hl : 0 ≤ label ∧ label < L) :
    Calls Try.prog 57 #[.agg #[.int .i64 L, .int .i64 S, v], vs, .int .i64 label] w (StepRet w (stepR es label set)) :=
  callsIn_wide.1 (step_in L S label es v vs set w hes hset hok hchk hs hl)
def rangeI (n : Nat) : List Int := (List.range n).map fun (x : Nat) => (x : Int)
theorem rangeI_length (n : Nat) : (rangeI n).length = n := by simp [rangeI]
theorem rangeI_succ (n : Nat) : rangeI (n + 1) = rangeI n ++ [(n : Int)] := by simp [rangeI, List.range_succ]
theorem mem_rangeI {n : Nat} {x : Int} : x ∈ rangeI n ↔ 0 ≤ x ∧ x < n := by
  unfold rangeI
  rw [List.mem_map]
  constructor
  · rintro ⟨y, hy, rfl⟩; have := List.mem_range.1 hy; omega
  · rintro ⟨h1, h2⟩; exact ⟨x.toNat, List.mem_range.2 (by omega), by omega⟩
theorem rangeI_set (n : Nat) : IsSet n (rangeI n) := by
  refine ⟨fun s hs => mem_rangeI.1 hs, ?_⟩
  unfold rangeI
  rw [List.pairwise_map]
  exact List.pairwise_lt_range.imp (by omega)
def lblC (c : UInt8) : Int := (c.toNat : Int) - 48
/-- The set behind a word. -/
def pfold (es : List E3) : List UInt8 → List Int → List Int
  | [], set => set
  | c :: t, set => pfold es t (stepR es (lblC c) set)
theorem pfold_snoc (es : List E3) (c : UInt8) : ∀ (l : List UInt8) (set : List Int), pfold es (l ++ [c]) set = stepR es (lblC c) (pfold es l set)
  | [], set => rfl
  | d :: t, set => by rw [List.cons_append, pfold, pfold_snoc es c t, pfold]
theorem chkL_range {L S : Int} : ∀ {es : List E3} {p : Option E3}, chkL L S p es = 0 → ∀ e ∈ es, ¬ edgeBad L S e
  | [], _, _ => fun e he => by cases he
  | e :: r, p, h => by
    by_cases hb : edgeBad L S e
    · rw [chk_bad hb] at h; cases h
    · have h2 : chkL L S (some e) r = 0 := by
        cases p with
        | none => rw [chkL, if_neg hb] at h; exact h
        | some q =>
          rw [chkL, if_neg hb] at h
          split at h
          · cases h
          · exact h
      intro e' he'
      rcases List.mem_cons.1 he' with rfl | he'
      · exact hb
      · exact chkL_range h2 e' he'
theorem chk_range {L S : Int} {es : List E3} (h : chk L S es = 0) : ∀ e ∈ es, ¬ edgeBad L S e := by
  unfold chk at h
  split at h
  · cases h
  · split at h
    · cases h
    · split at h
      · cases h
      · exact chkL_range h
theorem stepR_set {L S : Int} {es : List E3} (h : chk L S es = 0) (label : Int) (set : List Int) : IsSet S (stepR es label set) := by
  refine ⟨fun t ht => ?_, stepR_sorted _ _ _⟩
  obtain ⟨e, he, _, _, rfl⟩ := mem_stepR.1 ht
  have := chk_range h e he
  unfold edgeBad at this
  omega
theorem pfold_set {L S : Int} {es : List E3} (h : chk L S es = 0) : ∀ (l : List UInt8) (set : List Int), IsSet S set → IsSet S (pfold es l set)
  | [], _, hs => hs
  | c :: t, set, _ => pfold_set h t _ (stepR_set h (lblC c) set)

set_option maxRecDepth 100000 in
set_option maxHeartbeats 1600000 in
theorem path_any (S : Nat) (es : List E3) (v : Value) (s : ByteArray) (w : World) (hes : Row w v es.length (ce es)) (hok : okEs es) (hchk : chk 2 S es = 0) (hS : S ≤ 64) (hs : s.size ≤ 1000000) (hw : ∀ c ∈ s.data.toList, c = 48 ∨ c = 49) :
    Calls Try.prog 32 #[.agg #[.int .i64 2, .int .i64 (S : Int), v], .string s] w (Ret w (.bool (decide (0 < (pfold es s.data.toList (rangeI S)).length)))) := by
  have hb0 := Blk.new w 46 [.int .i64 2, .int .i64 (S : Int), v]
  have c1 := hb0.cell (j := 1) rfl
  have HB0 := Lib.hid hb0; clear hb0
  have HR := Lib.hid (hes.below ((Below.refl w.heap.size w).alloc (Nat.le_refl _) (.cells #[.int .i64 2, .int .i64 (S : Int), v] 46)) (Nat.le_refl _)); clear hes
  have HCH := Lib.hid hchk; clear hchk
  have HW := Lib.hid hw; clear hw
  obtain ⟨i0, hi, hz0, hz1', hz2'⟩ := info_parts infoIntI
  go_enter Try.func32, Try.ntmps32
  go_wp2_with fail
  clear c1
  go_loopw [5, 12] (fun u i wr => ∃ m : Nat, m ≤ S ∧ i = .int .i64 m ∧ wr.ownsRow (w.heap.size + 1) 3 1 u m (ci (rangeI m)) ∧ Below (w.heap.size + 1) (w.alloc (.cells #[.int .i64 2, .int .i64 (S : Int), v] 46)) wr) (fun _ i _ => S - (intOf i).toNat)
  case atStart => exact ⟨0, by omega, rfl, World.ownsRow_nil _ _ _ _, Below.refl _ _⟩
  case round =>
    obtain ⟨m, hm, rfl, hown, hbel⟩ := hrel
    have hsz : w.heap.size + 1 ≤ wr.heap.size := by have := hbel.size; simp at this; omega
    obtain ⟨a, cap, rfl⟩ := own_slice hown
    have HO := Lib.hid hown; clear hown
    have HB := Lib.hid hbel; clear hbel
    by_cases hlt : m < S
    · have hci : ci (rangeI (m + 1)) = ci (rangeI m) ++ [.int .i64 (m : Int)] := by rw [rangeI_succ]; simp [ci]
      have HCI := Lib.hid hci; clear hci
      go_wp2_with (at_builtin; refine wpList_append_lies _ rfl (.tmp 15) (.tmp 17) 79 rfl (w.heap.size + 1) 3 i0 _ 1 8 Try.underlying79 hi hz0 hz1' hz2' rfl (by decide) _ _ _ rfl (HO.out.alloc _) _ 1 1 [.int .i64 (m : Int)] rfl rfl (World.news_of_block (heap_alloc_new _ _)) (by simp [Value.oneCell']) (by omega) (by unfold maxLen; omega) (by omega) (by simp; omega) _ rfl ?_; intro g cap' w3 hown' hg hat hlt'; have HG := Lib.hid hg; clear hg; have HO4 := Lib.hid hown'; clear hown'; have HAT := Lib.hid hat; clear hat)
      go_roundw
      case rel => exact ⟨m + 1, by omega, by go_num, by rw [HCI.out]; exact HO4.out, (HB.out.alloc hsz _).grown HG.out (by simp; omega) (fun j hj => (HO.out.lt j hj).1)⟩
      case measure => simp [intOf]; omega
    · obtain rfl : m = S := by omega
      have hrw := own_row HO.out
      have HRW := Lib.hid hrw; clear hrw
      have hset := rangeI_set m
      have HST := Lib.hid hset; clear hset
      obtain ⟨wo, rfl⟩ : ∃ wo : World, wo = wr := ⟨_, rfl⟩
      go_wp2_with fail
      go_loopw [5, 22] (fun u i wr => ∃ (n : Nat), n ≤ s.size ∧ i = .int .i64 n ∧ Row wr u (pfold es (s.data.toList.take n) (rangeI m)).length (ci (pfold es (s.data.toList.take n) (rangeI m))) ∧ Below wo.heap.size wo wr) (fun _ i _ => s.size - (intOf i).toNat)
      case atStart => exact ⟨0, Nat.zero_le _, rfl, by simpa [pfold, rangeI_length] using HRW.out, Below.refl _ _⟩
      case round =>
        obtain ⟨n, hn, rfl, hrow, hbel⟩ := hrel
        obtain ⟨b, cp, rfl, hcp⟩ := hrow.slice
        by_cases hlt2 : n < s.size
        · have hcw := HW.out (s[n]) (by
            have : s[n] = s.data.toList[n]'(by rw [bytes_size]; exact hlt2) := rfl
            rw [this]; exact List.getElem_mem _)
          obtain ⟨lb, hlb⟩ : ∃ lb, lb = lblC s[n] := ⟨_, rfl⟩
          have hlb2 : 0 ≤ lb ∧ lb < 2 := by rw [hlb]; unfold lblC; rcases hcw with h | h <;> rw [h] <;> decide
          have hwr : IntKind.u8.wrap ((s[n].toNat : Int) - 48) = lb := by rw [hlb]; unfold lblC; rcases hcw with h | h <;> rw [h] <;> rfl
          obtain ⟨hlb0, hlb1⟩ := hlb2
          have hpf : pfold es (s.data.toList.take (n + 1)) (rangeI m) = stepR es lb (pfold es (s.data.toList.take n) (rangeI m)) := by
            rw [List.take_succ_eq_append_getElem (by rw [bytes_size]; exact hlt2), pfold_snoc, hlb]; rfl
          have hYs := pfold_set HCH.out (s.data.toList.take n) (rangeI m) HST.out
          obtain ⟨Y, hY⟩ : ∃ Y, Y = pfold es (s.data.toList.take n) (rangeI m) := ⟨_, rfl⟩
          rw [← hY] at hrow hpf hYs ⊢
          clear hY hlb hcw
          have hbr : Below w.heap.size (w.alloc (.cells #[.int .i64 2, .int .i64 (m : Int), v] 46)) wr := (HB.out.mono (by omega)).trans (hbel.mono (by omega))
          have hbg := (HB0.out.below HB.out (by omega)).keep hbel
          have g0 := hbg.cell (j := 0) rfl
          have g1 := hbg.cell (j := 1) rfl
          have g2 := hbg.cell (j := 2) rfl
          have hre := (HR.out.below HB.out (by simp)).below hbel (Nat.le_refl _)
          have hstep := fun w' h1 h2 => step_any 2 m lb es v (.slice b Y.length cp) Y w' h1 h2 hok HCH.out hYs ⟨hlb0, hlb1⟩
          have HBG := Lib.hid hbg; clear hbg
          have HRE := Lib.hid hre; clear hre
          have HROW := Lib.hid hrow; clear hrow
          have HSTEP := Lib.hid hstep; clear hstep
          have HPF := Lib.hid hpf; clear hpf
          have HBL := Lib.hid hbel; clear hbel
          clear hbr hYs
          have hwr2 : IntKind.i64.wrap lb = lb := IntWalk.i64_in _ (by omega)
          go_wp2_with fail
          go_region_held3 (fun w' => w'.cell? ⟨w.heap.size, 0, none⟩ = some (.int .i64 2) ∧ w'.cell? ⟨w.heap.size, 1, none⟩ = some (.int .i64 (m : Int)) ∧ w'.cell? ⟨w.heap.size, 2, none⟩ = some v) (go_keep) (first | (go_at_call 57; ((with_reducible refine (HSTEP.out _ HRE.out.drew HROW.out.drew).mono ?_)); rintro e w4 ⟨hq, vn, rfl, hrn⟩; have hbA := HBG.out.drew.keep hq; have a0 := hbA.cell (j := 0) rfl; have a1 := hbA.cell (j := 1) rfl; have a2 := hbA.cell (j := 2) rfl; clear hbA; have HQ := Lib.hid hq; clear hq; have HRN := Lib.hid hrn; clear hrn))
          go_wp2_with fail
          go_roundw
          case rel => exact ⟨n + 1, by omega, by go_num, by rw [HPF.out]; exact HRN.out, HBL.out.drew.trans (HQ.out.mono HBL.out.size)⟩
          case measure => simp [intOf]; omega
        · have hnl : s.data.toList.take n = s.data.toList := List.take_of_length_le (by rw [bytes_size]; omega)
          have hbb : Below w.heap.size w wr := ((((Below.refl w.heap.size w).alloc (Nat.le_refl _) (.cells #[.int .i64 2, .int .i64 (m : Int), v] 46)).trans (HB.out.mono (by omega))).trans (hbel.mono (by omega)))
          have HBB := Lib.hid hbb; clear hbb
          rw [hnl] at hrow ⊢
          obtain ⟨Y, hY⟩ : ∃ Y, Y = pfold es s.data.toList (rangeI m) := ⟨_, rfl⟩
          rw [← hY] at hrow ⊢
          have HROW := Lib.hid hrow; clear hrow hnl
          have HY := Lib.hid hY; clear hY
          have HBL := Lib.hid hbel; clear hbel
          go_wp2_with fail
          go_ret
          exact ⟨HBB.out, by rw [HY.out]; first | rfl | simp⟩
end Go.Proofs.Ytadibbbaegbljaa
