/- slices.Equal and slices.Clone at edges. -/
import Derived.Test.YtadibbbaegbljaaEdgeA
import Derived.Test.YtadibbbaegbljaaCheck
import Derived.Laws.StructEq
namespace Go.Proofs.Ytadibbbaegbljaa
open Go.RowKit

set_option maxRecDepth 100000 in
set_option maxHeartbeats 1600000 in
/-- slices.Equal at edges. -/
theorem eqEdges_any (s t : List E3) (vs vt : Value) (w : World) (hs : Row w vs s.length (ce s)) (ht : Row w vt t.length (ce t)) :
    Calls Try.prog 38 #[vs, vt] w (Ret w (.bool (decide (s = t)))) := by
  obtain ⟨a_s, cs, rfl, hls⟩ := hs.slice
  obtain ⟨a_t, ct, rfl, hlt⟩ := ht.slice
  have HS := Lib.hid hs; clear hs
  have HT := Lib.hid ht; clear ht
  by_cases hl : s.length = t.length
  · obtain ⟨n, hn⟩ : ∃ n, n = s.length := ⟨_, rfl⟩
    rw [← hl, ← hn] at HT hlt
    rw [← hn] at HS hls
    rw [← hl, ← hn]
    rw [← hn] at hl
    have HN := Lib.hid hn; clear hn
    have HL := Lib.hid hl; clear hl
    have hne : ((n : Int) != n) = false := by simp
    go_enter Try.func38, Try.ntmps38
    go_wp2_with fail
    go_loopw [13] (fun i wr => ∃ k : Nat, k ≤ n ∧ i = .int .i64 k ∧ Below w.heap.size w wr ∧ decide (s = t) = decide (s.drop k = t.drop k)) (fun i _ => n - (intOf i).toNat)
    case atStart => exact ⟨0, Nat.zero_le _, rfl, Below.refl _ _, rfl⟩
    case round =>
      obtain ⟨k, hk, rfl, hbel, he⟩ := hrel
      have HB := Lib.hid hbel; clear hbel
      by_cases hlt2 : k < n
      · have g1 : s[k]? = some (s[k]'(by rw [← HN.out]; exact hlt2)) := List.getElem?_eq_getElem _
        obtain ⟨x, hx⟩ : ∃ x, x = s[k]'(by rw [← HN.out]; exact hlt2) := ⟨_, rfl⟩
        rw [← hx] at g1; clear hx
        have g2 : t[k]? = some (t[k]'(by rw [← HL.out]; exact hlt2)) := List.getElem?_eq_getElem _
        obtain ⟨y, hy⟩ : ∃ y, y = t[k]'(by rw [← HL.out]; exact hlt2) := ⟨_, rfl⟩
        rw [← hy] at g2; clear hy
        obtain ⟨b1, o1, rfl, hb1, hc1⟩ := HS.out.at_ (by omega)
        obtain ⟨b2, o2, rfl, hb2, hc2⟩ := HT.out.at_ (by omega)
        obtain ⟨p0, p1, p2⟩ := edge_cells hc1 HB.out hb1 g1
        obtain ⟨q0, q1, q2⟩ := edge_cells hc2 HB.out hb2 g2
        clear hc1 hc2
        rw [drop_get g1, drop_get g2] at he
        have hneq := neq_edge x y
        by_cases hxy : x = y
        · have hd : (decide (x = y)) = true := by simp [hxy]
          rw [hd] at hneq
          have he2 : decide (s = t) = decide (s.drop (k + 1) = t.drop (k + 1)) := by rw [he, hxy]; simp
          have HE := Lib.hid he2; clear he2 he hd g1 g2
          have HXY := Lib.hid hxy; clear hxy
          go_wp2_with fail
          go_quiet (fail)
          go_wp2_with fail
          go_roundw
          case rel => exact ⟨k + 1, by omega, by go_num, below_drewN HB.out _, HE.out⟩
          case measure => simp [intOf]; omega
        · have hd : (decide (x = y)) = false := by simp [hxy]
          rw [hd] at hneq
          have he2 : decide (s = t) = false := by rw [he]; simp [hxy]
          have HE := Lib.hid he2; clear he2 he hd g1 g2
          have HXY := Lib.hid hxy; clear hxy
          go_wp2_with fail
          go_quiet (fail)
          go_wp2_with fail
          go_ret
          exact ⟨below_drewN HB.out _, by rw [HE.out]; rfl⟩
      · have e1 : s.drop k = [] := List.drop_of_length_le (by rw [← HN.out]; omega)
        have e2 : t.drop k = [] := List.drop_of_length_le (by rw [← HL.out]; omega)
        rw [e1, e2] at he
        have HE := Lib.hid he; clear he e1 e2
        go_wp2_with fail
        go_ret
        exact ⟨HB.out, by rw [HE.out]; rfl⟩
  · have hd : decide (s = t) = false := by rw [decide_eq_false_iff_not]; intro e; rw [e] at hl; exact hl rfl
    have HD := Lib.hid hd; clear hd
    obtain ⟨m, hm⟩ : ∃ m, m = s.length := ⟨_, rfl⟩
    obtain ⟨n, hn⟩ : ∃ n, n = t.length := ⟨_, rfl⟩
    rw [← hm, ← hn] at hl
    rw [← hm] at hls
    rw [← hn] at hlt
    have hne : ((m : Int) != n) = true := by simp; omega
    rw [← hm, ← hn]
    clear hm hn HS HT hl
    go_enter Try.func38, Try.ntmps38
    go_wp2_with fail
    go_ret
    exact ⟨Below.refl _ _, by rw [HD.out]; rfl⟩
theorem infoEdge : (Try.prog.info? 60).map (fun i => (i.zero, i.size, i.bytes)) = some (some (.agg #[.int .i64 0, .int .i64 0, .int .i64 0]), 3, 24) := by kernel_rfl

/-- What slices.Clone at edges returns: a slice of its own. -/
def CloneRet (w : World) (es : List E3) (e : Ending) (w' : World) : Prop :=
  Below w.heap.size w w' ∧ ∃ v, e = .returned v ∧ w'.ownsRow w.heap.size 60 3 v es.length (ce es)
set_option maxRecDepth 100000 in
set_option maxHeartbeats 1600000 in
theorem cloneEdges_any (es : List E3) (v : Value) (w : World) (hr : Row w v es.length (ce es)) (hlen : es.length ≤ 1000000000) :
    Calls Try.prog 90 #[v] w (CloneRet w es) := by
  rcases hr with ⟨rfl, h1, h2⟩ | ⟨b, off, cap, rfl, h1, h2, h3, h4⟩
  · have hd : es = [] := List.length_eq_zero_iff.1 h1
    subst hd
    clear h1 h2
    have hnil := fun (wx : World) => Lib.run_eql_slice_nil (P := Try.prog) wx 44 60 none 0 0 0 0 Try.underlying44
    simp only [Option.isNone_none] at hnil
    go_enter Try.func90, Try.ntmps90
    go_wp2_with fail
    go_ret
    exact ⟨Below.refl _ _, .slice none 0 0, rfl, World.ownsRow_nil _ _ _ _⟩
  · have hnil := fun (wx : World) => Lib.run_eql_slice_nil (P := Try.prog) wx 44 60 (some ⟨b, off, none⟩) es.length cap 0 0 Try.underlying44
    simp only [Option.isNone_some] at hnil
    obtain ⟨i0, hi, hz0, hz1, hz2⟩ := info_parts infoEdge
    have hm0 := World.ownsRow_made w (#[] : Array Value) 0 (base := w.heap.size) (e := 60) (size := 3) (Nat.le_refl _) (Nat.zero_le _) rfl
    have hc : ∀ (j : Nat) (u : Value), (ce es)[j]? = some u → (w.alloc (.cells #[] 60)).cell? ((⟨b, off, none⟩ : Addr).add j) = some u := by
      intro j u hu
      have e : (⟨b, off, none⟩ : Addr).add j = ⟨b, off + j, none⟩ := by
        unfold Addr.add
        split
        · rename_i h0; subst h0; rfl
        · rfl
      rw [e, below_new w _ h3]; exact h4 j u hu
    have h1c : ∀ u ∈ ce es, u.oneCell' = true := by
      intro u hu
      simp only [ce, List.mem_flatMap] at hu
      obtain ⟨e, _, hu⟩ := hu
      simp only [E3.cells, List.mem_cons, List.not_mem_nil, or_false] at hu
      rcases hu with rfl | rfl | rfl <;> rfl
    have hcl := ce_length es
    have HM0 := Lib.hid hm0; clear hm0
    have HC := Lib.hid hc; clear hc
    have H1C := Lib.hid h1c; clear h1c
    have HCL := Lib.hid hcl; clear hcl
    clear h4
    go_enter Try.func90, Try.ntmps90
    go_wp2_with (at_builtin; refine wpList_append_own _ rfl (.tmp 5) (.tmp 6) 44 rfl w.heap.size 60 i0 _ 3 24 Try.underlying44 hi hz0 hz1 hz2 rfl (by decide) _ _ _ rfl HM0.out _ _ _ (ce es) rfl HCL.out HC.out H1C.out (by unfold maxLen; omega) (by omega) (by simp) ?_; intro v' w1 hown hg hnn)
    rw [Nat.zero_add, List.nil_append] at hown
    have HO := Lib.hid hown; clear hown
    have HG := Lib.hid hg; clear hg
    clear hnn
    go_wp2_with fail
    go_ret
    exact ⟨((Below.refl w.heap.size w).alloc (Nat.le_refl _) _).grown HG.out (by simp) (fun k hk => by cases hk; exact Nat.le_refl _), v', rfl, HO.out⟩
end Go.Proofs.Ytadibbbaegbljaa
