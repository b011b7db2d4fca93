/- runs.split and runs.Longest. -/
import Derived.Test.YtadibbbaegbljaaGrp
import Derived.Test.YtadibbbaegbljaaReverse
import Derived.Test.YtadibbbaegbljaaPlainG
namespace Go.Proofs.Ytadibbbaegbljaa
open Go.RowKit

def expand : List (UInt8 × Nat) → List UInt8
  | [] => []
  | x :: r => List.replicate x.2 x.1 ++ expand r
theorem expand_runsOf : ∀ (L : List UInt8), expand (runsOf L) = L
  | [] => rfl
  | c :: t => by
    have ih := expand_runsOf t
    rw [runsOf]
    cases hr : runsOf t with
    | nil => rw [hr] at ih; rw [← ih]; rfl
    | cons y r =>
      obtain ⟨d, n⟩ := y
      rw [hr] at ih
      simp only []
      by_cases h : c = d
      · subst h; rw [if_pos rfl, expand]; rw [expand] at ih; simp only [] at ih ⊢; rw [List.replicate_succ, List.cons_append, ih]
      · rw [if_neg h, expand, ih]; rfl
theorem runsOf_pos : ∀ (L : List UInt8), ∀ x ∈ runsOf L, 1 ≤ x.2
  | [], x, h => by cases h
  | c :: t, x, h => by
    have ih := runsOf_pos t
    rw [runsOf] at h
    cases hr : runsOf t with
    | nil => rw [hr] at h; simp at h; rw [h]; exact Nat.le_refl _
    | cons y r =>
      obtain ⟨d, n⟩ := y
      rw [hr] at h ih
      simp only [] at h
      split at h
      · rcases List.mem_cons.1 h with rfl | h
        · exact Nat.le_add_left _ _
        · exact ih x (by simp [h])
      · rcases List.mem_cons.1 h with rfl | h
        · exact Nat.le_refl _
        · exact ih x h
theorem expand_append : ∀ (a b : List (UInt8 × Nat)), expand (a ++ b) = expand a ++ expand b
  | [], b => rfl
  | x :: r, b => by rw [List.cons_append, expand, expand_append r b, expand, List.append_assoc]
theorem expand_length : ∀ (a : List (UInt8 × Nat)), (expand a).length = totR a
  | [] => rfl
  | x :: r => by rw [expand, List.length_append, expand_length r, List.length_replicate, totR]
theorem len_le_tot : ∀ (a : List (UInt8 × Nat)), (∀ x ∈ a, 1 ≤ x.2) → a.length ≤ totR a
  | [], _ => Nat.le_refl _
  | x :: r, h => by
    have h1 := h x (by simp)
    have h2 := len_le_tot r fun y hy => h y (by simp [hy])
    rw [List.length_cons, totR]; omega
/-- The first byte of a run. -/
theorem run_first {L : List UInt8} {d r : List (UInt8 × Nat)} {x : UInt8 × Nat} (h : runsOf L = d ++ x :: r) : L[totR d]? = some x.1 ∧ 1 ≤ x.2 ∧ x.2 ≤ L.length := by
  have h1 : 1 ≤ x.2 := runsOf_pos L x (by rw [h]; simp)
  have he := expand_runsOf L
  rw [h, expand_append, expand] at he
  refine ⟨?_, h1, ?_⟩
  · rw [← he, List.getElem?_append_right (by rw [expand_length]; exact Nat.le_refl _), expand_length, Nat.sub_self]
    obtain ⟨m, hm⟩ : ∃ m, x.2 = m + 1 := ⟨x.2 - 1, by omega⟩
    rw [hm, List.replicate_succ]; rfl
  · rw [← he]; simp; omega
theorem gv_get (b cap : Nat) (x : UInt8 × Nat) (r : List (UInt8 × Nat)) : ∀ (d : List (UInt8 × Nat)) (o : Nat), (gv b cap (d ++ x :: r) o)[d.length]? = some (.slice (some ⟨b, o + totR d, none⟩) x.2 (cap - (o + totR d)))
  | [], o => rfl
  | y :: d, o => by
    rw [List.cons_append, gv, List.length_cons, List.getElem?_cons_succ, gv_get b cap x r d, totR, Nat.add_assoc]
/-- The cells of runs. -/
def cr (l : List (UInt8 × Nat)) : List Value := l.flatMap fun x => [.int .i64 (lblC x.1), .int .i64 (x.2 : Int)]
theorem cr_append (a b : List (UInt8 × Nat)) : cr (a ++ b) = cr a ++ cr b := by simp [cr]
theorem cr_get (x : UInt8 × Nat) (r : List (UInt8 × Nat)) : ∀ (d : List (UInt8 × Nat)), (cr (d ++ x :: r))[2 * d.length]? = some (.int .i64 (lblC x.1)) ∧ (cr (d ++ x :: r))[2 * d.length + 1]? = some (.int .i64 (x.2 : Int))
  | [] => ⟨rfl, rfl⟩
  | y :: d => by
    have ih := cr_get x r d
    have e : cr (y :: d ++ x :: r) = .int .i64 (lblC y.1) :: .int .i64 (y.2 : Int) :: cr (d ++ x :: r) := rfl
    rw [e, List.length_cons, show 2 * (d.length + 1) = 2 * d.length + 1 + 1 by omega, List.getElem?_cons_succ, List.getElem?_cons_succ, List.getElem?_cons_succ, List.getElem?_cons_succ]
    exact ih
theorem infoRun : (Try.prog.info? 89).map (fun i => (i.zero, i.size, i.bytes)) = some (some (.agg #[.int .i64 0, .int .i64 0]), 2, 16) := by kernel_rfl
theorem idx_lbl {c : UInt8} (h : c = 48 ∨ c = 49) : Lib.indexByte (ByteArray.data ⟨#[48, 49, 50, 51, 52, 53, 54, 55, 56, 57, 97, 98, 99, 100, 101, 102]⟩).toList c = lblC c := by
  rcases h with rfl | rfl <;> decide
def SplitRet (w : World) (L : List UInt8) (e : Ending) (w' : World) : Prop := Below w.heap.size w w' ∧ ∃ v, e = .returned v ∧ Row w' v (runsOf L).length (cr (runsOf L))
set_option maxRecDepth 100000 in
set_option maxHeartbeats 3200000 in
theorem split_any (s : ByteArray) (w : World) (hs : s.size ≤ 1000000) (hw : ∀ c ∈ s.data.toList, c = 48 ∨ c = 49) :
    Calls Try.prog 61 #[.string s] w (SplitRet w s.data.toList) := by
  obtain ⟨i0, hi, hz0, hz1', hz2'⟩ := info_parts infoRun
  have hcv := run_bytes_of_string (P := Try.prog) w 9 29 5 s Try.underlying9 Try.underlying29 Try.underlying5
  have hge := grownCap_ge w s.size 0 5
  obtain ⟨cap, hcap⟩ : ∃ c, c = grownCap w s.size 0 5 := ⟨_, rfl⟩
  rw [← hcap] at hcv hge
  clear hcap
  have hh := bytes_holds w.drew s cap 5
  obtain ⟨L, hL⟩ : ∃ L, L = s.data.toList := ⟨_, rfl⟩
  have hLs : s.size = L.length := by rw [hL, bytes_size]
  rw [← hL] at hw hh ⊢
  have hs0 := ((Below.refl w.heap.size w).drew.alloc (Nat.le_refl _) (.cells (bytesRow s cap) 5 ((bytesRow s cap).size, (bytesRow s cap).size + 1)))
  have hba : BytesAt (w.drew.alloc (.cells (bytesRow s cap) 5 ((bytesRow s cap).size, (bytesRow s cap).size + 1))) w.heap.size L := fun q hq => by
    have h := (hh q (by simpa using hq)).1
    rw [Nat.zero_add] at h
    refine h.trans ?_
    rw [getElem!_pos _ q (by simpa using hq)]
    simp [encB]
  have hgr := grouped_any L w.heap.size s.size cap _ hLs hge hs (by simp) hba
  have hrl := runsOf_letters L hw
  have HBA := Lib.hid hba; clear hba hh
  have HGR := Lib.hid hgr; clear hgr
  have HS0 := Lib.hid hs0; clear hs0 hw
  have HRL := Lib.hid hrl; clear hrl hL
  have HLS := Lib.hid hLs; clear hLs
  go_enter Try.func61, Try.ntmps61
  go_wp2_with fail
  go_at_call 86
  refine HGR.out.mono ?_
  rintro e w2 ⟨hq, v, rfl, hrow⟩
  obtain ⟨a, cp, rfl, -⟩ := hrow.slice
  have hba2 := HBA.out.below hq (by simp)
  have hs2 := HS0.out.trans (hq.mono HS0.out.size)
  have hlt2 : w.heap.size < w2.heap.size := by have := hq.size; simp at this; omega
  have HBA2 := Lib.hid hba2; clear hba2
  have HS2 := Lib.hid hs2; clear hs2
  have HROW := Lib.hid hrow; clear hrow
  clear hq hcv
  obtain ⟨G, hG⟩ : ∃ G, G = (runsOf L).length := ⟨_, rfl⟩
  rw [← hG] at HROW ⊢
  have HG := Lib.hid hG; clear hG
  go_wp2_with fail
  go_loopw [3, 10] (fun u i wr => ∃ (j : Nat) (d r : List (UInt8 × Nat)), i = .int .i64 j ∧ runsOf L = d ++ r ∧ d.length = j ∧ j ≤ G ∧ wr.ownsRow w2.heap.size 89 2 u d.length (cr d) ∧ Below w2.heap.size w2 wr) (fun _ i _ => G - (intOf i).toNat)
  case atStart => exact ⟨0, [], runsOf L, rfl, rfl, rfl, Nat.zero_le _, World.ownsRow_nil _ _ _ _, Below.refl _ _⟩
  case round =>
    obtain ⟨j, d, r, rfl, hru, hdj, hjG, hown, hbel⟩ := hrel
    obtain ⟨oa, ocp, rfl⟩ := own_slice hown
    by_cases hlt : j < G
    · cases r with
      | nil => exact absurd (by rw [HG.out, hru, List.append_nil, hdj]) (Nat.ne_of_gt hlt)
      | cons x r =>
        have hrow := HROW.out
        rcases hrow with ⟨_, h0, _⟩ | ⟨gb, goff, gcp, hv, h1, h2, h3, h4⟩
        · omega
        · have hv1 : a = some ⟨gb, goff, none⟩ := by injection hv
          subst hv1
          clear hv
          obtain ⟨hf1, hf2, hf3⟩ := run_first hru
          have hcx := HRL.out x (by rw [hru]; simp)
          have hg := gv_get w.heap.size cap x r d 0
          rw [← hru, hdj, Nat.zero_add] at hg
          have hgc := (hbel.cell (p := ⟨gb, goff + j, none⟩) h3).trans (h4 j _ hg)
          have htl : totR d < L.length := by
            rcases Nat.lt_or_ge (totR d) L.length with h | h
            · exact h
            · rw [List.getElem?_eq_none h] at hf1; cases hf1
          have hby := (HBA2.out.below hbel hlt2) (totR d) htl
          rw [List.getElem?_eq_getElem htl] at hf1
          rw [Option.some.inj hf1] at hby
          obtain ⟨c, m⟩ := x
          simp only [] at hf2 hf3 hcx hg hgc hby
          obtain ⟨o, ho⟩ : ∃ o, o = totR d := ⟨_, rfl⟩
          rw [← ho] at hgc hby htl
          have hix := idx_lbl hcx
          have hc8 : ((c.toNat : Int)).toNat.toUInt8 = c := by simp
          have hdl : d.length ≤ 1000000 := by
            have h5 := len_le_tot d fun y hy => runsOf_pos L y (by rw [hru]; simp [hy])
            have h6 := HLS.out
            omega
          have hjb : j ≤ 1000000 := by omega
          have hsz := hbel.size
          have hru2 : runsOf L = (d ++ [(c, m)]) ++ r := by rw [hru, List.append_assoc]; rfl
          have hcr : cr (d ++ [(c, m)]) = cr d ++ [.int .i64 (lblC c), .int .i64 (m : Int)] := cr_append _ _
          have hlen : (d ++ [(c, m)]).length = d.length + 1 := by simp
          have HRU := Lib.hid hru2; clear hru2 hru
          have HCR := Lib.hid hcr; clear hcr
          have HLEN := Lib.hid hlen; clear hlen
          have HO := Lib.hid hown; clear hown
          have HB := Lib.hid hbel; clear hbel
          have HDJ := Lib.hid hdj; clear hdj
          clear hg hf1 ho hcx h4
          go_wp2_with (first | (go_at_call 85; refine (Try.strings_IndexByte _ _ _).mono ?_; rintro e w4 ⟨rfl, rfl⟩; rw [hc8, hix]) | (at_builtin; refine wpList_append_lies _ rfl (.tmp 14) (.tmp 22) 86 rfl w2.heap.size 89 i0 _ 2 16 Try.underlying86 hi hz0 hz1' hz2' rfl (by decide) _ _ _ rfl (HO.out.alloc _) _ 1 1 [.int .i64 (lblC c), .int .i64 (m : Int)] rfl rfl (World.news_of_block (heap_alloc_new _ _)) (by simp [Value.oneCell']) (by omega) (by unfold maxLen; omega) (by omega) (by simp; omega) _ rfl ?_; intro g cap' w3 hown' hg hat hlt'; have HGW := Lib.hid hg; clear hg; have HO4 := Lib.hid hown'; clear hown'; have HAT := Lib.hid hat; clear hat))
          go_roundw
          case rel => exact ⟨j + 1, d ++ [(c, m)], r, by go_num, HRU.out, by rw [HLEN.out, HDJ.out], by omega, by rw [HLEN.out, HCR.out]; exact HO4.out, (HB.out.alloc hsz _).grown HGW.out (by simp; omega) (fun j hj => (HO.out.lt j hj).1)⟩
          case measure => simp [intOf]; omega
    · have hr0 : r = [] := by
        have := HG.out
        rw [hru, List.length_append] at this
        exact List.length_eq_zero_iff.1 (by omega)
      subst hr0
      rw [List.append_nil] at hru
      have hrow := own_row hown
      have HROW2 := Lib.hid hrow; clear hrow
      have HRU := Lib.hid hru; clear hru
      have HB := Lib.hid hbel; clear hbel
      clear hown
      go_wp2_with fail
      go_ret
      exact ⟨HS2.out.trans (HB.out.mono HS2.out.size), _, rfl, by rw [HRU.out]; exact HROW2.out⟩
def longR (a : UInt8) (L : List UInt8) : Int := (longest a L : Int)
set_option maxRecDepth 100000 in
set_option maxHeartbeats 3200000 in
/-- runs.Longest at a word of two letters. -/
theorem longest_any (s : ByteArray) (z : UInt8) (w : World) (hs : s.size ≤ 65536) (hw : ∀ c ∈ s.data.toList, c = 48 ∨ c = 49) (hz : z = 48 ∨ z = 49) :
    Calls Try.prog 35 #[.string s, .int .i64 (lblC z)] w (Ret w (.tuple #[.int .i64 (longest z s.data.toList : Int), .int .i64 0])) := by
  have hsp := fun w' => split_any s w' (by omega) hw
  have hck : wchk 16 s.data.toList = 0 := by
    rw [wchk, if_neg (by decide), if_neg (by rw [bytes_size]; omega), if_pos]
    rw [List.all_eq_true]
    intro c hc
    rcases hw c hc with rfl | rfl <;> decide
  have hcw := fun w' => wcheck_any 16 s w' (by omega)
  rw [hck] at hcw
  have hrl := runsOf_letters s.data.toList hw
  have hlz : 0 ≤ lblC z ∧ lblC z < 2 := by rcases hz with rfl | rfl <;> decide
  have hinj : ∀ c : UInt8, (c = 48 ∨ c = 49) → ((lblC c == lblC z) = decide (c = z)) := by
    intro c hc
    rcases hc with rfl | rfl <;> rcases hz with rfl | rfl <;> decide
  obtain ⟨lz, hlzz⟩ : ∃ lz, lz = lblC z := ⟨_, rfl⟩
  rw [← hlzz] at hlz hinj ⊢
  obtain ⟨hlz0, hlz1⟩ := hlz
  have hdz0 : decide (lz < 0) = false := by simp; omega
  have hdz1 : decide (16 ≤ lz) = false := by simp; omega
  have hlong : longest z s.data.toList ≤ s.data.toList.length := by
    unfold longest
    rw [longF_le]
    refine ⟨Nat.zero_le _, fun x hx _ => ?_⟩
    obtain ⟨d, r, hdr⟩ := List.append_of_mem hx
    exact (run_first hdr).2.2
  have HSP := Lib.hid hsp; clear hsp
  have HCW := Lib.hid hcw; clear hcw hck hw
  have HRL := Lib.hid hrl; clear hrl
  have HINJ := Lib.hid hinj; clear hinj hlzz
  rw [bytes_size] at hlong
  have hrf : ∀ (d r : List (UInt8 × Nat)) (x : UInt8 × Nat), runsOf s.data.toList = d ++ x :: r → x.2 ≤ s.data.toList.length := fun d r x h => (run_first h).2.2
  rw [bytes_size] at hrf
  have HRF := Lib.hid hrf; clear hrf
  have hlf : ∀ (d r : List (UInt8 × Nat)), runsOf s.data.toList = d ++ r → longF z d 0 ≤ s.size := fun d r h => by
    rw [longF_le]
    refine ⟨Nat.zero_le _, fun x hx _ => ?_⟩
    obtain ⟨d1, d2, hd⟩ := List.append_of_mem hx
    rw [hd, List.append_assoc, List.cons_append] at h
    exact HRF.out _ _ _ h
  have HLF := Lib.hid hlf; clear hlf
  have hLn : longest z s.data.toList = longF z (runsOf s.data.toList) 0 := rfl
  have HLN := Lib.hid hLn; clear hLn
  obtain ⟨R, hR⟩ : ∃ R, R = runsOf s.data.toList := ⟨_, rfl⟩
  unfold SplitRet at HSP
  rw [← hR] at HRL HRF HLF HLN HSP
  have hRl : R.length ≤ 65536 := by
    have h1 := len_le_tot R fun x hx => runsOf_pos _ x (by rw [← hR]; exact hx)
    have h2 := expand_length R
    rw [hR, expand_runsOf, bytes_size, ← hR] at h2
    omega
  clear hR
  go_enter Try.func35, Try.ntmps35
  go_wp2_with fail
  go_at_call 60
  refine (HCW.out _).mono ?_
  rintro e w1 ⟨hq, rfl⟩
  have HQ1 := Lib.hid hq; clear hq
  go_wp2_with fail
  go_at_call 61
  refine (HSP.out _).mono ?_
  rintro e w2 ⟨hq, v, rfl, hrow⟩
  obtain ⟨a, cp, rfl, -⟩ := hrow.slice
  have s2 := HQ1.out.trans (hq.mono HQ1.out.size)
  have S2 := Lib.hid s2; clear s2 hq
  have HROW := Lib.hid hrow; clear hrow
  obtain ⟨G, hG⟩ : ∃ G, G = R.length := ⟨_, rfl⟩
  rw [← hG] at HROW hRl ⊢
  have HG := Lib.hid hG; clear hG
  go_wp2_with fail
  go_loopw [7, 24] (fun u i wr => ∃ (j m : Nat) (d r : List (UInt8 × Nat)), i = .int .i64 j ∧ u = .int .i64 m ∧ R = d ++ r ∧ d.length = j ∧ j ≤ G ∧ m = longF z d 0 ∧ m ≤ 65536 ∧ Below w2.heap.size w2 wr) (fun _ i _ => G - (intOf i).toNat)
  case atStart => exact ⟨0, 0, [], R, rfl, rfl, rfl, rfl, Nat.zero_le _, rfl, Nat.zero_le _, Below.refl _ _⟩
  case round =>
    obtain ⟨j, m, d, r, rfl, rfl, hru, hdj, hjG, hm, hmb, hbel⟩ := hrel
    by_cases hlt : j < G
    · cases r with
      | nil => exact absurd (by rw [HG.out, hru, List.append_nil, hdj]) (Nat.ne_of_gt hlt)
      | cons x r =>
        have hrow := HROW.out
        rcases hrow with ⟨_, h0, _⟩ | ⟨gb, goff, gcp, hv, h1, h2, h3, h4⟩
        · omega
        · have hv1 : a = some ⟨gb, goff, none⟩ := by injection hv
          subst hv1
          clear hv
          have hcx := HRL.out x (by rw [hru]; simp)
          have hxl := HRF.out d r x hru
          have hg := cr_get x r d
          rw [← hru, hdj] at hg
          have hg0 := (hbel.cell (p := ⟨gb, goff + j * 2, none⟩) h3).trans (h4 (j * 2) _ (by rw [Nat.mul_comm]; exact hg.1))
          have hg1 := (hbel.cell (p := ⟨gb, goff + j * 2 + 1, none⟩) h3).trans (h4 (j * 2 + 1) _ (by rw [Nat.mul_comm]; exact hg.2))
          have hin := HINJ.out x.1 hcx
          have hlx := longF_append z x d 0
          have hlb := HLF.out (d ++ [x]) r (by rw [hru, List.append_assoc]; rfl)
          obtain ⟨c, q⟩ := x
          simp only [] at hxl hcx hg0 hg1 hin hlx
          obtain ⟨lc, hlc⟩ : ∃ lc, lc = lblC c := ⟨_, rfl⟩
          rw [← hlc] at hg0 hin
          rw [← hm] at hlx
          have hru2 : R = (d ++ [(c, q)]) ++ r := by rw [hru, List.append_assoc]; rfl
          have hlen : (d ++ [(c, q)]).length = d.length + 1 := by simp
          have HRU := Lib.hid hru2; clear hru2 hru
          have HLEN := Lib.hid hlen; clear hlen
          have HB := Lib.hid hbel; clear hbel
          have HDJ := Lib.hid hdj; clear hdj
          clear hg hcx h4 hlc hm
          have hsz := HB.out.size
          by_cases hcz : c = z
          · rw [if_pos hcz] at hlx
            have hlb2 : max m q ≤ 65536 := by omega
            have HLX := Lib.hid hlx; clear hlx
            have hin2 : (lc == lz) = true := by rw [hin]; simpa using hcz
            clear hin hlb
            go_wp2_with fail
            go_roundw
            case rel => exact ⟨j + 1, max m q, d ++ [(c, q)], r, by go_num, by go_num, HRU.out, by rw [HLEN.out, HDJ.out], by omega, HLX.out.symm, hlb2, HB.out.alloc hsz _⟩
            case measure => simp [intOf]; omega
          · rw [if_neg hcz] at hlx
            have HLX := Lib.hid hlx; clear hlx
            have hin2 : (lc == lz) = false := by rw [hin]; simpa using hcz
            clear hin hlb
            go_wp2_with fail
            go_roundw
            case rel => exact ⟨j + 1, m, d ++ [(c, q)], r, by go_num, by go_num, HRU.out, by rw [HLEN.out, HDJ.out], by omega, HLX.out.symm, hmb, HB.out.alloc hsz _⟩
            case measure => simp [intOf]; omega
    · have hr0 : r = [] := by
        have := HG.out
        rw [hru, List.length_append] at this
        exact List.length_eq_zero_iff.1 (by omega)
      subst hr0
      rw [List.append_nil] at hru
      have hml : m = longest z s.data.toList := by rw [HLN.out, hru, hm]
      have HML := Lib.hid hml; clear hml hru hm
      have HB := Lib.hid hbel; clear hbel
      go_wp2_with fail
      go_ret2
      exact ⟨S2.out.trans (HB.out.mono S2.out.size), by rw [HML.out]; first | rfl | simp⟩
end Go.Proofs.Ytadibbbaegbljaa
