/- The law RunlengthWords: true at every input. -/
import Derived.Test.YtadibbbaegbljaaPlainW
import Derived.Test.YtadibbbaegbljaaSameG
import Derived.Test.YtadibbbaegbljaaWrapS
import Derived.Test.YtadibbbaegbljaaLaw
import Derived.Test.YtadibbbaegbljaaAwakeB
namespace Go.Proofs.Ytadibbbaegbljaa
open Go.RowKit

def PathOk (S : Nat) (T : Nat → Nat → Option Nat) (s : ByteArray) : Prop := ∀ v w', Row w' v (canon S T).length (ce (canon S T)) → Calls Try.prog 32 #[.agg #[.int .i64 2, .int .i64 (S : Int), v], .string s] w' (Ret w' (.bool (pathD S T s.data.toList)))
theorem path_ok {S : Nat} {T : Nat → Nat → Option Nat} (hT : FitT S T) (hS : S ≤ 64) {s : ByteArray} (hs : IsWord s) : PathOk S T s :=
  fun v w' h => path_any S (canon S T) v s w' h (ok_canon hT hS) (chk_canon hT hS) hS (by have := hs.1; omega) hs.2
def CheckOk (S : Nat) (T : Nat → Nat → Option Nat) : Prop := ∀ v w', Row w' v (canon S T).length (ce (canon S T)) → Calls Try.prog 33 #[.agg #[.int .i64 2, .int .i64 (S : Int), v]] w' (Ret w' (.int .i64 0))
theorem check_ok {S : Nat} {T : Nat → Nat → Option Nat} (hT : FitT S T) (hS : S ≤ 64) : CheckOk S T := fun v w' h => by
  have h1 := check_any 2 S (canon S T) v w' h (ok_canon hT hS)
  rwa [chk_canon hT hS] at h1
theorem graphC (d E : Nat) (k : Int) (w : World) (hp : pairB (d : Int) k = true) (hl : lastI (d : Int) k = E) (hdE : d ≤ E) (hE : E < 64) :
    Calls Try.prog 23 #[.int .i64 (d : Int), .int .i64 k] w (GOut 2 ((E + 1 : Nat) : Int) (canon (E + 1) (tG d (k == -1) E)) 0 w) := by
  have ht := graph_tells d E k hE
  refine (graph_any (d : Int) k E w hp hl hE ht.ok (by rw [graphEs_eq]; exact graph_ne d E _ hdE) ht.no (by have h := ht.chk; exact h)).mono fun e w' h => ?_
  exact gout_of_make (by omega) ht h
theorem spacedC (d k st E : Nat) (w : World) (hdk : d ≤ k) (hk : k ≤ 63) (hst : 1 ≤ st) (hst2 : st ≤ 1000) (hE : E = k - (k - d) % st) :
    Calls Try.prog 27 #[.int .i64 (d : Int), .int .i64 (k : Int), .int .i64 (st : Int)] w (GOut 2 ((E + 1 : Nat) : Int) (canon (E + 1) (tS d st E)) 0 w) := by
  have hE64 : E < 64 := by omega
  exact (spaced_any d k st E w hdk (by omega) hst (by omega) hE hE64).mono fun e w' h => gout_of_make (by omega) (spaced_tells d st E hE64) h

set_option maxRecDepth 100000 in
set_option maxHeartbeats 3200000 in
theorem words_inf (a b n : Int) (x D E : Nat) (w : World) (ha : 0 ≤ a ∧ a ≤ 255) (hb : 0 ≤ b ∧ b ≤ 255) (hs : x ≤ 255) (hn : 0 ≤ n ∧ n ≤ 65535) (hd : (D : Int) = ofD a) (hk : (-1 : Int) = ofK a b) (hp : pairB (D : Int) (-1) = true) (hE : lastI (D : Int) (-1) = E) (hE10 : E ≤ 10) (hDE : D ≤ E) :
    Calls Try.prog 8 #[.int .u8 a, .int .u8 b, .int .u8 (x : Int), .int .u16 n] w (Ret w (.bool true)) := by
  have hof := of_any a b w ha hb
  rw [← hd, ← hk] at hof
  clear hd hk
  have t1 : (x : Int).tmod 4 = ((x % 4 : Nat) : Int) := by rw [Int.tmod_eq_emod_of_nonneg (by omega)]; rfl
  have t1' : (x : Int) % 4 = ((x % 4 : Nat) : Int) := by omega
  obtain ⟨q, hq⟩ : ∃ q, q = x % 4 := ⟨_, rfl⟩
  have hq3 : q ≤ 3 := by omega
  rw [← hq] at t1 t1'
  clear hq
  have HOF := Lib.hid hof; clear hof
  have HP := Lib.hid hp; clear hp
  have HE := Lib.hid hE; clear hE
  go_enter Try.func8, Try.ntmps8
  go_wp2_with (first | (go_at_call 11; refine HOF.out.mono ?_; rintro e w' ⟨rfl, rfl⟩) | (go_at_call 12; refine (binary_any n w hn).mono ?_; rintro e w1 ⟨hq, sw, hsw, rfl⟩; have HQ1 := Lib.hid hq; clear hq; have HS := Lib.hid hsw; clear hsw) | fail)
  have hs10 := HS.out.1
  have hgc := fun w' => graphC D E (-1) w' HP.out HE.out hDE (by omega)
  have hV1 := fun w' => Valid_any (D : Int) (-1) sw w' (by omega)
  have hr1 := rchk_word HP.out HS.out.len HS.out.2
  rw [hr1] at hV1
  have hpg : pathD (E + 1) (tG D ((-1) == -1) E) sw.data.toList = validR (D : Int) (-1) sw.data.toList := by
    rw [Bool.eq_iff_iff, pathG D E (-1) HP.out HE.out (by omega) HS.out.2, validR_word HP.out HS.out, okW_iff]
  have hpo := path_ok (tG_fit D ((-1) == -1) E) (by omega) HS.out
  unfold PathOk at hpo
  rw [hpg] at hpo
  have hco := check_ok (tG_fit D ((-1) == -1) E) (show E + 1 ≤ 64 by omega)
  unfold CheckOk at hco
  obtain ⟨vb, hvb⟩ : ∃ vb, vb = validR (D : Int) (-1) sw.data.toList := ⟨_, rfl⟩
  rw [← hvb] at hV1 hpo hpg
  obtain ⟨S, hSE⟩ : ∃ S, S = E + 1 := ⟨_, rfl⟩
  simp only [← hSE] at hgc hpo hco hpg
  obtain ⟨es, hes⟩ : ∃ es, es = canon S (tG D ((-1) == -1) E) := ⟨_, rfl⟩
  rw [← hes] at hgc hpo hco
  have HES := Lib.hid hes; clear hes
  have HGC := Lib.hid hgc; clear hgc
  have HV1 := Lib.hid hV1; clear hV1 hr1
  have HPO := Lib.hid hpo; clear hpo
  have HCO := Lib.hid hco; clear hco
  have HPG := Lib.hid hpg; clear hpg hvb
  have HSE := Lib.hid hSE; clear hSE
  go_wp2_with fail
  go_at_call 23
  refine (HGC.out _).mono ?_
  rintro e w2 ⟨hq, vg, rfl, hrow⟩
  obtain ⟨ag, cg, rfl, -⟩ := hrow.slice
  have HQ2 := Lib.hid hq; clear hq
  have ba := Blk.new w2 46 [.int .i64 2, .int .i64 (S : Int), (.slice ag es.length cg)]
  have hra := hrow.below ((Below.refl w2.heap.size w2).alloc (Nat.le_refl _) (.cells #[.int .i64 2, .int .i64 (S : Int), (.slice ag es.length cg)] 46)) (Nat.le_refl _)
  have HBA := Lib.hid ba; clear ba
  have HRA := Lib.hid hra; clear hra hrow
  go_wp2_with fail
  go_at_call 13
  refine (HV1.out _).mono ?_
  rintro e w3 ⟨hq, rfl⟩
  have b3 := HBA.out.keep hq
  have c30 := b3.cell (j := 0) rfl
  have c31 := b3.cell (j := 1) rfl
  have c32 := b3.cell (j := 2) rfl
  have HB3 := Lib.hid b3; clear b3
  have HR3 := Lib.hid (HRA.out.below hq (Nat.le_refl _))
  have HQ3 := Lib.hid hq; clear hq
  go_wp2_with fail
  go_at_call 32
  refine (HPO.out (.slice ag es.length cg) _ HR3.out).mono ?_
  rintro e w4 ⟨hq, rfl⟩
  have b4 := HB3.out.keep hq
  have c40 := b4.cell (j := 0) rfl
  have c41 := b4.cell (j := 1) rfl
  have c42 := b4.cell (j := 2) rfl
  have HB4 := Lib.hid b4; clear b4
  have HR4 := Lib.hid (HR3.out.below hq (Nat.le_refl _))
  have HQ4 := Lib.hid hq; clear hq
  go_wp2_with fail
  go_at_call 33
  refine (HCO.out (.slice ag es.length cg) _ HR4.out).mono ?_
  rintro e w5 ⟨hq, rfl⟩
  have HB5 := Lib.hid (HB4.out.keep hq)
  have HR5 := Lib.hid (HR4.out.below hq (Nat.le_refl _))
  have HQ5 := Lib.hid hq; clear hq
  have s2 := HQ1.out.trans (HQ2.out.mono HQ1.out.size)
  have s2 := s2.alloc s2.size (.cells #[.int .i64 2, .int .i64 (S : Int), (.slice ag es.length cg)] 46)
  have s3 := s2.trans (HQ3.out.mono s2.size)
  have s4 := s3.trans (HQ4.out.mono s3.size)
  have s5 := s4.trans (HQ5.out.mono s4.size)
  have S5 := Lib.hid s5; clear s2 s3 s4 s5
  go_wp2_with fail
  go_at_call 27
  refine (spaced_no2 (D : Int) (-1) _ _ (.inr (.inl ⟨by omega, by omega⟩))).mono ?_
  rintro e w6 ⟨hq, vz, rfl, hrow⟩
  obtain ⟨az, cz, rfl, -⟩ := hrow.slice
  have HQ6 := Lib.hid hq; clear hq
  go_wp2_with (go_at_call 15; refine (awake_any _).mono ?_; rintro e w7 ⟨hq, rfl⟩; have HQ7 := Lib.hid hq; clear hq)
  go_ret
  have s6 := S5.out.trans (HQ6.out.mono S5.out.size)
  have s6 := s6.alloc s6.size (.cells #[.int .i64 0, .int .i64 0, (.slice az ([] : List E3).length cz)] 46)
  exact ⟨s6.trans (HQ7.out.mono s6.size), rfl⟩
set_option maxRecDepth 100000 in
set_option maxHeartbeats 3200000 in
theorem words_fin (a b n : Int) (x D E K : Nat) (w : World) (ha : 0 ≤ a ∧ a ≤ 255) (hb : 0 ≤ b ∧ b ≤ 255) (hs : x ≤ 255) (hn : 0 ≤ n ∧ n ≤ 65535) (hd : (D : Int) = ofD a) (hk : (K : Int) = ofK a b) (hp : pairB (D : Int) (K : Int) = true) (hE : lastI (D : Int) (K : Int) = E) (hE10 : E ≤ 10) (hDE : D ≤ E) (hEK : E = K) :
    Calls Try.prog 8 #[.int .u8 a, .int .u8 b, .int .u8 (x : Int), .int .u16 n] w (Ret w (.bool true)) := by
  subst hEK
  have hof := of_any a b w ha hb
  rw [← hd, ← hk] at hof
  clear hd hk
  have t1 : (x : Int).tmod 4 = ((x % 4 : Nat) : Int) := by rw [Int.tmod_eq_emod_of_nonneg (by omega)]; rfl
  have t1' : (x : Int) % 4 = ((x % 4 : Nat) : Int) := by omega
  obtain ⟨q, hq⟩ : ∃ q, q = x % 4 := ⟨_, rfl⟩
  have hq3 : q ≤ 3 := by omega
  rw [← hq] at t1 t1'
  clear hq
  have HOF := Lib.hid hof; clear hof
  have HP := Lib.hid hp; clear hp
  have HE := Lib.hid hE; clear hE
  go_enter Try.func8, Try.ntmps8
  go_wp2_with (first | (go_at_call 11; refine HOF.out.mono ?_; rintro e w' ⟨rfl, rfl⟩) | (go_at_call 12; refine (binary_any n w hn).mono ?_; rintro e w1 ⟨hq, sw, hsw, rfl⟩; have HQ1 := Lib.hid hq; clear hq; have HS := Lib.hid hsw; clear hsw) | fail)
  have hs10 := HS.out.1
  have hgc := fun w' => graphC D E (E : Int) w' HP.out HE.out hDE (by omega)
  have hV1 := fun w' => Valid_any (D : Int) (E : Int) sw w' (by omega)
  have hr1 := rchk_word HP.out HS.out.len HS.out.2
  rw [hr1] at hV1
  have hpg : pathD (E + 1) (tG D ((E : Int) == -1) E) sw.data.toList = validR (D : Int) (E : Int) sw.data.toList := by
    rw [Bool.eq_iff_iff, pathG D E (E : Int) HP.out HE.out (by omega) HS.out.2, validR_word HP.out HS.out, okW_iff]
  have hpo := path_ok (tG_fit D ((E : Int) == -1) E) (by omega) HS.out
  unfold PathOk at hpo
  rw [hpg] at hpo
  have hco := check_ok (tG_fit D ((E : Int) == -1) E) (show E + 1 ≤ 64 by omega)
  unfold CheckOk at hco
  obtain ⟨vb, hvb⟩ : ∃ vb, vb = validR (D : Int) (E : Int) sw.data.toList := ⟨_, rfl⟩
  rw [← hvb] at hV1 hpo hpg
  obtain ⟨S, hSE⟩ : ∃ S, S = E + 1 := ⟨_, rfl⟩
  simp only [← hSE] at hgc hpo hco hpg
  obtain ⟨es, hes⟩ : ∃ es, es = canon S (tG D ((E : Int) == -1) E) := ⟨_, rfl⟩
  rw [← hes] at hgc hpo hco
  have HES := Lib.hid hes; clear hes
  have HGC := Lib.hid hgc; clear hgc
  have HV1 := Lib.hid hV1; clear hV1 hr1
  have HPO := Lib.hid hpo; clear hpo
  have HCO := Lib.hid hco; clear hco
  have HPG := Lib.hid hpg; clear hpg hvb
  have HSE := Lib.hid hSE; clear hSE
  obtain ⟨E', hE'⟩ : ∃ E', E' = E - (E - D) % (q + 1) := ⟨_, rfl⟩
  have hE'E : E' ≤ E := by omega
  have hsp := fun w' => spacedC D E (q + 1) E' w' hDE (by omega) (by omega) (by omega) hE'
  rw [show ((q + 1 : Nat) : Int) = 1 + (q : Int) by omega] at hsp
  have hone := fun w' => spacedC D E 1 E w' hDE (by omega) (by omega) (by omega) (by rw [Nat.mod_one]; omega)
  rw [show ((1 : Nat) : Int) = 1 from rfl, canonS_G] at hone
  have hph := path_ok (tS_fit D (q + 1) E') (by omega) HS.out
  unfold PathOk at hph
  have hpi : pathD (E' + 1) (tS D (q + 1) E') sw.data.toList = true → vb = true := fun h => by
    have h2 := pathS_G D (q + 1) E E' hE'E (by omega) HS.out.2 h
    have h3 := HPG.out
    rw [show ((E : Int) == -1) = false from beq_eq_false_iff_ne.2 (by omega), HSE.out] at h3
    rw [← h3]; exact h2
  have hes := HES.out
  rw [show ((E : Int) == -1) = false from beq_eq_false_iff_ne.2 (by omega)] at hes
  rw [← HSE.out, ← hes] at hone
  clear hes
  obtain ⟨ph, hphh⟩ : ∃ ph, ph = pathD (E' + 1) (tS D (q + 1) E') sw.data.toList := ⟨_, rfl⟩
  rw [← hphh] at hph hpi
  obtain ⟨S', hS'⟩ : ∃ S', S' = E' + 1 := ⟨_, rfl⟩
  simp only [← hS'] at hsp hph
  obtain ⟨es', hes'⟩ : ∃ es', es' = canon S' (tS D (q + 1) E') := ⟨_, rfl⟩
  rw [← hes'] at hsp hph
  have HSP := Lib.hid hsp; clear hsp
  have HONE := Lib.hid hone; clear hone
  have HPH := Lib.hid hph; clear hph
  have HPI := Lib.hid hpi; clear hpi hphh hS' hes' hE'
  go_wp2_with fail
  go_at_call 23
  refine (HGC.out _).mono ?_
  rintro e w2 ⟨hq, vg, rfl, hrow⟩
  obtain ⟨ag, cg, rfl, -⟩ := hrow.slice
  have HQ2 := Lib.hid hq; clear hq
  have ba := Blk.new w2 46 [.int .i64 2, .int .i64 (S : Int), (.slice ag es.length cg)]
  have hra := hrow.below ((Below.refl w2.heap.size w2).alloc (Nat.le_refl _) (.cells #[.int .i64 2, .int .i64 (S : Int), (.slice ag es.length cg)] 46)) (Nat.le_refl _)
  have HBA := Lib.hid ba; clear ba
  have HRA := Lib.hid hra; clear hra hrow
  go_wp2_with fail
  go_at_call 13
  refine (HV1.out _).mono ?_
  rintro e w3 ⟨hq, rfl⟩
  have b3 := HBA.out.keep hq
  have c30 := b3.cell (j := 0) rfl
  have c31 := b3.cell (j := 1) rfl
  have c32 := b3.cell (j := 2) rfl
  have HB3 := Lib.hid b3; clear b3
  have HR3 := Lib.hid (HRA.out.below hq (Nat.le_refl _))
  have HQ3 := Lib.hid hq; clear hq
  go_wp2_with fail
  go_at_call 32
  refine (HPO.out (.slice ag es.length cg) _ HR3.out).mono ?_
  rintro e w4 ⟨hq, rfl⟩
  have b4 := HB3.out.keep hq
  have c40 := b4.cell (j := 0) rfl
  have c41 := b4.cell (j := 1) rfl
  have c42 := b4.cell (j := 2) rfl
  have HB4 := Lib.hid b4; clear b4
  have HR4 := Lib.hid (HR3.out.below hq (Nat.le_refl _))
  have HQ4 := Lib.hid hq; clear hq
  go_wp2_with fail
  go_at_call 33
  refine (HCO.out (.slice ag es.length cg) _ HR4.out).mono ?_
  rintro e w5 ⟨hq, rfl⟩
  have HB5 := Lib.hid (HB4.out.keep hq)
  have HR5 := Lib.hid (HR4.out.below hq (Nat.le_refl _))
  have HQ5 := Lib.hid hq; clear hq
  have s2 := HQ1.out.trans (HQ2.out.mono HQ1.out.size)
  have s2 := s2.alloc s2.size (.cells #[.int .i64 2, .int .i64 (S : Int), (.slice ag es.length cg)] 46)
  have s3 := s2.trans (HQ3.out.mono s2.size)
  have s4 := s3.trans (HQ4.out.mono s3.size)
  have s5 := s4.trans (HQ5.out.mono s4.size)
  have S5 := Lib.hid s5; clear s2 s3 s4 s5
  go_wp2_with fail
  go_at_call 27
  refine (HSP.out _).mono ?_
  rintro e w6 ⟨hq, vh, rfl, hrow⟩
  obtain ⟨ah, ch, rfl, -⟩ := hrow.slice
  have b6 := (HB5.out.keep hq).alloc (.cells #[.int .i64 2, .int .i64 (S' : Int), (.slice ah es'.length ch)] 46)
  have HB6 := Lib.hid b6; clear b6
  have bh := Blk.new w6 46 [.int .i64 2, .int .i64 (S' : Int), (.slice ah es'.length ch)]
  have HBH := Lib.hid bh; clear bh
  have s6a := (Below.refl w6.heap.size w6).alloc (Nat.le_refl _) (.cells #[.int .i64 2, .int .i64 (S' : Int), (.slice ah es'.length ch)] 46)
  have HR6 := Lib.hid ((HR5.out.below hq (Nat.le_refl _)).below s6a (Nat.le_refl _))
  have HRH := Lib.hid (hrow.below s6a (Nat.le_refl _)); clear hrow s6a
  have HQ6 := Lib.hid hq; clear hq
  go_wp2_with fail
  go_at_call 27
  refine (HONE.out _).mono ?_
  rintro e w7 ⟨hq, vo, rfl, hrow⟩
  obtain ⟨ao, co, rfl, -⟩ := hrow.slice
  have b7 := (HB6.out.keep hq).alloc (.cells #[.int .i64 2, .int .i64 (S : Int), (.slice ao es.length co)] 46)
  have c70 := b7.cell (j := 0) rfl
  have c71 := b7.cell (j := 1) rfl
  have c72 := b7.cell (j := 2) rfl
  have HB7 := Lib.hid b7; clear b7
  have bh7 := (HBH.out.keep hq).alloc (.cells #[.int .i64 2, .int .i64 (S : Int), (.slice ao es.length co)] 46)
  have HBH7 := Lib.hid bh7; clear bh7
  have bo := Blk.new w7 46 [.int .i64 2, .int .i64 (S : Int), (.slice ao es.length co)]
  have co0 := bo.cell (j := 0) rfl
  have co1 := bo.cell (j := 1) rfl
  have co2 := bo.cell (j := 2) rfl
  clear bo
  have s7a := (Below.refl w7.heap.size w7).alloc (Nat.le_refl _) (.cells #[.int .i64 2, .int .i64 (S : Int), (.slice ao es.length co)] 46)
  have HR7 := Lib.hid ((HR6.out.below hq (Nat.le_refl _)).below s7a (Nat.le_refl _))
  have HRH7 := Lib.hid ((HRH.out.below hq (Nat.le_refl _)).below s7a (Nat.le_refl _))
  have HRO7 := Lib.hid (hrow.below s7a (Nat.le_refl _)); clear hrow s7a
  have HQ7 := Lib.hid hq; clear hq
  have s6 := S5.out.trans (HQ6.out.mono S5.out.size)
  have s6 := s6.alloc s6.size (.cells #[.int .i64 2, .int .i64 (S' : Int), (.slice ah es'.length ch)] 46)
  have s7 := s6.trans (HQ7.out.mono s6.size)
  have s7 := s7.alloc s7.size (.cells #[.int .i64 2, .int .i64 (S : Int), (.slice ao es.length co)] 46)
  have S7 := Lib.hid s7; clear s6 s7
  go_wp2_with fail
  go_at_call 34
  refine (same_yes 2 (S : Int) es (.slice ao es.length co) (.slice ag es.length cg) _ HRO7.out HR7.out).mono ?_
  rintro e w8 ⟨hq, rfl⟩
  have b8 := HBH7.out.keep hq
  have d80 := b8.cell (j := 0) rfl
  have d81 := b8.cell (j := 1) rfl
  have d82 := b8.cell (j := 2) rfl
  clear b8
  have HRH8 := Lib.hid (HRH7.out.below hq (Nat.le_refl _))
  have HQ8 := Lib.hid hq; clear hq
  go_wp2_with fail
  go_at_call 32
  refine (HPH.out (.slice ah es'.length ch) _ HRH8.out).mono ?_
  rintro e w9 ⟨hq, rfl⟩
  have HQ9 := Lib.hid hq; clear hq
  have s8 := S7.out.trans (HQ8.out.mono S7.out.size)
  have s9 := s8.trans (HQ9.out.mono s8.size)
  have S9 := Lib.hid s9; clear s8 s9
  cases ph with
  | false =>
    go_wp2_with (go_at_call 15; refine (awake_any _).mono ?_; rintro e w10 ⟨hq, rfl⟩; have HQ10 := Lib.hid hq; clear hq)
    go_ret
    exact ⟨S9.out.trans (HQ10.out.mono S9.out.size), rfl⟩
  | true =>
    have hvt : vb = true := HPI.out rfl
    subst hvt
    go_wp2_with (go_at_call 15; refine (awake_any _).mono ?_; rintro e w10 ⟨hq, rfl⟩; have HQ10 := Lib.hid hq; clear hq)
    go_ret
    exact ⟨S9.out.trans (HQ10.out.mono S9.out.size), rfl⟩
theorem law_words (a b s n : Int) (w : World) (ha : 0 ≤ a ∧ a ≤ 255) (hb : 0 ≤ b ∧ b ≤ 255) (hs : 0 ≤ s ∧ s ≤ 255) (hn : 0 ≤ n ∧ n ≤ 65535) :
    Calls Try.prog 8 #[.int .u8 a, .int .u8 b, .int .u8 s, .int .u16 n] w (Ret w (.bool true)) := by
  have hp := ofK_pair a b
  obtain ⟨d, hd⟩ : ∃ d, d = ofD a := ⟨_, rfl⟩
  obtain ⟨k, hk⟩ : ∃ k, k = ofK a b := ⟨_, rfl⟩
  have hd4 : 0 ≤ d ∧ d ≤ 4 := by rw [hd]; unfold ofD; omega
  have hk4 : -1 ≤ k ∧ k ≤ 10 := by rw [hk]; unfold ofK; split <;> omega
  rw [← hd, ← hk] at hp
  obtain ⟨D, rfl⟩ : ∃ D : Nat, d = D := ⟨d.toNat, by omega⟩
  obtain ⟨x, rfl⟩ : ∃ x : Nat, s = x := ⟨s.toNat, by omega⟩
  have hp' := hp
  simp [pairB] at hp'
  by_cases hk1 : k = -1
  · subst hk1
    exact words_inf a b n x D D w ha hb (by omega) hn hd hk hp (by simp [lastI]) (by omega) (Nat.le_refl _)
  · obtain ⟨K, rfl⟩ : ∃ K : Nat, k = K := ⟨k.toNat, by omega⟩
    exact words_fin a b n x D K K w ha hb (by omega) hn hd hk hp (by unfold lastI; rw [if_neg hk1]) (by omega) (by omega) rfl
end Go.Proofs.Ytadibbbaegbljaa
