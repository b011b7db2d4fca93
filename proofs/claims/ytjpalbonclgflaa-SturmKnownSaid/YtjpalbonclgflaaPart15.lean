/- Contracts and plain laws of several functions, one after the other: PdvD, PGcd, PSq. -/
import Derived.Test.YtjpalbonclgflaaPdv
import Derived.Test.YtjpalbonclgflaaPart18
import Derived.Test.YtjpalbonclgflaaPrmF
/- polynomial.large, Divide (small degrees, a divisor that is not 0). -/
namespace Go.Proofs.Ytjpalbonclgflaa
open Go.RowKit

theorem large_any (a : Option Addr) (n c : Nat) (w : World) (hn : n ≤ 1000000) :
  Calls Try.prog 64 #[.slice a n c] w (Ret w (.bool (decide (64 < (n : Int) - 1)))) := by
 go_enter Try.func64, Try.ntmps64
 go_wp2_with fail
 go_ret
 exact ⟨Below.refl _ _, rfl⟩
def PdRet3 (q r : List Int) (w : World) (e : Ending) (w' : World) : Prop := Below w.heap.size w w' ∧ ∃ v u, e = .returned (.tuple #[v, u, .int .i64 0]) ∧ Row w' v q.length (civ q) ∧ Row w' u r.length (civ r)
set_option maxRecDepth 100000 in
set_option maxHeartbeats 6400000 in
theorem Divide_any (a b : List Int) (va vb : Value) (w : World) (m k0 : Nat) (hra : Row w va a.length (civ a)) (hrb : Row w vb b.length (civ b)) (hla : a.length ≤ 65) (hlb : b.length ≤ 65) (hb0 : 0 < b.length)
  (hsa : ∀ x ∈ a, zs m x) (hsb : ∀ x ∈ b, zs k0 x) (hm : m + 1001 * (k0 + 1) ≤ 100000000000) (hea : Ends a) (heb : Ends b) :
  Calls Try.prog 73 #[va, vb] w (PdRet3 (pdv a b).1 (pdv a b).2 w) := by
 have hc1 := canon_any a va w hra (by omega) (fun x hx => by unfold small; exact Nat.le_trans (hsa x hx).size (by omega))
 have hc2 := fun w' h => canon_any b vb w' h (by omega) (fun x hx => by unfold small; exact Nat.le_trans (hsb x hx).size (by omega))
 unfold CanRet at hc1 hc2
 rw [tzI_id hea] at hc1
 simp only [tzI_id heb] at hc2
 have hpd := fun va vb w' h1 h2 => pdivide_any a b va vb w' m k0 h1 h2 (by omega) (by omega) hb0 hsa hsb hm hea
 obtain ⟨qf, hqf⟩ : ∃ q, q = (pdv a b).1 := ⟨_, rfl⟩
 obtain ⟨rf, hrf⟩ : ∃ q, q = (pdv a b).2 := ⟨_, rfl⟩
 rw [← hqf, ← hrf] at hpd ⊢
 obtain ⟨la, hla'⟩ : ∃ n, n = a.length := ⟨_, rfl⟩
 obtain ⟨lb, hlb'⟩ : ∃ n, n = b.length := ⟨_, rfl⟩
 rw [← hla'] at hc1 hpd hla
 rw [← hlb'] at hc2 hpd hlb hb0 hrb
 have h64a : decide (64 < (la : Int) - 1) = false := decide_eq_false (by omega)
 have h64b : decide (64 < (lb : Int) - 1) = false := decide_eq_false (by omega)
 have hbz : ((lb : Int) == 0) = false := by simp; omega
 have hl1 := fun x c w' => large_any x la c w' (by omega)
 have hl2 := fun x c w' => large_any x lb c w' (by omega)
 rw [h64a] at hl1
 rw [h64b] at hl2
 have HC1 := zh hc1; clear hc1
 have HC2 := zh hc2; clear hc2
 have HPD := zh hpd; clear hpd
 have HL1 := zh hl1; clear hl1
 have HL2 := zh hl2; clear hl2
 have HRB := zh hrb; clear hrb
 clear hra hsa hsb hm hea heb hqf hrf hla' hlb' hla hlb h64a h64b
 go_enter Try.func73, Try.ntmps73
 go_wp2_with fail
 refine (HC1.out).mono ?_
 rintro e1 w1 ⟨hq1, v1, rfl, hv1⟩
 dsimp only
 have hc2 := HC2.out _ (HRB.out.below hq1 (Nat.le_refl _))
 have HC3 := zh hc2; clear hc2
 have HQ1 := zh hq1; clear hq1
 have HV1 := zh hv1; clear hv1
 go_wp2_with fail
 refine (HC3.out).mono ?_
 rintro e2 w2 ⟨hq2, v2, rfl, hv2⟩
 dsimp only
 have s2 := HQ1.out.trans (hq2.mono HQ1.out.size)
 have hv1 := HV1.out.below hq2 (Nat.le_refl _)
 obtain ⟨a1, c1, rfl, -⟩ := hv1.slice
 obtain ⟨a2, c2, rfl, -⟩ := hv2.slice
 clear HV1 hq2
 have S2 := zh s2; clear s2
 have HV1 := zh hv1; clear hv1
 have HV2 := zh hv2; clear hv2
 go_wp2_with fail
 refine (HL1.out _ _ _).mono ?_
 rintro e3 w3 ⟨hq3, rfl⟩
 dsimp only
 have s3 := S2.out.trans (hq3.mono S2.out.size)
 have hv1 := HV1.out.below hq3 (Nat.le_refl _)
 have hv2 := HV2.out.below hq3 (Nat.le_refl _)
 clear S2 HV1 HV2 hq3
 have S3 := zh s3; clear s3
 have HV1 := zh hv1; clear hv1
 have HV2 := zh hv2; clear hv2
 go_wp2_with fail
 refine (HL2.out _ _ _).mono ?_
 rintro e4 w4 ⟨hq4, rfl⟩
 dsimp only
 have s4 := S3.out.trans (hq4.mono S3.out.size)
 have hdv := HPD.out _ _ _ (HV1.out.below hq4 (Nat.le_refl _)) (HV2.out.below hq4 (Nat.le_refl _))
 clear S3 HV1 HV2 hq4
 have S4 := zh s4; clear s4
 have HDV := zh hdv; clear hdv
 go_wp2_with fail
 refine (HDV.out).mono ?_
 rintro e5 w5 ⟨hq5, v5, u5, rfl, hv5, hu5⟩
 dsimp only
 have s5 := S4.out.trans (hq5.mono S4.out.size)
 have S5 := zh s5; clear s5
 have HV5 := zh hv5; clear hv5
 have HU5 := zh hu5; clear hu5
 clear hq5
 go_wp2_with fail
 refine bodyPost_ret (v := .tuple #[v5, u5, .int .i64 0]) (by simp [results, Try.results73, go_sem]) rfl ⟨S5.out, v5, u5, rfl, HV5.out, HU5.out⟩
end Go.Proofs.Ytjpalbonclgflaa

/- polynomial.gcd. -/
namespace Go.Proofs.Ytjpalbonclgflaa
open Go.RowKit

set_option maxRecDepth 100000 in
set_option maxHeartbeats 6400000 in
theorem gcd_any (a b : List Int) (va vb : Value) (w : World) (M : Nat) (hra : Row w va a.length (civ a)) (hrb : Row w vb b.length (civ b)) (hla : a.length ≤ 1000) (hlb : b.length ≤ 1000)
  (hsa : ∀ x ∈ a, zs M x) (hsb : ∀ x ∈ b, zs M x) (hea : Ends a) (heb : Ends b) (hM : M ≤ 90000000) (hf : GFine (prm a, prm b) M) :
  Calls Try.prog 66 #[va, vb] w (PolRet (gcdP a b) w) := by
 have hp1 := primitive_any a va w M hra hla hsa (by omega) hea
 have hp2 := fun w' h => primitive_any b vb w' M h hlb hsb (by omega) heb
 have hE := gsts_ends (p := (prm a, prm b)) (prm_ends hea) (prm_ends heb)
 have hL := gsts_lens (p := (prm a, prm b)) (L := 1000) (by show (prm a).length ≤ 1000; rw [prm_length]; exact hla) (by show (prm b).length ≤ 1000; rw [prm_length]; exact hlb)
 have hst : gcdP a b = gcdQ (prm a, prm b) := rfl
 obtain ⟨p, hp⟩ : ∃ p, p = (prm a, prm b) := ⟨_, rfl⟩
 have hpa : prm a = p.1 := by rw [hp]
 have hpb : prm b = p.2 := by rw [hp]
 rw [hpa] at hp1
 rw [hpb] at hp2
 rw [← hp] at hst hf hE hL
 rw [hst]
 unfold PolRet at hp1 hp2
 have HP1 := zh hp1; clear hp1
 have HP2 := zh hp2; clear hp2
 have HRB := zh hrb; clear hrb
 clear hra hsa hsb hea heb hp hpa hpb hst hla hlb
 have HE := zh hE; clear hE
 have HL := zh hL; clear hL
 have HF := zh hf; clear hf
 go_enter Try.func66, Try.ntmps66
 go_wp2_with fail
 refine (HP1.out).mono ?_
 rintro e1 w1 ⟨hq1, v1, rfl, hv1⟩
 dsimp only
 have hp2 := HP2.out _ (HRB.out.below hq1 (Nat.le_refl _))
 have HP3 := zh hp2; clear hp2
 have HQ1 := zh hq1; clear hq1
 have HV1 := zh hv1; clear hv1
 go_wp2_with fail
 refine (HP3.out).mono ?_
 rintro e2 w2 ⟨hq2, v2, rfl, hv2⟩
 dsimp only
 have s2 := HQ1.out.trans (hq2.mono HQ1.out.size)
 have hv1 := HV1.out.below hq2 (Nat.le_refl _)
 clear HV1 hq2
 have S2 := zh s2; clear s2
 have HV1 := zh hv1; clear hv1
 have HV2 := zh hv2; clear hv2
 go_wp2_with fail
 go_loopw [0, 1] (fun va vb wr => ∃ n : Nat, Row wr va (gsts p n).1.length (civ (gsts p n).1) ∧ Row wr vb (gsts p n).2.length (civ (gsts p n).2) ∧ Below w.heap.size w wr) (fun _ vb _ => slLen vb)
 case atStart => exact ⟨0, HV1.out, HV2.out, S2.out⟩
 case round =>
  obtain ⟨n, hra, hrb, hbel⟩ := hrel
  have hn1 : gsts p (n + 1) = gst (gsts p n) := rfl
  have hl := HL.out n
  have he := HE.out n
  have hff := HF.out n
  have hff1 := HF.out (n + 1)
  have hgq := fun h => gcdQ_of (p := p) (n := n) h
  obtain ⟨A, hA⟩ : ∃ A, A = (gsts p n).1 := ⟨_, rfl⟩
  obtain ⟨B, hB⟩ : ∃ B, B = (gsts p n).2 := ⟨_, rfl⟩
  have hpair : gsts p n = (A, B) := by rw [hA, hB]
  rw [← hA] at hra hl he hff hgq
  rw [← hB] at hrb hl he hff hgq
  rw [hpair] at hn1
  obtain ⟨la, hla⟩ : ∃ n, n = A.length := ⟨_, rfl⟩
  obtain ⟨lb, hlb⟩ : ∃ n, n = B.length := ⟨_, rfl⟩
  rw [← hla] at hra
  rw [← hlb] at hrb hgq
  obtain ⟨a1, c1, rfl, -⟩ := hra.slice
  obtain ⟨b1, d1, rfl, -⟩ := hrb.slice
  have hla1 : la ≤ 1000 := by omega
  have hlb1 : lb ≤ 1000 := by omega
  clear hA hB hpair
  by_cases h0 : lb = 0
  ·
   have hg := hgq h0
   rw [hla] at hra
   subst h0
   rw [hla]
   clear hla hlb hgq hn1 hff hff1 hl he
   have HGE := zh hg; clear hg
   have HRA := zh hra; clear hra
   have HBL := zh hbel; clear hbel
   go_wp2_with fail
   go_ret
   refine ⟨HBL.out, _, rfl, ?_⟩
   rw [← HGE.out]
   exact HRA.out
  ·
   have hb0 : (0 : Int) < (lb : Int) := by omega
   by_cases h1 : la < lb
   ·
    have h1' : (la : Int) < (lb : Int) := by omega
    rw [gst_swap (by show ¬ B.length = 0; omega) (by show A.length < B.length; omega)] at hn1
    clear hgq hff hff1 hl he h0
    have HRA := zh hra; clear hra
    have HRB2 := zh hrb; clear hrb
    have HBL := zh hbel; clear hbel
    have HN1 := zh hn1; clear hn1
    have HLA := zh hla; clear hla
    have HLB := zh hlb; clear hlb
    go_wp2_with fail
    go_roundw
    case rel =>
     refine ⟨n + 1, ?_, ?_, HBL.out⟩
     ·
      rw [HN1.out]; show Row _ _ B.length (civ B); rw [← HLB.out]; exact HRB2.out
     ·
      rw [HN1.out]; show Row _ _ A.length (civ A); rw [← HLA.out]; exact HRA.out
    case measure => simp only [slLen]; exact h1
   ·
    have h1' : ¬ (la : Int) < (lb : Int) := by omega
    rw [gst_div (by show ¬ B.length = 0; omega) (by show ¬ A.length < B.length; omega)] at hn1
    have hpd := pdivide_any A B _ _ _ M M (by rw [← hla]; exact hra) (by rw [← hlb]; exact hrb) (by omega) (by omega) (by omega) hff.1 hff.2 (by omega) he.1
    have hpz := (pdv_zs hff.1 hff.2).2
    have hpe := pdv_ends B he.1
    have hpl := pdv_len (a := A) (b := B) (by omega)
    obtain ⟨R, hR⟩ : ∃ R, R = (pdv A B).2 := ⟨_, rfl⟩
    rw [← hR] at hpd hpz hpe hpl
    have hn1 : gsts p (n + 1) = (B, prm R) := by rw [hn1, hR]
    have hmu : (A.length - B.length + 1) * (M + 1) ≤ 1001 * (90000000 + 1) := Nat.mul_le_mul (by omega) (by omega)
    have hpr := fun v w' h => primitive_any R v w' _ h (by omega) hpz (by omega) hpe
    have hless : (prm R).length < lb := by rw [prm_length]; omega
    unfold PolRet at hpr
    unfold PdRet at hpd
    clear hgq hff hff1 hl he h0 h1 hR hpz hpe hpl hmu hra
    have HRB2 := zh hrb; clear hrb
    have HBL := zh hbel; clear hbel
    have HN1 := zh hn1; clear hn1
    have HLA := zh hla; clear hla
    have HLB := zh hlb; clear hlb
    have HPD := zh hpd; clear hpd
    have HPR := zh hpr; clear hpr
    have HLESS := zh hless; clear hless
    go_wp2_with fail
    refine (HPD.out).mono ?_
    rintro e3 w3 ⟨hq3, v3, u3, rfl, hv3, hu3⟩
    dsimp only
    have hpr := HPR.out _ _ hu3
    have hrb := HRB2.out.below hq3 (Nat.le_refl _)
    have hbel := HBL.out.trans (hq3.mono HBL.out.size)
    clear hq3 hv3 HPD HPR HRB2 HBL
    have HPR := zh hpr; clear hpr
    have HRB2 := zh hrb; clear hrb
    have HBL := zh hbel; clear hbel
    go_wp2_with fail
    refine (HPR.out).mono ?_
    rintro e4 w4 ⟨hq4, v4, rfl, hv4⟩
    dsimp only
    have hrb := HRB2.out.below hq4 (Nat.le_refl _)
    have hbel := HBL.out.trans (hq4.mono HBL.out.size)
    obtain ⟨lr, hlr⟩ : ∃ n, n = (prm R).length := ⟨_, rfl⟩
    rw [← hlr] at hv4
    obtain ⟨a4, c4, rfl, -⟩ := hv4.slice
    clear hq4 HPR HRB2 HBL
    have HV4 := zh hv4; clear hv4
    have HRB2 := zh hrb; clear hrb
    have HBL := zh hbel; clear hbel
    have HLR := zh hlr; clear hlr
    go_wp2_with fail
    go_roundw
    case rel =>
     refine ⟨n + 1, ?_, ?_, HBL.out⟩
     ·
      rw [HN1.out]; show Row _ _ B.length (civ B); rw [← HLB.out]; exact HRB2.out
     ·
      rw [HN1.out]; show Row _ _ (prm R).length (civ (prm R)); rw [← HLR.out]; exact HV4.out
    case measure => simp only [slLen]; rw [HLR.out]; exact HLESS.out
end Go.Proofs.Ytjpalbonclgflaa

/- polynomial.Gcd, Squarefree. -/
namespace Go.Proofs.Ytjpalbonclgflaa
open Go.RowKit

theorem der_ends {l : List Int} (h : Ends l) : Ends (der l) := by
 rcases List.eq_nil_or_concat l with rfl | ⟨l0, y, rfl⟩
 ·
  intro k x hk; simp [der, derT] at hk
 ·
  rw [List.concat_eq_append] at *
  have hy := h _ _ rfl
  unfold der
  rcases l0 with _ | ⟨z, l1⟩
  ·
   intro k x hk; simp [derT] at hk
  ·
   have hg : ((z :: l1) ++ [y])[l1.length + 1]? = some y := by simp
   have e := derT_succ ((z :: l1) ++ [y]) (k := l1.length + 1) (by omega) hg
   have hl : ((z :: l1) ++ [y]).length = l1.length + 1 + 1 := by simp
   rw [hl, e]
   intro k x hk
   have h2 := (List.append_inj' hk rfl).2
   simp only [List.cons.injEq, and_true] at h2
   rw [← h2]
   exact Int.mul_ne_zero hy (by omega)
theorem gsts_pos {p : List Int × List Int} (h : 0 < p.1.length) : ∀ n, 0 < (gsts p n).1.length
 | 0 => h
 | n + 1 =>
  by
  show 0 < (gst (gsts p n)).1.length
  by_cases h0 : (gsts p n).2.length = 0
  ·
   rw [gst_nil h0]; exact gsts_pos h n
  ·
   by_cases h3 : (gsts p n).1.length < (gsts p n).2.length
   ·
    rw [gst_swap h0 h3]; show 0 < (gsts p n).2.length; omega
   ·
    rw [gst_div h0 h3]; show 0 < (gsts p n).2.length; omega
theorem der_length (l : List Int) : (der l).length = l.length - 1 := by unfold der; rw [derT_length]
def PolRetEF (r : List Int) (w : World) (e : Ending) (w' : World) : Prop := Below w.heap.size w w' ∧ ∃ v, e = .returned (.tuple #[v, .int .i64 0]) ∧ Row w' v r.length (civ r) ∧ Fresh w v
set_option maxRecDepth 100000 in
set_option maxHeartbeats 6400000 in
theorem Squarefree_fresh (l : List Int) (v : Value) (w : World) (M : Nat) (hr : Row w v l.length (civ l)) (hl : l.length ≤ 65) (hl0 : 0 < l.length) (hs : ∀ x ∈ l, zs M x) (hsd : ∀ x ∈ der l, zs M x) (he : Ends l)
  (hM : M ≤ 90000000) (hf : GFine (prm l, prm (der l)) M) :
  Calls Try.prog 52 #[v] w (PolRetEF (sqf l) w) := by
 have hc := canon_any l v w hr (by omega) (fun x hx => by unfold small; exact Nat.le_trans (hs x hx).size (by omega))
 unfold CanRet at hc
 rw [tzI_id he] at hc
 have hd := fun v w' h => derivative_any l v w' M h (by omega) hs (by omega)
 have hde := der_ends he
 have hg := fun va vb w' h1 h2 => gcd_any l (der l) va vb w' M h1 h2 (by omega) (by rw [der_length]; omega) hs hsd he hde hM hf
 have hgz : ∀ x ∈ gcdP l (der l), zs M x := fun x hx => (hf _).1 x hx
 have hge : Ends (gcdP l (der l)) := (gsts_ends (p := (prm l, prm (der l))) (prm_ends he) (prm_ends hde) _).1
 have hgp : 0 < (gcdP l (der l)).length := gsts_pos (p := (prm l, prm (der l))) (by show 0 < (prm l).length; rw [prm_length]; exact hl0) _
 have hgl : (gcdP l (der l)).length ≤ 1000 := (gsts_lens (p := (prm l, prm (der l))) (L := 1000) (by show (prm l).length ≤ 1000; rw [prm_length]; omega) (by show (prm (der l)).length ≤ 1000; rw [prm_length, der_length]; omega) _).1
 have hsq : sqf l = prm (pdv l (gcdP l (der l))).1 := rfl
 obtain ⟨G, hG⟩ : ∃ G, G = gcdP l (der l) := ⟨_, rfl⟩
 rw [← hG] at hg hgz hge hgp hgl hsq
 have hpd := fun va vb w' h1 h2 => pdivide_any l G va vb w' M M h1 h2 (by omega) hgl hgp hs hgz (by omega) he
 have hpz := (pdv_zs hs hgz).1
 have hpl := pdv_len1 l G
 have hmu : (l.length - G.length + 1) * (M + 1) ≤ 1001 * (90000000 + 1) := Nat.mul_le_mul (by omega) (by omega)
 have hpr := fun v w' h => primitive_fresh (pdv l G).1 v w' _ h (by omega) hpz (by omega) (pdv_ends1 l G)
 rw [← hsq] at hpr
 obtain ⟨S, hS⟩ : ∃ S, S = sqf l := ⟨_, rfl⟩
 obtain ⟨Q, hQ⟩ : ∃ Q, Q = (pdv l G).1 := ⟨_, rfl⟩
 obtain ⟨R, hR⟩ : ∃ R, R = (pdv l G).2 := ⟨_, rfl⟩
 obtain ⟨E, hE⟩ : ∃ E, E = der l := ⟨_, rfl⟩
 rw [← hS] at hpr ⊢
 rw [← hQ] at hpr hpd
 rw [← hR] at hpd
 rw [← hE] at hd hg
 obtain ⟨n, hn⟩ : ∃ n, n = l.length := ⟨_, rfl⟩
 rw [← hn] at hc hd hg hpd hl hl0
 have hn0 : ((n : Int) == 0) = false := by simp; omega
 have h64 : decide (64 < (n : Int) - 1) = false := decide_eq_false (by omega)
 have hl1 := fun x c w' => large_any x n c w' (by omega)
 rw [h64] at hl1
 unfold PolRet at hd hg
 unfold PolRetF at hpr
 unfold PdRet at hpd
 have HC := zh hc; clear hc
 have HD := zh hd; clear hd
 have HG := zh hg; clear hg
 have HPD := zh hpd; clear hpd
 have HPR := zh hpr; clear hpr
 have HL1 := zh hl1; clear hl1
 clear hr hl hl0 hs hsd he hM hf hde hgz hge hgp hgl hsq hG hpz hpl hmu hS hQ hR hE hn h64
 go_enter Try.func52, Try.ntmps52
 go_wp2_with fail
 refine (HC.out).mono ?_
 rintro e1 w1 ⟨hq1, v1, rfl, hv1⟩
 dsimp only
 obtain ⟨a1, c1, rfl, -⟩ := hv1.slice
 have S1 := zh hq1; clear hq1
 have HV1 := zh hv1; clear hv1
 go_wp2_with fail
 refine (HL1.out _ _ _).mono ?_
 rintro e2 w2 ⟨hq2, rfl⟩
 dsimp only
 have s2 := S1.out.trans (hq2.mono S1.out.size)
 have hv1 := HV1.out.below hq2 (Nat.le_refl _)
 clear S1 HV1 hq2
 have S2 := zh s2; clear s2
 have hd := HD.out _ _ hv1
 have HV1 := zh hv1; clear hv1
 have HD2 := zh hd; clear hd
 go_wp2_with fail
 refine (HD2.out).mono ?_
 rintro e3 w3 ⟨hq3, v3, rfl, hv3⟩
 dsimp only
 have s3 := S2.out.trans (hq3.mono S2.out.size)
 have hv1 := HV1.out.below hq3 (Nat.le_refl _)
 have hg := HG.out _ _ _ hv1 hv3
 clear S2 HV1 hq3 hv3
 have S3 := zh s3; clear s3
 have HV1 := zh hv1; clear hv1
 have HG2 := zh hg; clear hg
 go_wp2_with fail
 refine (HG2.out).mono ?_
 rintro e4 w4 ⟨hq4, v4, rfl, hv4⟩
 dsimp only
 have s4 := S3.out.trans (hq4.mono S3.out.size)
 have hv1 := HV1.out.below hq4 (Nat.le_refl _)
 have hpd := HPD.out _ _ _ hv1 hv4
 clear S3 HV1 hq4 hv4 hv1
 have S4 := zh s4; clear s4
 have HPD2 := zh hpd; clear hpd
 go_wp2_with fail
 refine (HPD2.out).mono ?_
 rintro e5 w5 ⟨hq5, v5, u5, rfl, hv5, hu5⟩
 dsimp only
 have s5 := S4.out.trans (hq5.mono S4.out.size)
 have hpr := HPR.out _ _ hv5
 clear S4 hq5 hv5 hu5
 have S5 := zh s5; clear s5
 have HPR2 := zh hpr; clear hpr
 go_wp2_with fail
 refine (HPR2.out).mono ?_
 rintro e6 w6 ⟨hq6, v6, rfl, hv6, hf6⟩
 dsimp only
 have hf7 : Fresh w v6 := fun b e => Nat.le_trans S5.out.size (hf6 b e)
 have HF7 := zh hf7; clear hf7
 clear hf6
 have s6 := S5.out.trans (hq6.mono S5.out.size)
 clear S5 hq6
 have S6 := zh s6; clear s6
 have HV6 := zh hv6; clear hv6
 go_wp2_with fail
 refine bodyPost_ret (v := .tuple #[v6, .int .i64 0]) (by simp [results, Try.results52, go_sem]) rfl ⟨S6.out, v6, rfl, HV6.out, HF7.out⟩
end Go.Proofs.Ytjpalbonclgflaa

