/- The contract of integer.number: the integer with these digits and this sign, in its canonical form; nothing that was there is changed. -/
import Derived.Test.YtjpalbonclgflaaPart11
namespace Go.Proofs.Ytjpalbonclgflaa
open Go.RowKit

def ineg (n : Int) : Bool := decide (n < 0)
def imag (n : Int) : ByteArray := ⟨(bb n.natAbs).toArray⟩
abbrev IntV (n : Int) : Value := .agg #[.bool (ineg n), .string (imag n)]
def sgn (ng : Bool) (x : Nat) : Int := if ng then -(x : Int) else x


theorem sgn_abs (ng : Bool) (x : Nat) : (sgn ng x).natAbs = x := by cases ng <;> simp [sgn]
theorem sgn_neg {ng : Bool} {x : Nat} (h : ¬ x = 0) : decide (sgn ng x < 0) = ng := by cases ng <;> simp [sgn] <;> omega
theorem infoU8 : (Try.prog.info? 5).map (fun i => (i.zero, i.size, i.bytes)) = some (some (.int .u8 0), 1, 1) := by kernel_rfl

set_option maxRecDepth 100000 in
set_option maxHeartbeats 800000 in
theorem number_any (ng : Bool) (ds : List Nat) (v : Value) (w : World) (hr : Row w v ds.length (cs32 ds)) (hlt : ∀ d ∈ ds, d < 4294967296) (hs : ds.length ≤ 274877906944) :
  Calls Try.prog 35 #[.bool ng, v] w (Ret w (IntV (sgn ng (val ds)))) := by
 have hlen := tz_length ds
 rw [← tz_lt hlt] at hlen
 obtain ⟨x, hx⟩ : ∃ x, x = val ds := ⟨_, rfl⟩
 have htz := tz_lt hlt
 rw [← hx] at htz hlen ⊢
 clear hx hlt
 have hr2 : Row (w.alloc (.cells #[.bool false, .string ⟨#[]⟩] 33)) v ds.length (cs32 ds) := hr.below ((Below.refl _ _).alloc (Nat.le_refl _) _) (Nat.le_refl _)
 have HR := zh hr2; clear hr hr2
 have HT := zh htz; clear htz
 by_cases hx0 : x = 0
 ·
  subst hx0
  go_enter Try.func35, Try.ntmps35
  go_wp2_with (go_at_call 58; refine (trim_any _ _ _ HR.out).mono ?_; rintro e w' ⟨rfl, v', rfl, hv'⟩; rw [← HT.out, dg_zero] at hv'; obtain ⟨a', cap', rfl, hle⟩ := hv'.slice; clear hv')
  refine bodyPost_ret (v := .agg #[.bool false, .string ⟨#[]⟩]) (by simp [results, Try.results35, go_sem]) rfl ⟨?_, ?_⟩
  ·
   exact (Below.refl _ _).alloc (Nat.le_refl _) _
  ·
   cases ng <;> simp [IntV, ineg, imag, sgn, bb_zero]
 ·
  obtain ⟨m, hm⟩ : ∃ m, m = (dg x).length := ⟨_, rfl⟩
  have hm0 : 0 < m := by rw [hm]; rw [dg_pos (by omega)]; simp
  rw [← hm] at hlen
  have HM := zh hm; clear hm
  have hmz : ((m : Int) == 0) = false := by simp; omega
  have hmk := mk_slice (P := Try.prog) 97 5 (.int .u8 0) 1 1 Try.underlying97 infoU8 rfl .i64 .i64 0 (4 * m) (by omega) (by omega) (by omega) 0 (4 * (m : Int)) (by omega) (by omega)
  go_enter Try.func35, Try.ntmps35
  go_wp2_with (go_at_call 58; refine (trim_any _ _ _ HR.out).mono ?_; rintro e w' ⟨rfl, v', rfl, hv'⟩; rw [← HT.out, ← HM.out] at hv'; obtain ⟨a', cap', rfl, hle⟩ := hv'.slice; obtain ⟨b, off, rfl, hlt, hce⟩ := hv'.at_ hm0; clear hv'; have HC := zh hce; clear hce)
  clear hmk
  have hlt1 : b < w.heap.size + 1 := by simpa using hlt
  clear hlt
  go_loopw [5, 6] (fun bs i wr => ∃ (j : Nat) (z : Int), j ≤ m ∧ i = .int .i64 z ∧ z = (j : Int) - 1 ∧ Below (w.heap.size + 1) (w.alloc (.cells #[.bool false, .string ⟨#[]⟩] 33)) wr ∧ ∃ ao nb cp, bs = .slice ao nb cp ∧ wr.ownsRow (w.heap.size + 1) 5 1 bs nb (cb (bb (x / 4294967296 ^ j)))) (fun _ i _ => (intOf i + 1).toNat)
  case atStart =>
   refine ⟨m, _, Nat.le_refl _, rfl, rfl, (Below.refl _ _).alloc (by simp) _, _, _, _, rfl, ?_⟩
   have h0 : x / 4294967296 ^ m = 0 := by rw [HM.out]; exact Nat.div_eq_of_lt (lt_pow_dg x)
   rw [h0, bb_zero]
   have h := own_made (w.alloc (.cells #[.bool false, .string ⟨#[]⟩] 33)) (w.heap.size + 1) 5 (.int .u8 0) (4 * m) (by simp) (by unfold maxLen; omega)
   rw [World.size_alloc] at h
   exact h
  case round =>
   obtain ⟨wo, rfl⟩ : ∃ wo : World, wo = wr := ⟨_, rfl⟩
   obtain ⟨j, z, hj, rfl, hz, hbel, ao, nb, cp, rfl, hown⟩ := hrel
   have HB := zh hbel; clear hbel
   cases j with
   | zero =>
    obtain rfl : z = -1 := by omega
    clear hz
    rw [Nat.pow_zero, Nat.div_one] at hown
    have hconv := conv_row (P := Try.prog) wo 97 9 5 Try.underlying97 Try.underlying5 Try.underlying9 ao cp (bb x) (by have h := own_row hown; have hl := hown.1; rw [cb_length, Nat.mul_one] at hl; rw [hl]; exact h)
    have hl := hown.1
    rw [cb_length, Nat.mul_one] at hl
    rw [hl] at hconv
    clear hl hown
    have hres : Blk wo w.heap.size 33 [.bool false, .string ⟨#[]⟩] := (Blk.new w 33 [.bool false, .string ⟨#[]⟩]).below HB.out (by omega)
    have hr0 := hres.c 0 rfl
    have hr1 := hres.c 1 rfl
    have hf0 := hres.frozen 0
    have hf1 := hres.frozen 1
    clear hres
    go_wp2
    refine bodyPost_ret (v := .agg #[.bool ng, .string ⟨(bb x).toArray⟩]) (by simp [results, Try.results35, go_sem, hr0, hr1]) rfl ⟨?_, ?_⟩
    ·
     exact (((HB.out.mono (Nat.le_succ _)).setCell (p := ⟨w.heap.size, 0, none⟩) (Nat.le_refl _) _).setCell (p := ⟨w.heap.size, 1, none⟩) (Nat.le_refl _) _).of_alloc
    ·
     rw [IntV, ineg, imag, sgn_neg hx0, sgn_abs]
   | succ j =>
    obtain rfl : z = (j : Int) := by omega
    clear hz
    have hcell : wo.cell? ⟨b, off + j, none⟩ = some (.int .u32 (dig x j : Int)) := by
     rw [HB.out.cell (p := ⟨b, off + j, none⟩) hlt1]
     exact HC.out j _ (cs32_get (dg_get x j (by rw [← HM.out]; omega)))
    obtain ⟨d, hd⟩ : ∃ d, d = dig x j := ⟨_, rfl⟩
    rw [← hd] at hcell
    have hd32 : d < 4294967296 := by rw [hd]; exact dig_lt _ _
    have HD := zh hd; clear hd
    have HCL := zh hcell; clear hcell
    have HO := zh hown; clear hown
    go_wp2
    go_loopw [5, 7] (fun bs i wi => ∃ (q : Nat) (z : Int), q ≤ 4 ∧ i = .int .i64 z ∧ z = (q : Int) - 1 ∧ Below (w.heap.size + 1) wo wi ∧ ∃ ao nb cp, bs = .slice ao nb cp ∧ wi.ownsRow (w.heap.size + 1) 5 1 bs nb (cb (bb (x / 4294967296 ^ j / 256 ^ q)))) (fun _ i _ => (intOf i + 1).toNat)
    case atStart =>
     refine ⟨4, _, Nat.le_refl _, rfl, rfl, Below.refl _ _, _, _, _, rfl, ?_⟩
     rw [Nat.div_div_eq_div_mul, show 256 ^ 4 = 4294967296 by decide, ← Nat.pow_succ]
     exact HO.out
    case round =>
     obtain ⟨q, z, hq, rfl, hz, hbel, ao', nb', cp', rfl, hown⟩ := hrel
     have HB2 := zh hbel; clear hbel
     have HO2 := zh hown; clear hown
     cases q with
     | zero =>
      obtain rfl : z = -1 := by omega
      clear hz
      go_wp2
      go_roundw
      case rel =>
       have h := HO2.out
       rw [Nat.pow_zero, Nat.div_one] at h
       exact ⟨j, _, by omega, rfl, rfl, HB.out.trans HB2.out, _, _, _, rfl, h⟩
      case measure => simp [intOf]
     | succ q =>
      obtain rfl : z = (q : Int) := by omega
      clear hz
      have hcell : wr.cell? ⟨b, off + j, none⟩ = some (.int .u32 (d : Int)) := by
       rw [HB2.out.cell (p := ⟨b, off + j, none⟩) hlt1]
       exact HCL.out
      obtain ⟨c, hc, hce⟩ : ∃ c : Nat, c = d / 2 ^ (8 * q) % 256 ∧ (d : Int) / 2 ^ (8 * q) % 256 = (c : Int) := ⟨_, rfl, by simp [Int.natCast_emod, Int.natCast_ediv, Int.natCast_pow]⟩
      have hc256 : c < 256 := by omega
      have hstep := byte_out x j q (by omega)
      rw [← HD.out, ← hc] at hstep
      have HS := zh hstep; clear hstep hc
      obtain ⟨y, hy⟩ : ∃ y, y = x / 4294967296 ^ j / 256 ^ (q + 1) := ⟨_, rfl⟩
      rw [← hy] at HS HO2
      have hyx : y ≤ x := by rw [hy]; exact Nat.le_trans (Nat.div_le_self _ _) (Nat.div_le_self _ _)
      have hnb : nb' = (bb y).length := by have := HO2.out.1; rw [cb_length] at this; omega
      have hnb2 : nb' ≤ 4 * m := by
       rw [hnb]; apply bb_length_le
       have := lt_pow_dg x
       rw [← HM.out] at this
       rw [Nat.pow_mul, show 256 ^ 4 = 4294967296 by decide]; omega
      have hbase : w.heap.size + 1 ≤ wr.heap.size := by have h1 := HB.out.size; have h2 := HB2.out.size; simp at h1; omega
      clear hy hyx
      have HN := zh hnb; clear hnb
      by_cases hc0 : c = 0
      ·
       subst hc0
       by_cases hn0 : nb' = 0
       ·
        subst hn0
        have hy0 : y = 0 := bb_nil (List.length_eq_zero_iff.1 HN.out.symm)
        go_wp2
        go_roundw
        case rel =>
         refine ⟨q, _, by omega, rfl, rfl, HB2.out, _, _, _, rfl, ?_⟩
         have h := HO2.out
         rw [HS.out]
         rw [hy0, bb_zero] at h
         rw [hy0, bb_zero]
         exact h
        case measure => simp [intOf]
       ·
        go_wp2_with (at_builtin; refine app_one _ rfl (.tmp 45) (.tmp 47) 97 rfl (w.heap.size + 1) 5 (.int .u8 0) 1 1 Try.underlying97 infoU8 rfl (by decide) _ _ _ rfl HO2.out [.int .u8 0] 1 rfl rfl (by simp [Value.oneCell']) (by omega) (by omega) (by omega) ?_; intro v' w' hown' hg)
        obtain ⟨av, cv, rfl⟩ := own_slice hown'
        have HO3 := zh hown'; clear hown'
        have HG := zh hg; clear hg
        go_wp2
        go_roundw
        case rel =>
         refine ⟨q, _, by omega, rfl, rfl, HB2.out.grown HG.out hbase (own_lt HO2.out hbase), _, _, _, rfl, ?_⟩
         have h := HO3.out
         have hb := bb_step y 0 (by decide) (.inl (bb_pos_of (by rw [← HN.out]; omega)))
         rw [HS.out, hb, cb_append]
         exact h
        case measure => simp [intOf]
      ·
       have hcn : ((c : Int) != 0) = true := by simp; omega
       go_wp2_with (at_builtin; refine app_one _ rfl (.tmp 45) (.tmp 47) 97 rfl (w.heap.size + 1) 5 (.int .u8 0) 1 1 Try.underlying97 infoU8 rfl (by decide) _ _ _ rfl HO2.out [.int .u8 (c : Int)] 1 rfl rfl (by simp [Value.oneCell']) (by omega) (by omega) (by omega) ?_; intro v' w' hown' hg)
       obtain ⟨av, cv, rfl⟩ := own_slice hown'
       have HO3 := zh hown'; clear hown'
       have HG := zh hg; clear hg
       go_wp2
       go_roundw
       case rel =>
        refine ⟨q, _, by omega, rfl, rfl, HB2.out.grown HG.out hbase (own_lt HO2.out hbase), _, _, _, rfl, ?_⟩
        have h := HO3.out
        have hb := bb_step y c hc256 (.inr (by omega))
        rw [HS.out, hb, cb_append]
        have e : cb [UInt8.ofNat c] = [.int .u8 (c : Int)] := by simp [cb]; omega
        rw [e]
        exact h
       case measure => simp [intOf]
end Go.Proofs.Ytjpalbonclgflaa
