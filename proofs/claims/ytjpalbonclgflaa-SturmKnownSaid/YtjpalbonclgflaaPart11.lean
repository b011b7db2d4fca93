/- Contracts and plain laws of several functions, one after the other: Trim, Digits. -/
import Derived.Test.YtjpalbonclgflaaProg
import Derived.Test.YtjpalbonclgflaaPart1
import Derived.Test.YtjpalbonclgflaaPart10
/- The contract of integer.trim: it returns the same slice, without the zeros at its end; it changes nothing. -/
namespace Go.Proofs.Ytjpalbonclgflaa
open Go.RowKit

def cs32 (l : List Nat) : List Value := l.map fun (d : Nat) => Value.int .u32 (d : Int)
theorem cs32_length (l : List Nat) : (cs32 l).length = l.length := by simp [cs32]
theorem cs32_get {l : List Nat} {i d : Nat} (h : l[i]? = some d) : (cs32 l)[i]? = some (.int .u32 (d : Int)) := by simp [cs32, h]

def TrimPost (w : World) (v : Value) (ds : List Nat) (e : Ending) (w' : World) : Prop :=
 w = w' ∧ ∃ v', e = .returned v' ∧ Row w v' (tz ds).length (cs32 (tz ds))

set_option maxHeartbeats 400000 in
theorem trim_any (ds : List Nat) (v : Value) (w : World) (h : Row w v ds.length (cs32 ds)) :
  Calls Try.prog 58 #[v] w (TrimPost w v ds) := by
 rcases h with ⟨rfl, h1, h2⟩ | ⟨b, off, cap, rfl, h1, h2, h3, h4⟩
 ·
  have hd : ds = [] := List.length_eq_zero_iff.1 h1
  subst hd
  clear h1 h2
  go_enter Try.func58, Try.ntmps58
  go_wp2
  go_loop [0] (fun x => x = .slice none 0 0) (fun _ => 0)
  case atStart => rfl
  case round =>
   subst hrel
   go_wp2
   go_ret
   exact ⟨rfl, .slice none 0 0, rfl, Row.nil w⟩
 ·
  unfold maxLen at h2
  have hlen : ds.length ≤ 9223372036854775807 := by omega
  go_enter Try.func58, Try.ntmps58
  go_wp2
  go_loop [0] (fun x => ∃ k : Nat, k ≤ ds.length ∧ x = .slice (some ⟨b, off, none⟩) k cap ∧ tz (ds.take k) = tz ds) (fun x => match x with | .slice _ k _ => k | _ => 0)
  case atStart => exact ⟨ds.length, Nat.le_refl _, rfl, by simp⟩
  case round =>
   obtain ⟨k, hk, rfl, he⟩ := hrel
   have HE := zh he; clear he
   cases k with
   | zero =>
    go_wp2
    go_ret
    refine ⟨rfl, .slice (some ⟨b, off, none⟩) 0 cap, rfl, ?_⟩
    rw [← HE.out]
    exact .inr ⟨b, off, cap, rfl, by simp [tz], h2, h3, by simp [tz, cs32]⟩
   | succ k =>
    have hget : ds[k]? = some (ds[k]'(by omega)) := List.getElem?_eq_getElem _
    obtain ⟨d, hd⟩ : ∃ d, d = ds[k]'(by omega) := ⟨_, rfl⟩
    rw [← hd] at hget; clear hd
    have hcell : w.cell? ⟨b, off + k, none⟩ = some (.int .u32 (d : Int)) := h4 k _ (cs32_get hget)
    have HG := zh hget; clear hget
    have H4 := zh h4; clear h4
    by_cases h0 : d = 0
    ·
     subst h0
     go_wp2
     go_round
     case rel => exact ⟨k, by omega, rfl, by rw [← HE.out, List.take_add_one, HG.out]; simp [tz_snoc_zero]⟩
     case measure => simp
    ·
     have hz : ((d : Int) == 0) = false := by simp; omega
     go_wp2
     go_ret
     refine ⟨rfl, .slice (some ⟨b, off, none⟩) (k + 1) cap, rfl, ?_⟩
     have e : tz ds = ds.take (k + 1) := by rw [← HE.out, List.take_add_one, HG.out]; simp [tz_snoc_pos _ _ h0]
     rw [e]
     exact .inr ⟨b, off, cap, by rw [List.length_take, Nat.min_eq_left hk], by rw [List.length_take]; omega, h2, h3, fun j u hu => H4.out j u (by
      simp only [cs32, List.map_take, List.getElem?_take] at hu
      split at hu
      ·
       exact hu
      ·
       cases hu)⟩
end Go.Proofs.Ytjpalbonclgflaa

/- The contract of integer.digits: the digits to the base 2^32 of the absolute value; nothing that was there is changed. -/
namespace Go.Proofs.Ytjpalbonclgflaa
open Go.RowKit

theorem infoU32 : (Try.prog.info? 75).map (fun i => (i.zero, i.size, i.bytes)) = some (some (.int .u32 0), 1, 4) := by kernel_rfl

def part (k n x : Nat) : List Value := cs32 (Dn k x) ++ List.replicate (n - k) (.int .u32 0)
theorem part_zero (n x : Nat) : part 0 n x = zrow (.int .u32 0) n := by rw [zrow_one _ _ rfl]; simp [part, Dn, cs32]
theorem part_full (n x : Nat) : part n n x = cs32 (Dn n x) := by simp [part]
theorem part_at {k n x : Nat} (h : k < n) : (part k n x)[k]? = some (.int .u32 0) := by
 have e : (cs32 (Dn k x)).length = k := by simp [cs32, Dn_length]
 rw [part, List.getElem?_append_right (by omega), e, Nat.sub_self, List.getElem?_replicate, if_pos (by omega)]
theorem Dn_succ (k x : Nat) : Dn (k + 1) x = Dn k x ++ [dig x k] := by
 symm
 apply eq_Dn (by simp [Dn_length])
 intro i hi
 rw [List.getElem?_append]
 split
 ·
  rename_i h; rw [Dn_length] at h; rw [Dn_get _ _ _ h]
 ·
  rename_i h; rw [Dn_length] at h ⊢
  have : i = k := by omega
  subst this; simp
theorem part_set {k n x : Nat} (h : k < n) : (part k n x).set k (.int .u32 (dig x k : Int)) = part (k + 1) n x := by
 have e : (cs32 (Dn k x)).length = k := by simp [cs32, Dn_length]
 rw [part, List.set_append_right _ _ (by omega), e, Nat.sub_self, part, Dn_succ, show n - k = n - (k + 1) + 1 by omega, List.replicate_succ, List.set_cons_zero]
 simp [cs32]
theorem mk32 (n : Nat) (h : n ≤ 1099511627776) (N : Int) (hN : N = (n : Int)) (w : World) : (Instr.makeSlice 78 (.int .i64 N) (.int .i64 N)).run Try.prog w = .ok (.slice (some ⟨w.heap.size, 0, none⟩) n n) (w.alloc (.cells (zarr (.int .u32 0) n) 75)) :=
 mk_slice (P := Try.prog) 78 75 (.int .u32 0) 1 4 Try.underlying78 infoU32 rfl .i64 .i64 n n (Nat.le_refl _) (by omega) (by omega) N N hN hN w
def RetNat (w : World) (x : Nat) (e : Ending) (w' : World) : Prop :=
 Below w.heap.size w w' ∧ ∃ v, e = .returned v ∧ Row w' v (dg x).length (cs32 (dg x))

set_option maxRecDepth 100000 in
set_option maxHeartbeats 800000 in
theorem digits_any (ng : Bool) (s : ByteArray) (w : World) (hs : s.size ≤ 1099511627776) :
  Calls Try.prog 40 #[.agg #[.bool ng, .string s]] w (RetNat w (bval s.data.toList)) := by
 have hmk := run_make_row' (P := Try.prog) 78 75 (.int .u32 0) 4 Try.underlying78 infoU32 rfl .i64 .i64 ((s.size + 3) / 4) (by omega) (by omega)
 rw [show (((s.size + 3) / 4 : Nat) : Int) = ((s.size : Int) + 3) / 4 by omega, madeOne] at hmk
 go_enter Try.func40, Try.ntmps40
 go_wp2
 clear hmk
 go_loopw [4, 5, 15] (fun _ _ i wr => ∃ k : Nat, k ≤ s.size ∧ i = .int .i64 k ∧ Below w.heap.size w wr ∧ wr.cell? ⟨w.heap.size, 1, none⟩ = some (.string s) ∧ Blk wr (w.heap.size + 1) 75 (cs32 (Dn ((s.size + 3) / 4) (bval (s.data.toList.drop (s.size - k)))))) (fun _ _ i _ => s.size - (intOf i).toNat)
 case atStart =>
  refine ⟨0, Nat.zero_le _, rfl, ?_, ?_, ?_⟩
  ·
   exact ((Below.refl _ _).alloc (Nat.le_refl _) _).alloc (by simp) _
  ·
   exact ((Blk.new w 33 [.bool ng, .string s]).alloc _).cell rfl
  ·
   have h := Blk.new (w.alloc (.cells #[.bool ng, .string s] 33)) 75 (List.replicate ((s.size + 3) / 4) (Value.int .u32 0))
   rw [World.size_alloc] at h
   refine Blk.congr (by simpa using h) ?_
   rw [List.drop_of_length_le (by simp), bval, Dn_zero, cs32, List.map_replicate]; rfl
 case round =>
  obtain ⟨k, hk, rfl, hbel, hbox, hrow⟩ := hrel
  have HR := zh hrow; clear hrow
  have HB := zh hbel; clear hbel
  by_cases hlt : k < s.size
  ·
   have hdl : (Dn ((s.size + 3) / 4) (bval (s.data.toList.drop (s.size - k))))[k / 4]? = some (dig (bval (s.data.toList.drop (s.size - k))) (k / 4)) := Dn_get _ _ _ (by omega)
   obtain ⟨d, hd⟩ : ∃ d, d = dig (bval (s.data.toList.drop (s.size - k))) (k / 4) := ⟨_, rfl⟩
   have hdlt : d < 4294967296 := by rw [hd]; exact dig_lt _ _
   rw [← hd] at hdl
   have hcell : wr.cell? ⟨w.heap.size + 1, k / 4, none⟩ = some (.int .u32 (d : Int)) := HR.out.cell (cs32_get hdl)
   have hfz : wr.frozen? ⟨w.heap.size + 1, k / 4, none⟩ = false := HR.out.frozen _
   have HD := zh hd; clear hd hdl
   have h4 : k / 4 < (s.size + 3) / 4 := by omega
   go_wp2
   go_region
   go_wp2
   go_roundw
   case rel =>
    have hb1 := bval_drop s.data.toList k (by simpa using hlt)
    have hb2 := bval_drop_lt s.data.toList k
    simp only [bytes_size] at hb1 hb2
    have hbi := byte_in (c := (s.data.toList[s.size - 1 - k]'(by simp; omega)).toNat) hb2 (UInt8.toNat_lt _)
    rw [← hb1, ← HD.out] at hbi
    refine ⟨k + 1, by omega, by go_num, ?_, ?_, ?_⟩
    ·
     exact ((HB.out.setCell (p := ⟨w.heap.size + 1, k / 4, none⟩) (by simp) _)).drew
    ·
     exact (World.cell?_setCell_other _ _ _ _ (by simp)).trans hbox
    ·
     refine (((HR.out.set (k / 4) _)).drew).congr ?_
     rw [or_cell hdlt, ← dig_set hbi.1 hbi.2, cs32, cs32, List.map_set]
     rfl
   case measure => simp [intOf]; omega
  ·
   have hkn : s.size - k = 0 := by omega
   have hr : Row wr (.slice (some ⟨w.heap.size + 1, 0, none⟩) ((s.size + 3) / 4) ((s.size + 3) / 4)) (Dn ((s.size + 3) / 4) (bval s.data.toList)).length (cs32 (Dn ((s.size + 3) / 4) (bval s.data.toList))) := by
    have h := HR.out
    rw [hkn, List.drop_zero] at h
    have h2 := Row.ofBlk h (m := (s.size + 3) / 4) (cap := (s.size + 3) / 4) (Nat.le_refl _) (by unfold maxLen; omega) (cs32 (Dn ((s.size + 3) / 4) (bval s.data.toList))).length
    rw [List.take_length] at h2
    rw [Dn_length]; exact h2
   have HR2 := zh hr; clear hr
   go_wp2_with (go_at_call 58; refine (trim_any _ _ _ HR2.out).mono ?_; rintro e w' ⟨rfl, v', rfl, hv'⟩)
   go_ret
   refine ⟨HB.out, v', rfl, ?_⟩
   have hlt2 : bval s.data.toList < 4294967296 ^ ((s.size + 3) / 4) := by
    have h1 := bval_lt s.data.toList
    rw [bytes_size, pow256] at h1
    have h3 : 4294967296 ^ (s.size / 4) * 256 ^ (s.size % 4) ≤ 4294967296 ^ ((s.size + 3) / 4) := by
     by_cases h0 : s.size % 4 = 0
     ·
      rw [h0, show (s.size + 3) / 4 = s.size / 4 by omega]; simp
     ·
      rw [show (s.size + 3) / 4 = s.size / 4 + 1 by omega, Nat.pow_succ]
      have h5 := pow256_lt (r := s.size % 4 - 1) (by omega)
      rw [show s.size % 4 - 1 + 1 = s.size % 4 by omega] at h5
      exact Nat.mul_le_mul_left _ h5
    omega
   rwa [tz_Dn hlt2] at hv'
end Go.Proofs.Ytjpalbonclgflaa

