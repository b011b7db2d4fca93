/- Contracts and plain laws of several functions, one after the other: RefA, RatT, RangeY. -/
import Derived.Lib.Strings
import Derived.Lib.IndexBytes
import Derived.Test.YtjpalbonclgflaaGreatPart6
import Derived.Test.YtjpalbonclgflaaGreatIntB
import Derived.Test.YtjpalbonclgflaaGreatPart1
import Derived.Test.YtjpalbonclgflaaGreatRatB
import Derived.Test.YtjpalbonclgflaaGreatPart13
/- The contracts of the reference's trim, small, mag, value, Of, Canonical, compareMag (grooveref01). -/
namespace Go.Proofs.YtjpalbonclgflaaGreat
open Go.RowKit

def bstr (x : Nat) : ByteArray := ⟨(bb x).toArray⟩
theorem bstr_list (x : Nat) : (bstr x).data.toList = bb x := by simp [bstr]
theorem extract_one (t : ByteArray) : (t.extract 1 t.size).data.toList = t.data.toList.drop 1 := Lib.extract_to_end t 1

theorem rtrim_any (s : ByteArray) (w : World) (hs : s.size ≤ 1099511627776) :
    Calls Tryz.prog 164 #[.string s] w fun e w' => e = .returned (.string (bstr (bval s.data.toList))) ∧ w = w' := by
  go_enter Tryz.func164, Tryz.ntmps164
  go_wp2
  go_loop [0] (fun x => ∃ t : ByteArray, x = .string t ∧ t.size ≤ s.size ∧ bval t.data.toList = bval s.data.toList) (fun x => match x with | .string t => t.size | _ => 0)
  case atStart => exact ⟨s, rfl, Nat.le_refl _, rfl⟩
  case round =>
    obtain ⟨t, rfl, hle, he⟩ := hrel
    have HE := Lib.hid he; clear he
    by_cases h0 : 0 < t.size
    · have hd := drop_at t 0 h0
      rw [List.drop_zero] at hd
      by_cases hz : t[0] = 0
      · rw [hz] at hd
        have hz2 : ((t[0].toNat : Int) == 0) = true := by rw [hz]; rfl
        have HD := Lib.hid hd; clear hd
        have HZ := Lib.hid hz; clear hz
        go_wp2
        go_round
        case rel =>
          refine ⟨_, rfl, ?_, ?_⟩
          · have h1 := congrArg List.length (extract_one t)
            simp only [bytes_size, List.length_drop] at h1
            omega
          · rw [extract_one, ← HE.out, HD.out, bval_zero]; rfl
        case measure =>
          have h1 := congrArg List.length (extract_one t)
          simp only [bytes_size, List.length_drop] at h1
          simp only []
          omega
      · have hz2 : ((t[0].toNat : Int) == 0) = false := by
          rw [beq_eq_false_iff_ne]; intro e
          apply hz
          have : t[0].toNat = 0 := by omega
          rw [← UInt8.toNat_inj, this]; rfl
        have hb : bb (bval t.data.toList) = t.data.toList := bb_bval (by
          intro c l e
          rw [hd, List.cons.injEq] at e
          rw [← e.1]; exact hz)
        have HB := Lib.hid hb; clear hb hd
        have HZ := Lib.hid hz; clear hz
        go_wp2
        go_ret
        refine ⟨?_, rfl⟩
        rw [← HE.out]
        show Ending.returned (.string t) = _
        rw [show t = bstr (bval t.data.toList) from str_ext (by rw [bstr_list, HB.out])]
        rw [bstr_list, bval_bb]
    · have hn : t.data.toList = [] := List.length_eq_zero_iff.1 (by rw [bytes_size]; omega)
      have HN := Lib.hid hn; clear hn
      go_wp2
      go_ret
      refine ⟨?_, rfl⟩
      rw [← HE.out, HN.out]
      show Ending.returned (.string t) = _
      rw [show t = bstr (bval []) from str_ext (by rw [bstr_list, HN.out, bval, bb_zero])]

theorem ofInt_i64 (a : Nat) (ha : a < 9223372036854775808) : (BitVec.ofInt 64 (a : Int)).toNat = a := by
  simp [BitVec.toNat_ofInt]; omega
theorem i64_or_nat (a b : Nat) (ha : a < 9223372036854775808) (hb : b < 9223372036854775808) : bits .or .i64 (a : Int) (b : Int) = ((a ||| b : Nat) : Int) := by
  have h : a ||| b < 2 ^ 63 := Nat.or_lt_two_pow ha hb
  show IntKind.i64.wrap ((BitVec.ofInt 64 (a : Int) ||| BitVec.ofInt 64 (b : Int)).toNat : Int) = _
  rw [BitVec.toNat_or, ofInt_i64 a ha, ofInt_i64 b hb, IntKind.wrap_i64]; omega
theorem or_i64 (n c : Nat) (hn : n < 281474976710656) (hc : c < 256) : bits BinOp.or IntKind.i64 ((n : Int) * 256) (c : Int) = ((256 * n + c : Nat) : Int) := by
  have h := i64_or_nat (n * 256) c (by omega) (by omega)
  rw [Int.natCast_mul] at h
  refine h.trans ?_
  have h2 := Nat.shiftLeft_add_eq_or_of_lt (b := c) (i := 8) hc n
  rw [Nat.shiftLeft_eq] at h2
  rw [show (2 : Nat) ^ 8 = 256 by decide] at h2
  rw [← h2, Nat.mul_comm]

theorem small_any (s : ByteArray) (w : World) (hs : s.size ≤ 7) :
    Calls Tryz.prog 170 #[.string s] w fun e w' => e = .returned (.int .i64 (bval s.data.toList : Nat)) ∧ w = w' := by
  go_enter Tryz.func170, Tryz.ntmps170
  go_wp2
  go_loop [3, 4] (fun n i => ∃ k : Nat, k ≤ s.size ∧ i = .int .i64 k ∧ n = .int .i64 (bval (s.data.toList.take k) : Nat)) (fun _ i => s.size - (intOf i).toNat)
  case atStart => exact ⟨0, Nat.zero_le _, rfl, rfl⟩
  case round =>
    obtain ⟨k, hk, rfl, rfl⟩ := hrel
    by_cases hlt : k < s.size
    · have hb : bval (s.data.toList.take k) < 281474976710656 := by
        have h1 := bval_lt (s.data.toList.take k)
        have h2 : 256 ^ (s.data.toList.take k).length ≤ 256 ^ 6 := Nat.pow_le_pow_right (by decide) (by simp; omega)
        have h3 : 256 ^ 6 = 281474976710656 := by decide
        omega
      have hstep : bval (s.data.toList.take (k + 1)) = 256 * bval (s.data.toList.take k) + s[k].toNat := by
        rw [List.take_succ_eq_append_getElem (by simpa using hlt), bval_snoc]; rfl
      obtain ⟨x, hx⟩ : ∃ x, x = bval (s.data.toList.take k) := ⟨_, rfl⟩
      rw [← hx] at hb hstep ⊢
      have hor := or_i64 x s[k].toNat hb (UInt8.toNat_lt _)
      have hc256 : s[k].toNat < 256 := UInt8.toNat_lt _
      have HO := Lib.hid hor; clear hor
      have HS := Lib.hid hstep; clear hstep hx
      go_wp2
      go_round
      case rel =>
        refine ⟨k + 1, by omega, by go_num, ?_⟩
        rw [HO.out, HS.out]
      case measure => simp [intOf]; omega
    · have hks : s.data.toList.take k = s.data.toList := List.take_of_length_le (by simp; omega)
      have HK := Lib.hid hks; clear hks
      go_wp2
      go_ret
      exact ⟨ret_int (by rw [HK.out]), rfl⟩


theorem arr8_len : Tryz.prog.arrayLen 159 = 8 := by kernel_rfl
theorem arr8_under : Tryz.prog.underlying 159 = some (.array (Tryz.prog.arrayLen 159) (Tryz.prog.elem 159)) := by kernel_rfl
theorem arr8_size (w : World) : (sizeOf (Tryz.prog.elem 159)).run Tryz.prog w = .ok 1 w := by kernel_rfl
theorem arr8_slice (b q : Nat) (hq : q < 8) (w : World) : (Instr.sliceAt 159 (.pointer (some ⟨b, 0, none⟩)) (some (.int .i64 (q : Int))) none none).run Tryz.prog w = .ok (.slice (some ⟨b, q, none⟩) (8 - q) (8 - q)) w := by
  rw [run_sliceAt_array_l w 159 ⟨b, 0, none⟩ arr8_under .i64 (q : Int) (by omega) (by rw [arr8_len]; omega), arr8_size, arr8_len]
  have h : ¬ 8 = q := by omega
  have h2 : (⟨b, 0, none⟩ : Addr).add q = ⟨b, q, none⟩ := by unfold Addr.add; split <;> simp_all
  simp [Result.andThen, slicedAt, h, h2]
set_option maxRecDepth 100000 in
set_option maxHeartbeats 800000 in
theorem mag_any (n : Nat) (w : World) (hn : n ≤ 9223372036854775807) :
    Calls Tryz.prog 126 #[.int .i64 (n : Int)] w (Ret w (.string (bstr n))) := by
  by_cases h0 : n < 256
  · by_cases hz : n = 0
    · subst hz
      go_enter Tryz.func126, Tryz.ntmps126
      go_wp2
      go_ret
      exact ⟨Below.refl _ _, by simp [bstr, bb_zero]⟩
    · have hconv := conv_row (P := Tryz.prog) (w.alloc (.cells #[.int .u8 (n : Int)] 5)) 139 9 5 Tryz.underlying139 Tryz.underlying5 Tryz.underlying9 (some ⟨w.heap.size, 0, none⟩) 1 [UInt8.ofNat n] (by
        have h := Row.ofBlk (Blk.new w 5 [.int .u8 (n : Int)]) (m := 1) (cap := 1) (Nat.le_refl _) (by decide) 1
        have e : cb [UInt8.ofNat n] = [.int .u8 (n : Int)] := by simp [cb]; omega
        rw [e]; exact h)
      simp only [List.length_cons, List.length_nil, Nat.zero_add] at hconv
      have hne : ((n : Int) == 0) = false := by simp; omega
      go_enter Tryz.func126, Tryz.ntmps126
      go_wp2
      go_ret
      refine ⟨(Below.refl _ _).alloc (Nat.le_refl _) _, ?_⟩
      have hb := bb_step 0 n h0 (.inr (by omega))
      rw [Nat.mul_zero, Nat.zero_add, bb_zero, List.nil_append] at hb
      rw [bstr, hb]; rfl
  · go_enter Tryz.func126, Tryz.ntmps126
    go_wp2
    have hN8 : n < 256 ^ 8 := by have : 256 ^ 8 = 18446744073709551616 := by decide
                                 omega
    go_loopw [0, 4] (fun x i wr => ∃ k : Nat, k ≤ 8 ∧ x = .int .i64 ((n / 256 ^ k : Nat) : Int) ∧ i = .int .i64 ((8 - k : Nat) : Int) ∧ Below w.heap.size w wr ∧ (k = 0 ∨ 0 < n / 256 ^ (k - 1)) ∧ Blk wr w.heap.size 159 (List.replicate (8 - k) (.int .u8 0) ++ cb (be k n))) (fun x _ _ => (intOf x).toNat)
    case atStart => exact ⟨0, by omega, by simp, rfl, (Below.refl _ _).alloc (Nat.le_refl _) _, .inl rfl, Blk.new w 159 _⟩
    case round =>
      obtain ⟨k, hk, rfl, rfl, hbel, htop, hrow⟩ := hrel
      have HB := Lib.hid hbel; clear hbel
      have HR := Lib.hid hrow; clear hrow
      have HT := Lib.hid htop; clear htop
      obtain ⟨m, hm⟩ : ∃ m, m = n / 256 ^ k := ⟨_, rfl⟩
      have hml : m ≤ n := by rw [hm]; exact Nat.div_le_self _ _
      rw [← hm]
      by_cases h1 : 0 < m
      · have hk8 : k < 8 := by
          rcases Nat.lt_or_ge k 8 with h | h
          · exact h
          · have : k = 8 := by omega
            subst this
            rw [Nat.div_eq_of_lt hN8] at hm; omega
        have hget : (List.replicate (8 - k) (Value.int .u8 0) ++ cb (be k n))[7 - k]? = some (.int .u8 0) := by
          rw [List.getElem?_append_left (by simp; omega), List.getElem?_replicate, if_pos (by omega)]
        have hcell := HR.out.cell hget
        have hfz := HR.out.frozen (7 - k)
        have hm2 : m / 256 = n / 256 ^ (k + 1) := by rw [hm, Nat.pow_succ, Nat.div_div_eq_div_mul]
        have hmb : m % 256 = byt n k := by rw [hm]; rfl
        have e8 : ((8 - k : Nat) : Int) - 1 = ((7 - k : Nat) : Int) := by omega
        have HM := Lib.hid hm; clear hm
        have HM2 := Lib.hid hm2; clear hm2
        have HMB := Lib.hid hmb; clear hmb
        obtain ⟨q, hq⟩ : ∃ q, q = 7 - k := ⟨_, rfl⟩
        have hq8 : 8 - k = q + 1 := by omega
        rw [← hq] at hcell hfz e8
        rw [hq8] at e8 HR ⊢
        have HQ := Lib.hid hq; clear hq hget hq8 hk
        clear e8
        have hq7 : q < 8 := by have := HQ.out; omega
        go_wp2
        go_roundw
        case rel =>
          refine ⟨k + 1, by omega, ?_, ?_, HB.out.setCell (p := ⟨w.heap.size, q, none⟩) (Nat.le_refl _) _, .inr ?_, ?_⟩
          · rw [← HM2.out]; first | rfl | go_num
          · have := HQ.out; congr 1; omega
          · rw [Nat.add_sub_cancel, ← HM.out]; exact h1
          · refine (HR.out.set q _).congr ?_
            have hq1 : 8 - (k + 1) = q := by have := HQ.out; omega
            rw [hq1, List.replicate_succ', List.append_assoc, List.set_append_right _ _ (by simp), List.length_replicate, Nat.sub_self, List.singleton_append, List.set_cons_zero, be]
            simp only [cb, List.map_cons]
            congr 3
            rw [← HMB.out]
            simp
        case measure => simp [intOf]; omega
      · have hm0 : m = 0 := by omega
        have hk1 : 0 < k := by
          rcases Nat.eq_zero_or_pos k with e | e
          · subst e; rw [Nat.pow_zero, Nat.div_one] at hm; omega
          · exact e
        have hbe : be k n = bb n := by
          obtain ⟨j, rfl⟩ : ∃ j, k = j + 1 := ⟨k - 1, by omega⟩
          rw [hm0] at hm
          have h2 := HT.out
          refine be_bb ?_ (by rcases h2 with h | h; · omega
                              · simpa using h)
          rcases Nat.lt_or_ge n (256 ^ (j + 1)) with h | h
          · exact h
          · have := Nat.div_pos h (pos256 _); omega
        have hrow : Row wr (.slice (some ⟨w.heap.size, 8 - k, none⟩) k k) (bb n).length (cb (bb n)) := by
          rw [← hbe]
          refine .inr ⟨w.heap.size, 8 - k, k, by rw [be_length], by rw [be_length]; exact Nat.le_refl _, by unfold maxLen; omega, HR.out.lt, fun j u hu => HR.out.cell ?_⟩
          rw [List.getElem?_append_right (by simp)]
          simpa using hu
        have hbl : (bb n).length = k := by rw [← hbe, be_length]
        have hconv := conv_row (P := Tryz.prog) wr 139 9 5 Tryz.underlying139 Tryz.underlying5 Tryz.underlying9 (some ⟨w.heap.size, 8 - k, none⟩) k (bb n) (by rw [hbl]; rw [hbl] at hrow; exact hrow)
        rw [hbl] at hconv
        clear hm hbe hrow hbl
        subst hm0
        obtain ⟨q, rfl⟩ : ∃ q, k = 8 - q := ⟨8 - k, by omega⟩
        have h88 : 8 - (8 - q) = q := by omega
        rw [h88] at hconv ⊢
        have hsl := arr8_slice w.heap.size q (by omega) wr
        clear h88
        go_wp2
        go_ret
        exact ⟨HB.out, rfl⟩
end Go.Proofs.YtjpalbonclgflaaGreat

/- The table of the operations is read. -/
namespace Go.Proofs.YtjpalbonclgflaaGreat
open Go.RowKit

theorem idx0 (w : World) : (Instr.index 126 (.agg #[.func (.func 166) #[] #[], .func (.func 167) #[] #[], .func (.func 168) #[] #[], .func (.func 169) #[] #[]]) (.int .i64 0)).run Tryz.prog w = .ok (.agg #[.func (.func 166) #[] #[]]) w := by kernel_rfl
theorem idx1 (w : World) : (Instr.index 126 (.agg #[.func (.func 166) #[] #[], .func (.func 167) #[] #[], .func (.func 168) #[] #[], .func (.func 169) #[] #[]]) (.int .i64 1)).run Tryz.prog w = .ok (.agg #[.func (.func 167) #[] #[]]) w := by kernel_rfl
theorem idx2 (w : World) : (Instr.index 126 (.agg #[.func (.func 166) #[] #[], .func (.func 167) #[] #[], .func (.func 168) #[] #[], .func (.func 169) #[] #[]]) (.int .i64 2)).run Tryz.prog w = .ok (.agg #[.func (.func 168) #[] #[]]) w := by kernel_rfl
theorem idx3 (w : World) : (Instr.index 126 (.agg #[.func (.func 166) #[] #[], .func (.func 167) #[] #[], .func (.func 168) #[] #[], .func (.func 169) #[] #[]]) (.int .i64 3)).run Tryz.prog w = .ok (.agg #[.func (.func 169) #[] #[]]) w := by kernel_rfl
theorem fld0 (f : Nat) (w : World) : (Instr.field 125 (.agg #[.func (.func f) #[] #[]]) 0).run Tryz.prog w = .ok (.func (.func f) #[] #[]) w := by kernel_rfl
end Go.Proofs.YtjpalbonclgflaaGreat

/- A range over an iterator whose loop variable has a box of its own, new in each round (the law of XRange; Y tells what may be yielded behind what). -/
namespace Go.Proofs.YtjpalbonclgflaaGreat
open Go.RowKit

variable {α : Type} {F : Fence} {n : Nat} {P : Program}
def SeqY (Y : List α → α → Prop) (F : Fence) (n : Nat) (P : Program) (gf : Nat) (lb : Array Value) (encs : α → Array Value) (cI cC : Nat → Obj → Prop) (S : List α → World → Prop) (w : World) : Prop :=
  ∀ (l : Nat) (J : List α → World → Prop) (W : World), Only (fun _ _ => False) w W → w.heap.size ≤ l →
    (∀ s A B, J s A → Only cI A B → J s B) →
    (∀ pre x W1, Y pre x → J pre W1 → YieldAt F (n - 1) P l (encs x) W1 fun e W' => e = .returned (.bool true) ∧ J (pre ++ [x]) W' ∧ Only cC W1 W') →
    J [] W →
    CallsIn F n P gf (#[.func (.yield l) #[] #[]] ++ lb) W fun e W' => (∃ v, e = .returned v) ∧ ∃ xs, S xs W' ∧ J xs W'

theorem range_y {Y : List α → α → Prop} {g : Operand} {ps : Array Tmp} {assign body : Code} {Q : Exit → Act → World → Prop} {a : Act} {w : World}
    (hro : F.round = none) (h1 : 1 ≤ n) {gf : Nat} {lb : Array Value} (hg : a.eval g = .func (.func gf) #[] lb) (hFg : F.fn gf) (eg : ∀ args w, (callFunc gf args).run P w = .ok (.enter gf args) w)
    {encs : α → Array Value} {cI cC : Nat → Obj → Prop} {S : List α → World → Prop} (hseq : SeqY Y F (n - 1) P gf lb encs cI cC S w)
    (hcI : ∀ b o, cI b o → o.isCells = true) (hcC : ∀ b o, o.isCells = false → cC b o) (hps : ∀ x, (encs x).size = ps.size)
    (I : List α → World → Prop) (hI : ∀ s A B, I s A → Only (fun b o => cI b o ∨ (o.isCells = false ∧ w.heap.size ≤ b)) A B → I s B) (h0 : I [] w)
    (hS : ∀ xs A B, S xs A → Only (fun b o => o.isCells = false ∧ w.heap.size ≤ b) A B → S xs B) (ob : α → Obj) (a₁ : α → Nat → Act)
    (hassign : ∀ (l : Nat) (x : α) (W : World) (K : Act → World → Prop) (b : Nat), b = W.heap.size → K (a₁ x b) (W.alloc (ob x)) →
      assign.wpIn (F.inRound l) (n - 1 - 1) P (Exit.then K (fun _ _ _ => False)) { tmps := (ps.zip (encs x)).foldl (fun t (p, v) => t.setIfInBounds p v) a.tmps, defers := [] } W)
    (hbody : ∀ (l : Nat) (pre : List α) (x : α) (b : Nat) (W : World), Y pre x → I pre W → W.heap[b]? = some (ob x) → w.heap.size ≤ b → body.wpIn (F.inRound l) (n - 1 - 1) P
      (fun e _ W' => e = .normal ∧ Only (fun b o => cC b o ∧ o.isCells = true) W W' ∧ I (pre ++ [x]) W') (a₁ x b) W)
    (hdone : ∀ (D : Nat) (xs : List α) (W : World), w.heap.size ≤ D → S xs W → I xs W → W.heap[D]? = some (.deferred (some [])) → Q .normal { a with defers := { target := .collected D, args := #[] } :: a.defers } W) :
    (Code.rangeFunc g ps assign body).wpIn F n P Q a w := by
  refine wpIn_rangeFunc (fun fn hfn => ?_)
  rw [hro]
  obtain ⟨D, hD⟩ : ∃ D, D = w.heap.size := ⟨_, rfl⟩
  obtain ⟨st, hst⟩ : ∃ st : LoopState → Loop, st = fun s => { state := s, pending := none, fn, tmps := a.tmps, params := ps, assign, body, defers := w.heap.size } := ⟨_, rfl⟩
  have henter := run_enterLoop_outer (P := P) (w := w) fn a.tmps ps assign body
  obtain ⟨W1, hW1⟩ : ∃ W1, W1 = (w.alloc (.deferred (some []))).alloc (.loop (st .ready)) := ⟨_, rfl⟩
  have hloop : W1.heap[D + 1]? = some (.loop (st .ready)) := by
    rw [hW1, hD]
    have := World.alloc_heap_new (w.alloc (.deferred (some []))) (.loop (st .ready))
    rwa [World.size_alloc] at this
  have hdef : W1.heap[D]? = some (.deferred (some [])) := by
    rw [hW1, hD]
    exact (Below.heap_alloc _ _ _ (by simp)).trans (World.alloc_heap_new w _)
  have honly : ∀ c, Only c w W1 := fun c => by rw [hW1]; exact (Only.alloc c w _).trans (Only.alloc c _ _)
  rw [show (w.alloc (.deferred (some []))).alloc (.loop { state := .ready, pending := none, fn, tmps := a.tmps, params := ps, assign, body, defers := w.heap.size }) = W1 by rw [hW1, hst], ← hD] at henter
  refine ⟨D + 1, _, W1, { target := .fn (.func gf) lb, args := #[.func (.yield (D + 1)) #[] #[]] }, W1, gf, #[.func (.yield (D + 1)) #[] #[]] ++ lb, W1, henter, ?_, ?_, ?_, fun _ => h1, ?_⟩
  · simp only [resolve, hg]
    simp [go_sem]
  · intro f' hf'
    simp [Target.leads] at hf'
    subst hf'
    exact hFg
  · simp [invoke, go_sem, eg]
  refine (hseq (D + 1) (fun pre W => I pre W ∧ W.heap[D + 1]? = some (.loop (st .ready)) ∧ W.heap[D]? = some (.deferred (some []))) W1 (honly _) (by omega) ?_ ?_ ⟨hI _ _ _ h0 (honly _), hloop, hdef⟩).mono ?_
  · rintro s A B ⟨i1, i2, i3⟩ hab
    exact ⟨hI _ _ _ i1 (hab.mono fun _ _ h => Or.inl h), hab.same _ _ i2 (fun h => by have := hcI _ _ h; cases this), hab.same _ _ i3 (fun h => by have := hcI _ _ h; cases this)⟩
  · rintro pre x W hN ⟨i1, i2, i3⟩
    have hy := run_yield (P := P) (args := encs x) i2 (by rw [hst]; exact hps x)
    rw [hst] at hy
    have hlt0 : D + 1 < W.heap.size := (Array.getElem?_eq_some_iff.1 i2).1
    obtain ⟨Wa, hWa⟩ : ∃ Wa, Wa = W.alloc (ob x) := ⟨_, rfl⟩
    have oa : ∀ c : Nat → Obj → Prop, Only c W Wa := fun c => by rw [hWa]; exact Only.alloc c W _
    have hob0 : Wa.heap[W.heap.size]? = some (ob x) := by rw [hWa]; exact World.alloc_heap_new W _
    have i2 := (oa (fun _ _ => False)).same _ _ i2 (fun h => h)
    have i3 := (oa (fun _ _ => False)).same _ _ i3 (fun h => h)
    have hbeg := run_beginRound (P := P) i2 (by rw [hst])
    obtain ⟨W2, hW2⟩ : ∃ W2, W2 = Wa.putObj (D + 1) (.loop (st .busy)) := ⟨_, rfl⟩
    have hlt : D + 1 < Wa.heap.size := (Array.getElem?_eq_some_iff.1 i2).1
    have hob : W2.heap[W.heap.size]? = some (ob x) := by rw [hW2]; exact (World.putObj_heap_other (by omega)).trans hob0
    have o2 : ∀ c : Nat → Obj → Prop, c (D + 1) (.loop (st .ready)) → Only c Wa W2 := fun c hc => by rw [hW2]; exact Only.putObj i2 hc _
    have l2 : W2.heap[D + 1]? = some (.loop (st .busy)) := by rw [hW2]; exact World.putObj_heap_same hlt
    have d2 : W2.heap[D]? = some (.deferred (some [])) := by rw [hW2]; exact (World.putObj_heap_other (by omega)).trans i3
    rw [show ({ st .ready with state := .busy } : Loop) = st .busy by rw [hst], ← hW2] at hbeg
    refine ⟨fn, _, assign, body, hy, roundIn_of_wpIn hfn (hassign _ x W _ W.heap.size rfl ⟨W2, by rw [← hWa]; exact hbeg, ?_⟩)⟩
    refine wpIn_mono (hbody _ pre x W.heap.size W2 hN (hI _ _ _ i1 ((oa _).trans (o2 _ (Or.inr ⟨rfl, by omega⟩)))) hob (by omega)) ?_
    rintro e a3 W3 ⟨rfl, k1, k2⟩
    have l3 := k1.same _ _ l2 (fun h => by cases h.2)
    have d3 := k1.same _ _ d2 (fun h => by cases h.2)
    have hend := run_endRound (P := P) none l3
    rw [show ({ st .busy with state := if (none : Option Code).isNone then .ready else .done, pending := none } : Loop) = st .ready by rw [hst]; rfl] at hend
    have lt3 : D + 1 < W3.heap.size := (Array.getElem?_eq_some_iff.1 l3).1
    refine ⟨_, _, hend, rfl, ⟨hI _ _ _ k2 (Only.putObj l3 (Or.inr ⟨rfl, by omega⟩) _), World.putObj_heap_same lt3, (World.putObj_heap_other (by omega)).trans d3⟩, ?_⟩
    exact (((oa _).trans (o2 _ (hcC _ _ rfl))).trans (k1.mono fun _ _ h => h.1)).trans (Only.putObj l3 (hcC _ _ rfl) _)
  · rintro e W2 ⟨⟨v, rfl⟩, xs, hs, i1, i2, i3⟩
    refine ⟨none, _, by have := run_endLoop (P := P) i2 (by rw [hst]; simp); rw [hst] at this; exact this, ?_⟩
    exact hdone _ xs _ (by omega) (hS _ _ _ hs (Only.putObj i2 ⟨rfl, by omega⟩ _)) (hI _ _ _ i1 (Only.putObj i2 (Or.inr ⟨rfl, by omega⟩) _)) ((World.putObj_heap_other (by omega)).trans i3)
end Go.Proofs.YtjpalbonclgflaaGreat

