/- Contracts and plain laws of several functions, one after the other: ICheckA, MCheck, MMul, ICheck. -/
import Derived.Deep.RegionHeld3
import Derived.StillTailTactics
import Derived.Test.YthpgeeaccmgbkaaGreatPart14
import Derived.Test.YthpgeeaccmgbkaaGreatPart9
import Derived.Test.YthpgeeaccmgbkaaGreatPart2
import Derived.Test.YthpgeeaccmgbkaaGreatAnyM
import Derived.Test.YthpgeeaccmgbkaaGreatPart10
import Derived.Test.YthpgeeaccmgbkaaGreatRefB
/- integer.Check at any digits. -/
namespace Go.Proofs.YthpgeeaccmgbkaaGreat
open Go.RowKit

/-- Whether digits are canonical. -/
def cnB (ng : Bool) (s : ByteArray) : Bool := decide (ineg (ival ng s) = ng ∧ imag (ival ng s) = s)
theorem cnB_iff (ng : Bool) (s : ByteArray) : cnB ng s = true ↔ ineg (ival ng s) = ng ∧ imag (ival ng s) = s := by simp [cnB]
theorem beq_str (s t : ByteArray) : (s == t) = decide (s = t) := by
 rw [beq_toListBytes]
 by_cases h : s = t
 ·
  subst h; simp
 ·
  have h2 : ¬ s.toList = t.toList := fun e => h (str_ext (by rw [← ByteArray.toList_eq, ← ByteArray.toList_eq]; exact e))
  simp [h, h2]
theorem neq_canon (ng : Bool) (s : ByteArray) (w : World) : (binOp .neq 28 (.agg #[.bool (ineg (ival ng s)), .string (imag (ival ng s))]) (.agg #[.bool ng, .string s])).run Tryz.prog w = .ok (.bool (!cnB ng s)) w := by
 have e : cnB ng s = (ineg (ival ng s) == ng && imag (ival ng s) == s) := by
  unfold cnB
  rw [beq_str]
  by_cases h1 : ineg (ival ng s) = ng <;> by_cases h2 : imag (ival ng s) = s <;> simp [h1, h2]
 rw [run_neq_struct, eqIn_int, e]; rfl
theorem neq_canon2 (ng : Bool) (s : ByteArray) (w : World) : (binOp .neq 28 (.agg #[.bool ng, .string s]) (.agg #[.bool (ineg (ival ng s)), .string (imag (ival ng s))])).run Tryz.prog w = .ok (.bool (!cnB ng s)) w := by
 have e : cnB ng s = (ng == ineg (ival ng s) && s == imag (ival ng s)) := by
  unfold cnB
  rw [beq_str]
  by_cases h1 : ineg (ival ng s) = ng
  ·
   by_cases h2 : imag (ival ng s) = s
   ·
    simp [h1, h2]
   ·
    have h3 : ¬ s = imag (ival ng s) := fun e => h2 e.symm
    simp [h1, h2, h3]
  ·
   have h3 : ¬ ng = ineg (ival ng s) := fun e => h1 e.symm
   simp [h1, h3]
 rw [run_neq_struct, eqIn_int, e]; rfl
def chkZ (c : Bool) : Int := if c then 0 else 1
set_option maxRecDepth 100000 in
set_option maxHeartbeats 3200000 in
theorem icheck_any (ng : Bool) (s : ByteArray) (w : World) (hs : s.size ≤ 1099511627775) :
  Calls Tryz.prog 59 #[.agg #[.bool ng, .string s]] w (Ret w (.int .i64 (chkZ (cnB ng s)))) := by
 have hs' : s.size ≤ 1099511627776 := by omega
 have hq := fun w' => neq_canon ng s w'
 have s0 := (Below.refl w.heap.size w).alloc (Nat.le_refl _) (.cells #[.bool ng, .string s] 28)
 have hnum := fun v w' h => number_any ng (dg (bval s.data.toList)) v w' h (dg_lt _) (dg_size hs')
 have hval : IntV (sgn ng (val (dg (bval s.data.toList)))) = .agg #[.bool (ineg (ival ng s)), .string (imag (ival ng s))] := by rw [val_dg]; rfl
 rw [hval] at hnum
 have hdig := fun w' => digits_any ng s w' hs'
 obtain ⟨cb, hcb⟩ : ∃ cb, cb = cnB ng s := ⟨_, rfl⟩
 rw [← hcb] at hq ⊢
 have HNUM := Lib.hid hnum; clear hnum
 have HDIG := Lib.hid hdig; clear hdig
 have HCB := Lib.hid hcb; clear hcb
 have S0 := Lib.hid s0; clear s0
 clear hval
 go_enter Tryz.func59, Tryz.ntmps59
 go_wp2_with fail
 refine wp_region_held_drew (S := fun w' => w'.cell? ⟨w.heap.size, 0, none⟩ = some (.bool ng) ∧ w'.cell? ⟨w.heap.size, 1, none⟩ = some (.string s)) (by kernel_rfl) ?_ (fun hHeld => ?_)
 ·
  go_keep
 refine zT 0 (h := ?_)
 (try simp only [Act.put, zA, zB, zC])
 refine zT 1 (h := ?_)
 (try simp only [Act.put, zA, zB, zC])
 refine zT 2 (h := ?_)
 (try simp only [Act.put, zA, zB, zC])
 refine zT 5 (h := ?_)
 (try simp only [Act.put, zA, zB, zC])
 refine zR 3 (h := fun K hK => ?_)
 go_simp
 go_at_call 81
 refine (HDIG.out _).mono ?_
 rintro e w2 ⟨hq2, v2, rfl, hv2⟩
 dsimp only
 have z0 := (hq2.cell (p := ⟨w.heap.size, 0, none⟩) (by simp)).trans hHeld.1
 have z1 := (hq2.cell (p := ⟨w.heap.size, 1, none⟩) (by simp)).trans hHeld.2
 refine hK.out _ _ ⟨z0, z1⟩ (fun hHeld2 => ?_)
 clear hK K
 (try simp only [Act.put, zA, zB, zC])
 have hsz2 : w.heap.size < w2.heap.size := by have := hq2.size; simp at this; omega
 refine zR 4 (h := fun K hK => ?_)
 go_simp
 go_at_call 67
 refine (HNUM.out _ _ hv2).mono ?_
 rintro e w3 ⟨hq3, rfl⟩
 dsimp only
 have z2 := (hq3.cell (p := ⟨w.heap.size, 0, none⟩) (by simp; omega)).trans hHeld2.1
 have z3 := (hq3.cell (p := ⟨w.heap.size, 1, none⟩) (by simp; omega)).trans hHeld2.2
 refine hK.out _ _ ⟨z2, z3⟩ (fun hHeld3 => ?_)
 clear hK K
 (try simp only [Act.put, zA, zB, zC])
 have s3 := S0.out.drew.trans (hq2.mono (by simp))
 have s4 := s3.trans (hq3.mono s3.size)
 have S4 := Lib.hid s4; clear s4
 clear hq2 hq3 hv2 s3
 refine zT 6 (h := ?_)
 (try simp only [Act.put, zA, zB, zC])
 refine wpAnyH_done (by kernel_rfl) ?_ _
 clear hq
 cases cb with
 | true =>
  go_wp2_with fail
  go_ret
  exact ⟨S4.out, rfl⟩
 | false =>
  go_wp2_with fail
  go_ret
  exact ⟨S4.out, rfl⟩
end Go.Proofs.YthpgeeaccmgbkaaGreat

/- matrix.Check, bad, square at good matrices. -/
namespace Go.Proofs.YthpgeeaccmgbkaaGreat
open Go.RowKit

theorem cnB_canon (z : Int) : cnB (ineg z) (imag z) = true := by rw [cnB_iff, ival_canon]; exact ⟨rfl, rfl⟩
set_option maxRecDepth 100000 in
set_option maxHeartbeats 3200000 in
theorem odd1_any (z : Int) (w : World) (hs : (imag z).size ≤ 1099511627775) :
  Calls Tryz.prog 168 #[.agg #[.bool (ineg z), .string (imag z)]] w (Ret w (.bool false)) := by
 have hic := fun w' => icheck_any (ineg z) (imag z) w' hs
 rw [cnB_canon] at hic
 have s0 := (Below.refl w.heap.size w).alloc (Nat.le_refl _) (.cells #[.bool (ineg z), .string (imag z)] 28)
 have S0 := Lib.hid s0; clear s0
 have HIC := Lib.hid hic; clear hic
 go_enter Tryz.func168, Tryz.ntmps168
 go_wp2_with fail
 go_at_call 59
 refine (HIC.out _).mono ?_
 rintro e w1 ⟨hq, rfl⟩
 have s1 := S0.out.trans (hq.mono S0.out.size)
 have S1 := Lib.hid s1; clear s1
 clear hq
 simp only [chkZ]
 go_wp2_with fail
 go_ret
 exact ⟨S1.out, rfl⟩
set_option maxRecDepth 100000 in
set_option maxHeartbeats 3200000 in
theorem odd_any (l : List Int) (v : Value) (w : World) (hr : Row w v l.length (civ l)) (hs : ∀ z ∈ l, (imag z).size ≤ 1099511627775) :
  Calls Tryz.prog 156 #[v] w (Ret w (.bool false)) := by
 have ha := anyI_any l v 168 #[] w hr (enters_of Tryz.func168 (by kernel_rfl) rfl) (fun x hx w' hb => odd1_any x w' (hs x hx))
 obtain ⟨va, vc, rfl, hle⟩ := hr.slice
 have HA := Lib.hid ha; clear ha
 clear hr
 go_enter Tryz.func156, Tryz.ntmps156
 go_wp2_with fail
 go_at_call 60
 refine HA.out.mono ?_
 rintro e w1 ⟨hq, rfl⟩
 have HQ := Lib.hid hq; clear hq
 go_wp2_with fail
 go_ret
 exact ⟨HQ.out, rfl⟩
set_option maxRecDepth 100000 in
set_option maxHeartbeats 3200000 in
theorem check1_any (a a0 : Option Addr) (m c b0 off cc n c0 : Nat) (bm : Nat) (w : World) (hb : Blk w bm 70 [.slice (some ⟨b0, off, none⟩) n cc]) (hn : 0 < n) (h0 : w.cell? ⟨b0, off, none⟩ = some (.slice a0 m c0)) :
  Calls Tryz.prog 155 #[.slice a m c, .pointer (some ⟨bm, 0, none⟩)] w (Ret w (.bool false)) := by
 have x0 := hb.cell (j := 0) rfl
 have s0 := Below.refl w.heap.size w
 have hn0 : (0 : Int) < (n : Int) := by omega
 have t0 : ((m : Int) == (m : Int)) = true := by simp
 have S0 := Lib.hid s0; clear s0
 clear hb
 go_enter Tryz.func155, Tryz.ntmps155
 go_wp2_with fail
 go_ret
 exact ⟨S0.out, rfl⟩
/-- The slices of the rows of a table. -/
theorem tab_hd {w : World} {v : Value} {M : List (List Int)} {n m p : Nat} (h : Tab w v M) (ok : MatOk M n m p) : ∃ l : List Hd, l.length = M.length ∧ Row w v l.length (l.map hdV) ∧ ∀ x ∈ l, x.2.1 = m ∧ ∃ r ∈ M, Row w (hdV x) r.length (civ r) := by
 obtain ⟨rvs, h1, h2, h3⟩ := h
 have key : ∀ i rv, rvs[i]? = some rv → ∃ x : Hd, rv = hdV x ∧ x.2.1 = m ∧ ∃ r ∈ M, Row w (hdV x) r.length (civ r) := fun i rv hrv => by
  have hi : i < M.length := by rw [← h1]; exact (List.getElem?_eq_some_iff.1 hrv).1
  have hm : M[i]? = some M[i] := List.getElem?_eq_getElem hi
  obtain ⟨rv', h4, h5⟩ := h3 i _ hm
  rw [hrv] at h4
  obtain rfl := Option.some.inj h4
  obtain ⟨a, c, rfl, -⟩ := h5.slice
  have hr := ok.row _ (List.mem_of_getElem? hm)
  exact ⟨(a, M[i].length, c), rfl, hr, M[i], List.mem_of_getElem? hm, h5⟩
 have : ∀ (L : List Value), (∀ (i : Nat) (rv : Value), L[i]? = some rv → ∃ x : Hd, rv = hdV x ∧ x.2.1 = m ∧ ∃ r ∈ M, Row w (hdV x) r.length (civ r)) → ∃ l : List Hd, l.map hdV = L ∧ ∀ x ∈ l, x.2.1 = m ∧ ∃ r ∈ M, Row w (hdV x) r.length (civ r) := by
  intro L
  induction L with
  | nil => intro _; exact ⟨[], rfl, by simp⟩
  | cons u L ih =>
   intro hL
   obtain ⟨x, rfl, hx⟩ := hL 0 u rfl
   obtain ⟨l, hl, hl2⟩ := ih (fun i rv hi => hL (i + 1) rv hi)
   exact ⟨x :: l, by rw [List.map_cons, hl], fun y hy => by
    rcases List.mem_cons.1 hy with rfl | hy
    ·
     exact hx
    ·
     exact hl2 y hy⟩
 obtain ⟨l, hl, hl2⟩ := this rvs key
 have hll : l.length = M.length := by rw [← h1, ← hl, List.length_map]
 exact ⟨l, hll, by rw [hl, hll]; exact h2, hl2⟩
set_option maxRecDepth 100000 in
set_option maxHeartbeats 3200000 in
theorem mcheck_any (n m p : Nat) (M : List (List Int)) (v : Value) (w : World) (hT : Tab w v M) (ok : MatOk M n m p) (hn0 : 0 < n) (hn : n ≤ 32) (hm0 : 0 < m) (hm : m ≤ 32) (hp : p ≤ 1000000) :
  Calls Tryz.prog 130 #[v] w (Ret w (.int .i64 0)) := by
 obtain ⟨l, hl, hrow, hlx⟩ := tab_hd hT ok
 obtain ⟨b, off, cc, a', c', rfl, hb, hcell⟩ := tab_first hT ok hn0
 have hln : l.length = n := by rw [hl, ok.len]
 have hok := ok.len
 have hsm := ok.sm
 rw [hok] at hrow ⊢
 have s0 := (Below.refl w.heap.size w).alloc (Nat.le_refl _) (.cells #[.slice (some ⟨b, off, none⟩) n cc] 70)
 have b0 := Blk.new w 70 [.slice (some ⟨b, off, none⟩) n cc]
 obtain ⟨w1, hw1⟩ : ∃ w1, w.alloc (.cells #[.slice (some ⟨b, off, none⟩) n cc] 70) = w1 := ⟨_, rfl⟩
 rw [hw1] at s0 b0
 have hrow1 := hrow.below s0 (Nat.le_refl _)
 have hcell1 := (s0.cell (p := ⟨b, off, none⟩) hb).trans hcell
 have hR1 := fun w' (hb' : Below w1.heap.size w1 w') => anyR_any l (.slice (some ⟨b, off, none⟩) n cc) 155 #[.pointer (some ⟨w.heap.size, 0, none⟩)] w' (hrow1.below hb' (Nat.le_refl _)) (enters_of Tryz.func155 (by kernel_rfl) rfl)
  (fun x hx w'' hb => by
   obtain ⟨x1, x2, x3⟩ := x
   obtain rfl : x2 = m := (hlx _ hx).1
   have hbb := hb'.trans (hb.mono hb'.size)
   exact check1_any x1 a' x2 x3 b off cc n c' w.heap.size w'' (b0.keep hbb) hn0 ((hbb.cell (p := ⟨b, off, none⟩) (show b < w1.heap.size by have := s0.size; omega)).trans hcell1))
 have hR2 := fun w' (hb' : Below w1.heap.size w1 w') => anyR_any l (.slice (some ⟨b, off, none⟩) n cc) 156 #[] w' (hrow1.below hb' (Nat.le_refl _)) (enters_of Tryz.func156 (by kernel_rfl) rfl)
  (fun x hx w'' hb => by
   obtain ⟨-, r, hr, hxr⟩ := hlx x hx
   exact odd_any r (hdV x) w'' ((hxr.below s0 (Nat.le_refl _)).below (hb'.trans (hb.mono hb'.size)) (Nat.le_refl _)) (fun z hz => Nat.le_trans (sm.size (hsm r hr z hz)) (by omega)))
 have x0 := b0.cell (j := 0) rfl
 have hl0 := b0.lt
 have t1 : ((n : Int) == 0) = false := by simp; omega
 have t2 : ((m : Int) == 0) = false := by simp; omega
 have t3 : ¬ (32 : Int) < (n : Int) := by omega
 have t3' : ¬ 32 < n := by omega
 have t4 : ¬ (32 : Int) < (m : Int) := by omega
 have t4' : ¬ 32 < m := by omega
 have t5 : (0 : Int) < (n : Int) := by omega
 have HR1 := Lib.hid hR1; clear hR1
 have HR2 := Lib.hid hR2; clear hR2
 have S0 := Lib.hid s0; clear s0
 have B0 := Lib.hid b0; clear b0
 clear hT hrow hrow1 hcell hlx hl hln hok hsm ok
 go_enter Tryz.func130, Tryz.ntmps130
 go_wp2_with fail
 go_at_call 154
 refine (HR1.out _ (Below.refl _ _)).mono ?_
 rintro e w2 ⟨hq, rfl⟩
 have s2 := S0.out.trans (hq.mono S0.out.size)
 have b2 := B0.out.keep hq
 have hq2 := hq
 clear x0
 have x0 := b2.cell (j := 0) rfl
 have S2 := Lib.hid s2; clear s2
 clear hq b2
 go_wp2_with fail
 go_at_call 154
 refine (HR2.out _ hq2).mono ?_
 rintro e w3 ⟨hq, rfl⟩
 have s3 := S2.out.trans (hq.mono S2.out.size)
 have S3 := Lib.hid s3; clear s3
 clear hq
 go_wp2_with fail
 go_ret
 exact ⟨S3.out, rfl⟩
set_option maxRecDepth 100000 in
set_option maxHeartbeats 3200000 in
theorem bad1_any (n m p : Nat) (M : List (List Int)) (v : Value) (w : World) (hT : Tab w v M) (ok : MatOk M n m p) (hn0 : 0 < n) (hn : n ≤ 32) (hm0 : 0 < m) (hm : m ≤ 32) (hp : p ≤ 1000000) :
  Calls Tryz.prog 129 #[v] w (Ret w (.bool false)) := by
 have hc := mcheck_any n m p M v w hT ok hn0 hn hm0 hm hp
 obtain ⟨rvs, h1, h2, -⟩ := hT
 obtain ⟨a, c, rfl, -⟩ := h2.slice
 have HC := Lib.hid hc; clear hc
 clear h2
 go_enter Tryz.func129, Tryz.ntmps129
 go_wp2_with fail
 go_at_call 130
 refine HC.out.mono ?_
 rintro e w1 ⟨hq, rfl⟩
 have HQ := Lib.hid hq; clear hq
 go_wp2_with fail
 go_ret
 exact ⟨HQ.out, rfl⟩
/-- Matrices that bad finds nothing in. -/
def GoodM (w : World) (x : Hd) : Prop := ∃ n m p M, Tab w (hdV x) M ∧ MatOk M n m p ∧ 0 < n ∧ n ≤ 32 ∧ 0 < m ∧ m ≤ 32 ∧ p ≤ 1000000
set_option maxRecDepth 100000 in
set_option maxHeartbeats 3200000 in
theorem bad_any (l : List Hd) (v : Value) (w : World) (hr : Row w v l.length (l.map hdV)) (hg : ∀ x ∈ l, GoodM w x) :
  Calls Tryz.prog 110 #[v] w (Ret w (.bool false)) := by
 have ha := anyM_any l v 129 #[] w hr (enters_of Tryz.func129 (by kernel_rfl) rfl) (fun x hx w' hb => by
  obtain ⟨n, m, p, M, hT, ok, h1, h2, h3, h4, h5⟩ := hg x hx
  exact bad1_any n m p M (hdV x) w' (hT.below hb (Nat.le_refl _)) ok h1 h2 h3 h4 h5)
 obtain ⟨va, vc, rfl, hle⟩ := hr.slice
 have HA := Lib.hid ha; clear ha
 clear hr
 go_enter Tryz.func110, Tryz.ntmps110
 go_wp2_with fail
 go_at_call 128
 refine HA.out.mono ?_
 rintro e w1 ⟨hq, rfl⟩
 have HQ := Lib.hid hq; clear hq
 go_wp2_with fail
 go_ret
 exact ⟨HQ.out, rfl⟩
end Go.Proofs.YthpgeeaccmgbkaaGreat

/- matrix.Mul, square at good matrices. -/
namespace Go.Proofs.YthpgeeaccmgbkaaGreat
open Go.RowKit

def MatRet2 (n m : Nat) (rows : List (List Int)) (w : World) (e : Ending) (w' : World) : Prop :=
 Below w.heap.size w w' ∧ ∃ b, e = .returned (.tuple #[.slice (some ⟨b, 0, none⟩) n n, .int .i64 0]) ∧ MatB w.heap.size w' b m rows
set_option maxRecDepth 100000 in
set_option maxHeartbeats 3200000 in
theorem mul_any (n m c p : Nat) (A B : List (List Int)) (va vb : Value) (w : World) (hA : Tab w va A) (hB : Tab w vb B) (okA : MatOk A n m p) (okB : MatOk B m c p) (hn0 : 0 < n) (hn : n ≤ 32) (hm0 : 0 < m) (hm : m ≤ 32) (hc0 : 0 < c) (hc : c ≤ 32) (hp : p ≤ 100000) :
  Calls Tryz.prog 79 #[va, vb] w (MatRet2 n c (matF n c (mulF A B)) w) := by
 obtain ⟨ba, oa, ca, a', c', rfl, hba, hca⟩ := tab_first hA okA hn0
 obtain ⟨bb, ob, cb, b', d', rfl, hbb, hcb⟩ := tab_first hB okB hm0
 have hAl := okA.len
 have hBl := okB.len
 rw [hAl] at hA ⊢
 rw [hBl] at hB ⊢
 have bs := Blk.new w 70 [.slice (some ⟨ba, oa, none⟩) n ca, .slice (some ⟨bb, ob, none⟩) m cb]
 have s0 := (Below.refl w.heap.size w).alloc (Nat.le_refl _) (.cells #[.slice (some ⟨ba, oa, none⟩) n ca, .slice (some ⟨bb, ob, none⟩) m cb] 70)
 obtain ⟨w1, hw1⟩ : ∃ w1, w.alloc (.cells #[.slice (some ⟨ba, oa, none⟩) n ca, .slice (some ⟨bb, ob, none⟩) m cb] 70) = w1 := ⟨_, rfl⟩
 rw [hw1] at bs s0
 have hA1 := hA.below s0 (Nat.le_refl _)
 have hB1 := hB.below s0 (Nat.le_refl _)
 have hbad := bad_any [(some ⟨ba, oa, none⟩, n, ca), (some ⟨bb, ob, none⟩, m, cb)] (.slice (some ⟨w.heap.size, 0, none⟩) 2 2) w1
  (Row.ofBlk bs (m := 2) (cap := 2) (Nat.le_refl _) (by decide) 2)
  (fun x hx => by
   simp only [List.mem_cons, List.not_mem_nil, or_false] at hx
   rcases hx with rfl | rfl
   ·
    exact ⟨n, m, p, A, hA1, okA, hn0, hn, hm0, hm, by omega⟩
   ·
    exact ⟨m, c, p, B, hB1, okB, hm0, hm, hc0, hc, by omega⟩)
 have hpr := fun w' (hb : Below w1.heap.size w1 w') => product_any n m c p A B _ _ w' (hA1.below hb (Nat.le_refl _)) (hB1.below hb (Nat.le_refl _)) okA okB (by omega) hm0 (by omega) (by omega) hp
 have t0 : ((m : Int) == (m : Int)) = true := by simp
 have hn1 : (0 : Int) < (n : Int) := by omega
 have g0 := (s0.cell (p := ⟨ba, oa, none⟩) hba).trans hca
 have hs1 := s0.size
 have hba1 : ba < w1.heap.size := by omega
 have HBAD := Lib.hid hbad; clear hbad
 have HPR := Lib.hid hpr; clear hpr
 have S0 := Lib.hid s0; clear s0
 clear bs hA hB hA1 hB1 hca hcb hAl hBl okA okB
 go_enter Tryz.func79, Tryz.ntmps79
 go_wp2_with fail
 go_at_call 110
 refine HBAD.out.mono ?_
 rintro e w2 ⟨hq, rfl⟩
 have s2 := S0.out.trans (hq.mono S0.out.size)
 have g1 := (hq.cell (p := ⟨ba, oa, none⟩) hba1).trans g0
 have hq2 := hq
 have S2 := Lib.hid s2; clear s2
 clear hq g0
 go_wp2_with fail
 go_at_call 111
 refine (HPR.out _ hq2).mono ?_
 rintro e w3 ⟨hq, b, rfl, hm3⟩
 have s3 := S2.out.trans (hq.mono S2.out.size)
 have hm4 := hm3.mono S2.out.size
 have S3 := Lib.hid s3; clear s3
 have HM4 := Lib.hid hm4; clear hm4
 clear hq hm3
 go_wp2_with fail
 go_ret2
 exact ⟨S3.out, b, rfl, HM4.out⟩
end Go.Proofs.YthpgeeaccmgbkaaGreat

/- integer.Check and grooveref01.Check. -/
namespace Go.Proofs.YthpgeeaccmgbkaaGreat
open Go.RowKit

set_option maxRecDepth 100000 in
set_option maxHeartbeats 3200000 in
theorem rcheck01_any (ng : Bool) (s : ByteArray) (w : World) (hs : s.size ≤ 1099511627775) :
  Calls Tryz.prog 62 #[.agg #[.bool ng, .string s]] w (Ret w (.int .i64 (chkZ (cnB ng s)))) := by
 have hq := fun w' => neq_canon2 ng s w'
 have s0 := (Below.refl w.heap.size w).alloc (Nat.le_refl _) (.cells #[.bool ng, .string s] 28)
 have hca := fun w' => rcanon_any ng s w' (by omega)
 have hval : IntV (ival ng s) = .agg #[.bool (ineg (ival ng s)), .string (imag (ival ng s))] := rfl
 rw [hval] at hca
 obtain ⟨cb, hcb⟩ : ∃ cb, cb = cnB ng s := ⟨_, rfl⟩
 rw [← hcb] at hq ⊢
 have HCA := Lib.hid hca; clear hca
 have HCB := Lib.hid hcb; clear hcb
 have S0 := Lib.hid s0; clear s0
 clear hval
 go_enter Tryz.func62, Tryz.ntmps62
 go_wp2_with fail
 refine wp_region_held_drew (S := fun w' => w'.cell? ⟨w.heap.size, 0, none⟩ = some (.bool ng) ∧ w'.cell? ⟨w.heap.size, 1, none⟩ = some (.string s)) (by kernel_rfl) ?_ (fun hHeld => ?_)
 ·
  go_keep
 refine zT 0 (h := ?_)
 (try simp only [Act.put, zA, zB, zC])
 refine zT 1 (h := ?_)
 (try simp only [Act.put, zA, zB, zC])
 refine zR 2 (h := fun K hK => ?_)
 go_simp
 go_at_call 73
 refine (HCA.out _).mono ?_
 rintro e w2 ⟨hq2, rfl⟩
 dsimp only
 have z0 := (hq2.cell (p := ⟨w.heap.size, 0, none⟩) (by simp)).trans hHeld.1
 have z1 := (hq2.cell (p := ⟨w.heap.size, 1, none⟩) (by simp)).trans hHeld.2
 refine hK.out _ _ ⟨z0, z1⟩ (fun hHeld2 => ?_)
 clear hK K
 (try simp only [Act.put, zA, zB, zC])
 have s4 := S0.out.drew.trans (hq2.mono (by simp))
 have S4 := Lib.hid s4; clear s4
 clear hq2
 refine zT 3 (h := ?_)
 (try simp only [Act.put, zA, zB, zC])
 refine wpAnyH_done (by kernel_rfl) ?_ _
 clear hq
 cases cb with
 | true =>
  go_wp2_with fail
  go_ret
  exact ⟨S4.out, rfl⟩
 | false =>
  go_wp2_with fail
  go_ret
  exact ⟨S4.out, rfl⟩
end Go.Proofs.YthpgeeaccmgbkaaGreat

