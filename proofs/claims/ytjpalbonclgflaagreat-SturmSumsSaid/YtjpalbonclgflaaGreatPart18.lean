/- Contracts and plain laws of several functions, one after the other: RowS, Aw5P, Fin5. -/
import Derived.Lib.SmallJoins
import Derived.Deep.Slices
import Derived.Deep.Strs
import Derived.Carry
import Derived.Test.YtjpalbonclgflaaGreatRawC
import Derived.Test.YtjpalbonclgflaaGreatRfn
import Derived.Test.YtjpalbonclgflaaGreatPart10
/- Arguments of the rows, opened: a list of integers of any size (XRowN without graphs). -/
namespace Go.Proofs.YtjpalbonclgflaaGreat
open Go.RowKit Go.ChangeShapes Go.WideShapes Go.Deep Go.Joins

theorem cellsInt2 : Tryz.prog.cellsOf 25 = 2 := by kernel_rfl
theorem cell_ok_slice {P : Program} {w : World} {r : Reach} {base : Nat} {t e : TypeId} {a : Addr} {len cap : Nat} (ht : P.underlying t = some (.slice e)) (h : Cell.okWide P w r base t (.slice (some a) len cap)) : a.spot = none ∧ a.block < w.heap.size := by
 unfold Cell.okWide Cell.ok at h
 rw [ht] at h
 obtain ⟨-, -, -, hsp, row, cells, hsh, -⟩ := h
 refine ⟨hsp, ?_⟩
 rcases Nat.lt_or_ge a.block w.heap.size with h' | h'
 ·
  exact h'
 ·
  simp [World.shape?, Array.getElem?_eq_none h'] at hsh
section
variable {H : Type} {enc : TypeId × Value → H}
set_option maxRecDepth 100000 in
theorem open_nums {W : World} {base : Nat} {v : Value} {d : DataW H} {p : List MemPlace} (hval : Value.okWide Tryz.prog W .any base 22 v) (h : DataW.Trod enc Tryz.prog W 0 (fun _ => true) true 22 v d p) :
  ∃ l : List (Bool × ByteArray), Row W v l.length (cnv l) := by
 have hc : Cell.okWide Tryz.prog W .any base 22 v := by
  unfold Value.okWide at hval
  rw [Tryz.underlying22] at hval
  exact hval
 obtain ⟨n, h1⟩ := h
 obtain ⟨a0, b0, c0, rfl⟩ : ∃ a b c, v = .slice a b c := by
  unfold Cell.okWide Cell.ok at hc
  rw [Tryz.underlying22] at hc
  cases v <;> simp at hc <;> exact ⟨_, _, _, rfl⟩
 have h1' : DataW.trod enc Tryz.prog W 0 (fun _ => true) true n 22 [.slice a0 b0 c0] = some (d, p) := h1
 rcases open_slice Tryz.underlying22 h1' with ⟨hs, -⟩ | ⟨a, len, cap, m, n', D, Pl, hs, -, hl, hm, hmm, -, hx⟩
 ·
  obtain ⟨rfl, rfl, rfl⟩ : a0 = none ∧ b0 = 0 ∧ c0 = 0 := by simpa using hs
  exact ⟨[], .inl ⟨rfl, rfl, rfl⟩⟩
 ·
  obtain ⟨rfl, rfl, rfl⟩ : a0 = some a ∧ b0 = len ∧ c0 = cap := by simpa using hs
  simp only [if_true] at hmm
  subst hmm
  obtain ⟨hsp, hlt⟩ := cell_ok_slice Tryz.underlying22 hc
  have key : ∀ i, i < m → ∃ x : Bool × ByteArray, W.cell? (a.add (i * 2)) = some (.bool x.1) ∧ W.cell? (a.add (i * 2 + 1)) = some (.string x.2) := by
   intro i hi
   obtain ⟨cs', h3, h2⟩ := hx i hi
   rw [cellsInt2] at h3
   obtain ⟨-, hlen, hget⟩ := World.cells?_some h3
   obtain ⟨y0, y1, k, -, -, t0, t1⟩ := trod_struct2 Tryz.underlying25 h2
   match cs', hlen with
   | [u0, u1], _ =>
    obtain ⟨ng, e0, -⟩ := DataW.trod_bool Tryz.underlying4 t0
    obtain ⟨sg, e1, -, hs⟩ := DataW.trod_string Tryz.underlying9 t1
    have q0 : u0 = .bool ng := by simpa [show Tryz.prog.cellsOf 4 = 1 from by kernel_rfl] using e0
    have q1 : u1 = .string sg := by simpa [show Tryz.prog.cellsOf 9 = 1 from by kernel_rfl] using e1
    subst q0 q1
    refine ⟨(ng, sg), ?_, ?_⟩
    ·
     have := hget 0 (by simp)
     rw [add_add] at this
     simpa using this
    ·
     have := hget 1 (by simp)
     rw [add_add] at this
     simpa using this
  obtain ⟨E, hE⟩ := choose_lt key
  refine ⟨(List.range b0).map E, .inr ⟨a.block, a.off, m, ?_, ?_, ?_, hlt, fun j u hj => ?_⟩⟩
  ·
   rw [List.length_map, List.length_range]
   rcases a with ⟨b, o, sp⟩
   obtain rfl : sp = none := hsp
   rfl
  ·
   rw [List.length_map, List.length_range]; exact hl
  ·
   exact hm
  ·
   have hlc : (cnv ((List.range b0).map E)).length = b0 * 2 := by
    have : ∀ l : List (Bool × ByteArray), (cnv l).length = l.length * 2 := fun l => by
     induction l with
     | nil => rfl
     | cons y l ih =>
      have e : cnv (y :: l) = [.bool y.1, .string y.2] ++ cnv l := rfl
      rw [e, List.length_append, ih, List.length_cons]
      simp; omega
    rw [this, List.length_map, List.length_range]
   have hjl := (List.getElem?_eq_some_iff.1 hj).1
   rw [hlc] at hjl
   have hi : j / 2 < b0 := by omega
   have h5 := hE (j / 2) (by omega)
   have hg : ((List.range b0).map E)[j / 2]? = some (E (j / 2)) := by simp [hi]
   have h6 := cnv_get hg
   rcases a with ⟨b, o, sp⟩
   obtain rfl : sp = none := hsp
   have e : ∀ k, (Addr.mk b o none).add k = ⟨b, o + k, none⟩ := fun k => by unfold Addr.add; split <;> simp_all
   rw [e, e] at h5
   rcases Nat.mod_two_eq_zero_or_one j with h0 | h0
   ·
    have hj2 : j / 2 * 2 = j := by omega
    rw [hj2] at h5 h6
    have h7 := h6.1
    rw [hj] at h7
    obtain rfl := Option.some.inj h7
    exact h5.1
   ·
    have hj2 : j / 2 * 2 + 1 = j := by omega
    rw [hj2] at h5 h6
    have h7 := h6.2
    rw [hj] at h7
    obtain rfl := Option.some.inj h7
    exact h5.2
end
end Go.Proofs.YtjpalbonclgflaaGreat

/- Facts at x^2 - 2: plain. -/
namespace Go.Proofs.YtjpalbonclgflaaGreat

instance (m : Nat) (z : Int) : Decidable (zs m z) := inferInstanceAs (Decidable (_ < _))
instance (m : Nat) (q : Rat) : Decidable (rs m q) := inferInstanceAs (Decidable (_ ∧ _))
def pA : List Int := [-2, 0, 1]
def rA : List (List Int) := [[-2, 0, 1], [0, 1], [1]]
theorem stm_pA : stmA pA = rA := by decide +kernel
theorem ends_pA : Ends pA := by
 intro k x h
 have h2 : pA = [-2, 0] ++ [1] := rfl
 rw [h2] at h
 have h3 := (List.append_inj' h rfl).2
 simp only [List.cons.injEq, and_true] at h3
 rw [← h3]; decide
theorem fine_pA : AFine pA 10 where
 len := by decide
 pos := by decide
 ends := ends_pA
 hM := by decide
 z := by decide +kernel
 zd := by decide +kernel
 g := gfine_of fun n hn => by
  have hl : (prm pA, prm (der pA)).2.length = 2 := by decide +kernel
  rw [hl] at hn
  match n, hn with
  | 0, _ => decide +kernel
  | 1, _ => decide +kernel
  | 2, _ => decide +kernel
 c := by decide +kernel
 sl := by decide +kernel
 sp := by decide +kernel
theorem bnd_pA : bnd pA = 4 := by decide +kernel
theorem iso_pA : Iso rA 10 (-(Rat.divInt 4 1)) (Rat.divInt 4 1) [(-(Rat.divInt 4 1), 0), (0, Rat.divInt 4 1)] := by
 have hm : (-(Rat.divInt 4 1) + Rat.divInt 4 1) / 2 = (0 : Rat) := by decide +kernel
 have h1 : Iso rA 10 (-(Rat.divInt 4 1)) ((-(Rat.divInt 4 1) + Rat.divInt 4 1) / 2) [(-(Rat.divInt 4 1), 0)] := by
  rw [hm]
  exact Iso.one _ _ (by decide +kernel) (by decide +kernel) (by decide +kernel)
 have h2 : Iso rA 10 ((-(Rat.divInt 4 1) + Rat.divInt 4 1) / 2) (Rat.divInt 4 1) [(0, Rat.divInt 4 1)] := by
  rw [hm]
  exact Iso.one _ _ (by decide +kernel) (by decide +kernel) (by decide +kernel)
 exact Iso.more _ _ _ _ (by decide +kernel) (by decide +kernel) (by decide +kernel) (by decide +kernel) h1 h2
theorem root_pA : (chg rA 0 : Int) - (chg rA (Rat.divInt 4 1) : Int) = 1 := by decide +kernel
theorem wds_pA : (∀ k, k < 3 → Rat.divInt 1 2 < wds 0 (Rat.divInt 4 1) k) ∧ ¬ Rat.divInt 1 2 < wds 0 (Rat.divInt 4 1) 3 ∧ ∀ k, k ≤ 3 → rs 10 (wds 0 (Rat.divInt 4 1) k) := by
 refine ⟨fun k hk => ?_, by decide +kernel, fun k hk => ?_⟩
 ·
  match k, hk with
  | 0, _ => decide +kernel
  | 1, _ => decide +kernel
  | 2, _ => decide +kernel
 ·
  match k, hk with
  | 0, _ => decide +kernel
  | 1, _ => decide +kernel
  | 2, _ => decide +kernel
  | 3, _ => decide +kernel
theorem rfn_pA : (∀ k, k ≤ 3 → rs 10 (rfn rA (0, Rat.divInt 4 1) k).1 ∧ rs 10 (rfn rA (0, Rat.divInt 4 1) k).2) ∧ rfn rA (0, Rat.divInt 4 1) 3 = (Rat.divInt 1 1, Rat.divInt 3 2) := by
 refine ⟨fun k hk => ?_, by decide +kernel⟩
 match k, hk with
 | 0, _ => decide +kernel
 | 1, _ => decide +kernel
 | 2, _ => decide +kernel
 | 3, _ => decide +kernel
theorem chg_pA : chg rA (Rat.divInt (-2) 1) = 2 ∧ chg rA (Rat.divInt 2 1) = 0 := by decide +kernel
end Go.Proofs.YtjpalbonclgflaaGreat

/- grooveref05.Check without numbers, groovelaw05.fine. -/
namespace Go.Proofs.YtjpalbonclgflaaGreat
open Go.RowKit

def CkP (r : List (Bool × ByteArray)) : Prop := cnv r = civ (vals r) ∧ tzI (vals r) = vals r ∧ 0 < r.length ∧ r.length ≤ 65
def CkRet (r : List (Bool × ByteArray)) (w : World) (e : Ending) (w' : World) : Prop := Below w.heap.size w w' ∧ ∃ c : Int, e = .returned (.int .i64 c) ∧ (c = 0 → CkP r)
theorem ck_step {r : List (Bool × ByteArray)} {k : Nat} {nx : Bool} {sx : ByteArray} (h : r[k]? = some (nx, sx)) (h0 : cnv (r.take k) = civ ((vals r).take k)) (h1 : ineg (ival nx sx) = nx) (h2 : imag (ival nx sx) = sx) : cnv (r.take (k + 1)) = civ ((vals r).take (k + 1)) := by
 rw [List.take_add_one, List.take_add_one, h, vals_get h]
 simp only [Option.toList_some]
 rw [civ_snoc]
 have e : cnv (r.take k ++ [(nx, sx)]) = cnv (r.take k) ++ [.bool nx, .string sx] := by simp [cnv]
 rw [e, h0, h1, h2]
set_option maxRecDepth 100000 in
set_option maxHeartbeats 6400000 in
theorem rck5_any (r : List (Bool × ByteArray)) (v : Value) (w : World) (hr : Row w v r.length (cnv r)) (hl : r.length ≤ 68) (hs : ∀ x ∈ r, x.2.size < 8) :
  Calls Tryz.prog 53 #[v, .slice none 0 0] w (CkRet r w) := by
 have hcl := rcanLR r v w hr (by omega) hs
 obtain ⟨va, vc, rfl, hle⟩ := hr.slice
 have hget : ∀ k, k < r.length → ∃ nx sx, r[k]? = some (nx, sx) ∧ (vals r)[k]? = some (ival nx sx) := fun k hk => ⟨(r[k]).1, (r[k]).2, List.getElem?_eq_getElem hk, vals_get (List.getElem?_eq_getElem hk)⟩
 have hst := fun k nx sx h h0 h1 h2 => ck_step (r := r) (k := k) (nx := nx) (sx := sx) h h0 h1 h2
 have htz : (tzI (vals r)).length = r.length → tzI (vals r) = vals r := fun h => by
  have h2 := tzI_take (vals r)
  rw [h, ← vals_length, List.take_length] at h2
  exact h2.symm
 have hfull : r.take r.length = r ∧ (vals r).take r.length = vals r := ⟨List.take_length, by rw [← vals_length]; exact List.take_length⟩
 have hfin : cnv (r.take r.length) = civ ((vals r).take r.length) → (tzI (vals r)).length = r.length → 0 < r.length → r.length ≤ 65 → CkP r := fun h1 h2 h3 h4 => by
  rw [hfull.1, hfull.2] at h1
  exact ⟨h1, htz h2, h3, h4⟩
 obtain ⟨d, hd⟩ : ∃ d, d = (tzI (vals r)).length := ⟨_, rfl⟩
 obtain ⟨n, hn⟩ : ∃ n, n = r.length := ⟨_, rfl⟩
 unfold ListO at hcl
 rw [← hd] at hcl hfin htz
 rw [← hn] at hr hle hl hget hfin htz hcl ⊢
 have HR := zh hr; clear hr
 have HGET := zh hget; clear hget
 have HST := zh hst; clear hst
 have HFIN := zh hfin; clear hfin
 have HTZ := zh htz; clear htz
 have HCL := zh hcl; clear hcl
 clear hs hfull hd hn
 go_enter Tryz.func53, Tryz.ntmps53
 go_wp2_with fail
 refine (HCL.out).mono ?_
 rintro e1 w1 ⟨hq, v1, rfl, hown⟩
 dsimp only
 have hrow := own_row hown
 obtain ⟨a1, c1, rfl⟩ := own_slice hown
 have S1 := zh hq; clear hq
 have HROW := zh hrow; clear hrow
 clear hown
 by_cases hdn : d = n
 ·
  have e1 : ((d : Int) != (n : Int)) = false := by simp; omega
  have htz := HTZ.out hdn
  subst hdn
  by_cases hn0 : d = 0
  ·
   have e2 : ((d : Int) == 0) = true := by simp; omega
   go_wp2_with fail
   go_ret
   exact ⟨S1.out, _, rfl, fun h => by cases h⟩
  ·
   have e2 : ((d : Int) == 0) = false := by simp; omega
   have HTZ1 := zh htz; clear htz
   go_wp2_with fail
   go_loopw [6] (fun i wr => ∃ k : Nat, k ≤ d ∧ i = .int .i64 (k : Int) ∧ Below w1.heap.size w1 wr ∧ cnv (r.take k) = civ ((vals r).take k)) (fun i _ => d - (intOf i).toNat)
   case atStart => exact ⟨0, Nat.zero_le _, rfl, Below.refl _ _, rfl⟩
   case round =>
    obtain ⟨k, hk, rfl, hbel, hall⟩ := hrel
    have hbw := S1.out.trans (hbel.mono S1.out.size)
    by_cases hlt : k < d
    ·
     obtain ⟨nx, sx, hx, hvx⟩ := HGET.out k hlt
     have hnx := HST.out k nx sx hx hall
     obtain ⟨b1, o1, rfl, hb1, hc1⟩ := HROW.out.at_ (by omega)
     obtain ⟨b2, o2, rfl, hb2, hc2⟩ := HR.out.at_ (by omega)
     rw [HTZ1.out] at hc1
     obtain ⟨x0, x1⟩ := int_cells hc1 hbel hb1 hvx
     obtain ⟨x2, x3⟩ := num_cells hc2 hbw hb2 hx
     dsimp only at x2 x3
     have hxx := fun w' => eqIn_int (ineg (ival nx sx)) nx (imag (ival nx sx)) sx w'
     obtain ⟨z, hz⟩ : ∃ z, z = ival nx sx := ⟨_, rfl⟩
     rw [← hz] at hxx x0 x1 hnx
     have hkd : (k : Int) < (d : Int) := by omega
     by_cases hb : (ineg z == nx && imag z == sx) = true
     ·
      rw [hb] at hxx
      simp only [Bool.and_eq_true, beq_iff_eq] at hb
      have hnx := hnx hb.1 (by have h9 := hb.2; rw [beq_toListBytes] at h9; exact str_ext (by rw [← ByteArray.toList_eq, ← ByteArray.toList_eq]; simpa using h9))
      have HNX := zh hnx; clear hnx
      have HBEL := zh hbel; clear hbel
      have HBW := zh hbw; clear hbw
      clear hc1 hc2 hx hvx hz hall hb
      go_wp2_with fail
      go_quiet (fail)
      go_wp2_with fail
      go_roundw
      case rel => exact ⟨k + 1, by omega, by go_num, below_drewN HBEL.out _, HNX.out⟩
      case measure => simp [intOf]; omega
     ·
      rw [Bool.not_eq_true] at hb
      rw [hb] at hxx
      have HBEL := zh hbel; clear hbel
      have HBW := zh hbw; clear hbw
      clear hc1 hc2 hx hvx hz hall hb hnx
      go_wp2_with fail
      go_quiet (fail)
      go_wp2_with fail
      go_ret
      exact ⟨below_drewN HBW.out _, _, rfl, fun h => by cases h⟩
    ·
     obtain rfl : k = d := by omega
     have HALL := zh hall; clear hall
     have HBW := zh hbw; clear hbw
     have HBEL := zh hbel; clear hbel
     clear hk
     go_wp2_with fail
     go_loopw [7] (fun i wr => i = .int .i64 0 ∧ Below w.heap.size w wr) (fun _ _ => 0)
     case atStart => exact ⟨rfl, HBW.out⟩
     case round =>
      obtain ⟨rfl, hb3⟩ := hrel
      by_cases h65 : k ≤ 65
      ·
       have e3 : decide (64 < (k : Int) - 1) = false := decide_eq_false (by omega)
       have hp := HFIN.out HALL.out (by first | rfl | trivial) (by omega) h65
       have HP := zh hp; clear hp
       have HB3 := zh hb3; clear hb3
       go_wp2_with fail
       go_ret
       exact ⟨HB3.out, _, rfl, fun _ => HP.out⟩
      ·
       have e3 : decide (64 < (k : Int) - 1) = true := decide_eq_true (by omega)
       have HB3 := zh hb3; clear hb3
       go_wp2_with fail
       go_ret
       exact ⟨HB3.out, _, rfl, fun h => by cases h⟩
 ·
  have e1 : ((d : Int) != (n : Int)) = true := by simp; omega
  go_wp2_with fail
  go_ret
  exact ⟨S1.out, _, rfl, fun h => by cases h⟩
def FineP5 (r : List (Bool × ByteArray)) : Prop := GLP r ∧ CkP r
def FineRet (r : List (Bool × ByteArray)) (w : World) (e : Ending) (w' : World) : Prop := Below w.heap.size w w' ∧ ∃ b, e = .returned (.bool b) ∧ (b = true → FineP5 r)
set_option maxRecDepth 100000 in
set_option maxHeartbeats 3200000 in
theorem fine5_any (r : List (Bool × ByteArray)) (v : Value) (w : World) (hr : Row w v r.length (cnv r)) :
  Calls Tryz.prog 27 #[v] w (FineRet r w) := by
 have hg := great3_any r v w hr
 have hck := fun w' h h1 h2 => rck5_any r v w' h h1 h2
 obtain ⟨va, vc, rfl, -⟩ := hr.slice
 unfold GLRet at hg
 unfold CkRet at hck
 obtain ⟨n, hn⟩ : ∃ n, n = r.length := ⟨_, rfl⟩
 rw [← hn] at hr hg hck ⊢
 have HR := zh hr; clear hr
 have HG := zh hg; clear hg
 have HCK := zh hck; clear hck
 have HN := zh hn; clear hn
 go_enter Tryz.func27, Tryz.ntmps27
 go_wp2_with fail
 refine (HG.out).mono ?_
 rintro e1 w1 ⟨hq, b, rfl, hb⟩
 dsimp only
 have hr1 := HR.out.below hq (Nat.le_refl _)
 have S1 := zh hq; clear hq
 cases b with
 | true =>
  clear hb
  go_wp2_with fail
  go_ret
  exact ⟨S1.out, _, rfl, fun h => by cases h⟩
 | false =>
  have hgl := hb rfl
  have hck := HCK.out w1 hr1 (by have h9 := HN.out; have := hgl.2; omega) (fun x hx => by have := hgl.1 x hx; omega)
  have HGL := zh hgl; clear hgl
  have HCK1 := zh hck; clear hck
  clear hb hr1
  go_wp2_with fail
  refine (HCK1.out).mono ?_
  rintro e2 w2 ⟨hq2, c, rfl, hc⟩
  dsimp only
  have s2 := S1.out.trans (hq2.mono S1.out.size)
  have S2 := zh s2; clear s2
  clear hq2
  by_cases h0 : c = 0
  ·
   have e0 : ((c : Int) == 0) = true := by rw [h0]; rfl
   have hcc := hc h0
   have HCC := zh hcc; clear hcc
   clear hc h0
   go_wp2_with fail
   go_ret
   exact ⟨S2.out, _, rfl, fun _ => ⟨HGL.out, HCC.out⟩⟩
  ·
   have e0 : ((c : Int) == 0) = false := by simpa using h0
   clear hc
   go_wp2_with fail
   go_ret
   exact ⟨S2.out, _, rfl, fun h => by cases h⟩
end Go.Proofs.YtjpalbonclgflaaGreat

