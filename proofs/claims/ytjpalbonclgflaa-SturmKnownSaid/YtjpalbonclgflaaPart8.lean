/- Contracts and plain laws of several functions, one after the other: DivX, GcdA. -/
import Derived.RangeFuncBound
import Derived.RangeFuncCalls
import Derived.RangeFuncLeaves
import Derived.Shelf.Abstract
import Derived.Shelf.RegionOpen
import Derived.OwnWalkIn
import Derived.TacticsInMore
import Derived.LoopIn
import Derived.Sort.QuietIn
import Derived.Test.YtjpalbonclgflaaKnuA
import Derived.Test.YtjpalbonclgflaaPart9
import Derived.Test.YtjpalbonclgflaaDivM
import Derived.Test.YtjpalbonclgflaaPart7
/- integer.divide by any number. -/
namespace Go.Proofs.Ytjpalbonclgflaa
open Go.RowKit

set_option maxRecDepth 100000 in
set_option maxHeartbeats 1600000 in
theorem divide_lt (X D : Nat) (vx vy : Value) (w : World) (hx : Row w vx (dg X).length (cs32 (dg X))) (hy : Row w vy (dg D).length (cs32 (dg D))) (hlt : X < D) :
  Calls Try.prog 76 #[vx, vy] w (DivRet 0 X w) := by
 have hcmp := compare_any X D vx vy w hx hy
 have hc : cmpN X D = -1 := by simp [cmpN]; omega
 rw [hc] at hcmp
 have HX := zh hx; clear hx
 have HC := zh hcmp; clear hcmp
 clear hy
 go_enter Try.func76, Try.ntmps76
 refine wp_tail2 (fun code2 => ?_)
 go_wp2_with fail
 go_at_call 42
 refine (HC.out).mono ?_
 rintro e w1 ⟨hq1, rfl⟩
 have hx1 := HX.out.below hq1 (Nat.le_refl _)
 have HX1 := zh hx1; clear hx1
 have HQ1 := zh hq1; clear hq1
 go_wp2_with fail
 go_ret2
 exact ⟨HQ1.out, _, _, rfl, by rw [dg_zero]; exact .inl ⟨rfl, rfl, rfl⟩, HX1.out⟩
theorem divide_all (X D : Nat) (vx vy : Value) (w : World) (hx : Row w vx (dg X).length (cs32 (dg X))) (hy : Row w vy (dg D).length (cs32 (dg D))) (hX : (dg X).length ≤ 100000000000) (hD0 : 0 < D) :
  Calls Try.prog 76 #[vx, vy] w (DivRet (X / D) (X % D) w) := by
 rcases Nat.lt_or_ge D 4294967296 with h1 | h1
 ·
  exact divide_any X D vx vy w hx hy hX hD0 h1
 ·
  rcases Nat.lt_or_ge X D with h2 | h2
  ·
   rw [Nat.div_eq_of_lt h2, Nat.mod_eq_of_lt h2]
   exact divide_lt X D vx vy w hx hy h2
  ·
   exact divide_long (fun d w h3 h4 => lz_any d h3 h4 w) X D vx vy w hx hy hX h2 h1
end Go.Proofs.Ytjpalbonclgflaa

/- integer.euclid as an iterator: it ends with the greatest common divisor. -/
namespace Go.Proofs.Ytjpalbonclgflaa
open Go.RowKit Go.Shelf

attribute [local go_sem] Oper.semAt_some

def Slices (o : Obj) : Prop := ∀ c t f, o = .cells c t f → ∀ (k : Nat) v, c[k]? = some v → ∃ a n m, v = .slice a n m
theorem Slices.of_not {o : Obj} (h : o.isCells = false) : Slices o := by
 rintro c t f rfl
 cases h
theorem Slices.one (t : TypeId) (a : Option Addr) (n m : Nat) : Slices (.cells #[.slice a n m] t (0, 0)) := by
 rintro c t' f h k v hv
 cases h
 match k with
 | 0 => exact ⟨a, n, m, by simpa using hv.symm⟩
 | k + 1 => simp at hv
theorem Row.only {c : Nat → Obj → Prop} {A B : World} (h : Only c A B) (hc : ∀ b o, c b o → Slices o) {v : Value} {n : Nat} {xs : List Value} (hr : Row A v n xs) (hx : ∀ x ∈ xs, ∀ a n m, x ≠ .slice a n m) : Row B v n xs := by
 rcases hr with hr | ⟨b, off, cap, hv, h1, h2, h3, h4⟩
 ·
  exact .inl hr
 ·
  refine .inr ⟨b, off, cap, hv, h1, h2, Nat.lt_of_lt_of_le h3 h.size, fun j u hu => ?_⟩
  have hcell := h4 j u hu
  obtain ⟨o, ho⟩ : ∃ o, A.heap[b]? = some o := ⟨_, Array.getElem?_eq_getElem h3⟩
  have hn : ¬ c b o := by
   intro hcb
   have hs := hc b o hcb
   unfold World.cell? at hcell
   simp only [ho] at hcell
   split at hcell
   ·
    rename_i cc t f heq
    simp at hcell
    obtain ⟨a, n, m, e⟩ := hs cc t f (Option.some.inj heq) _ _ hcell
    exact hx u (List.mem_of_getElem? hu) a n m e
   ·
    cases hcell
  have hB := h.same b o ho hn
  rw [World.cell?_of_block (a := ⟨b, off + j, none⟩) (w := A) (w' := B) (hB.trans ho.symm)]
  exact hcell
theorem cs32_not_slice (l : List Nat) : ∀ x ∈ cs32 l, ∀ a n m, x ≠ .slice a n m := by
 intro x hx a n m e
 simp [cs32] at hx
 obtain ⟨d, -, rfl⟩ := hx
 cases e
theorem Row.inj {w : World} {v : Value} {l l' : List Nat} (h : Row w v l.length (cs32 l)) (h' : Row w v l'.length (cs32 l')) : l = l' := by
 rcases h with ⟨rfl, hn, -⟩ | ⟨b, off, cap, rfl, h1, h2, h3, h4⟩
 ·
  rcases h' with ⟨-, hn', -⟩ | ⟨b, off, cap, e, -⟩
  ·
   rw [List.length_eq_zero_iff.1 hn, List.length_eq_zero_iff.1 hn']
  ·
   cases e
 ·
  rcases h' with ⟨e, -⟩ | ⟨b', off', cap', e, h1', h2', h3', h4'⟩
  ·
   cases e
  ·
   simp only [Value.slice.injEq, Option.some.injEq, Addr.mk.injEq] at e
   obtain ⟨⟨rfl, rfl, -⟩, hl, -⟩ := e
   apply List.ext_getElem?
   intro j
   rcases Nat.lt_or_ge j l.length with hj | hj
   ·
    have e1 := h4 j _ (cs32_get (List.getElem?_eq_getElem hj))
    have e2 := h4' j _ (cs32_get (List.getElem?_eq_getElem (show j < l'.length by omega)))
    rw [e1] at e2
    have e3 : (l[j] : Int) = (l'[j]'(by omega) : Int) := by simpa using e2
    rw [List.getElem?_eq_getElem hj, List.getElem?_eq_getElem (show j < l'.length by omega)]
    congr 1
    exact_mod_cast e3
   ·
    rw [List.getElem?_eq_none hj, List.getElem?_eq_none (by omega)]
theorem dg_inj {X Y : Nat} (h : dg X = dg Y) : X = Y := by rw [← val_dg X, ← val_dg Y, h]

abbrev Hdr := Option Addr × Nat × Nat
def hv (h : Hdr) : Value := .slice h.1 h.2.1 h.2.2
def NatRow (w : World) (v : Value) (X : Nat) : Prop := Row w v (dg X).length (cs32 (dg X))
open Classical in
noncomputable def natAt (b : Nat) (w : World) : Nat := if h : ∃ Y v, Blk w b 78 [v] ∧ NatRow w v Y then Classical.choose h else 0
theorem natAt_eq {w : World} {b Y : Nat} {v : Value} (h : Blk w b 78 [v]) (hr : NatRow w v Y) : natAt b w = Y := by
 unfold natAt
 have hex : ∃ Y v, Blk w b 78 [v] ∧ NatRow w v Y := ⟨Y, v, h, hr⟩
 rw [dif_pos hex]
 obtain ⟨v', h1, h2⟩ := Classical.choose_spec hex
 have e : v = v' := by
  have a := h.c 0 rfl
  rw [h1.c 0 rfl] at a
  exact (Option.some.inj a).symm
 subst e
 exact dg_inj (Row.inj h2 hr)
def euI (b : Nat) : Nat → Obj → Prop := fun k o => (k = b ∨ k = b + 1) ∧ o.isCells = true ∧ Slices o
def euC (t : Nat) : Nat → Obj → Prop := fun k o => Slices o ∧ (k = t ∨ o.isCells = false)
theorem euC_blk {t : Nat} {A B : World} (h : Only (euC t) A B) {b : Nat} {ty : TypeId} {xs : List Value} (hb : Blk A b ty xs) (hn : b ≠ t) : Blk B b ty xs :=
 h.same b _ hb (fun e => by
  rcases e.2 with e | e
  ·
   exact hn e
  ·
   cases e)
theorem euC_row {t : Nat} {A B : World} (h : Only (euC t) A B) {v : Value} {X : Nat} (hr : NatRow A v X) : NatRow B v X := Row.only h (fun _ _ e => e.1) hr (cs32_not_slice _)
theorem euI_row {t : Nat} {A B : World} (h : Only (euI t) A B) {v : Value} {X : Nat} (hr : NatRow A v X) : NatRow B v X := Row.only h (fun _ _ e => e.2.2) hr (cs32_not_slice _)
theorem euI_set {b k : Nat} {A : World} {ty : TypeId} {a : Option Addr} {n m : Nat} (h : Blk A k ty [.slice a n m]) (hk : k = b ∨ k = b + 1) (v : Value) : Only (euI b) A (A.setCell ⟨k, 0, none⟩ v) :=
 Only.setCell v (fun o ho => by
  have e : A.heap[k]? = some (.cells #[.slice a n m] ty (0, 0)) := h
  have e2 : o = .cells #[.slice a n m] ty (0, 0) := by
   have : A.heap[k]? = some o := ho
   rw [e] at this
   exact (Option.some.inj this).symm
  subst e2
  exact ⟨hk, rfl, Slices.one _ _ _ _⟩)

set_option maxRecDepth 100000 in
set_option maxHeartbeats 8000000 in
theorem euclid_seq (n : Nat) (hn : 1 ≤ n) (X Y : Nat) (hX : (dg X).length ≤ 100000000000) (hY : (dg Y).length ≤ 100000000000) (bx tb : Nat) (ht1 : bx ≠ tb) (ht2 : bx + 1 ≠ tb) (w : World) (vx vy : Value)
  (hbx : Blk w bx 78 [vx]) (hby : Blk w (bx + 1) 78 [vy]) (hrx : NatRow w vx X) (hry : NatRow w vy Y) :
  SeqV Fence.wide n Try.prog 81 #[.pointer (some ⟨bx, 0, none⟩), .pointer (some ⟨bx + 1, 0, none⟩)] (fun x : Hdr × Hdr => #[hv x.1, hv x.2]) (euI bx) (euC tb)
   (fun xs W => ∃ pre x, xs = pre ++ [x] ∧ NatRow W (hv x.1) (Nat.gcd X Y)) w := by
 intro l J W hW hl hJ hYd h0
 have hbx := hW.same _ _ hbx (fun h => h)
 have hby := hW.same _ _ hby (fun h => h)
 have hrx : NatRow W vx X := Row.only hW (fun _ _ h => h.elim) hrx (cs32_not_slice _)
 have hry : NatRow W vy Y := Row.only hW (fun _ _ h => h.elim) hry (cs32_not_slice _)
 clear hW
 refine callsIn_of_wp Try.func81 rfl trivial ?_ rfl
 simp only [Try.ntmps81, List.size_toArray, List.length_cons, List.length_nil, Nat.reduceAdd, Nat.reduceSub, Array.replicate_succ, Array.replicate_zero, List.push_toArray, List.append_toArray, List.nil_append, List.cons_append]
 gi_wp2
 gi_loopw [4, 5] (fun _ _ wr => ∃ (pre : List (Hdr × Hdr)) (X' Y' : Nat) (vx' vy' : Value), J pre wr ∧ Nat.gcd X' Y' = Nat.gcd X Y ∧ (dg X').length ≤ 100000000000 ∧ (dg Y').length ≤ 100000000000 ∧ Blk wr bx 78 [vx'] ∧ Blk wr (bx + 1) 78 [vy'] ∧ NatRow wr vx' X' ∧ NatRow wr vy' Y')
  (fun _ _ wr => natAt (bx + 1) wr)
 case atStart => exact ⟨[], X, Y, vx, vy, h0, rfl, hX, hY, hbx, hby, hrx, hry⟩
 case round =>
  obtain ⟨pre, X', Y', vx', vy', hJ0, hgcd, hX', hY', hbx', hby', hrx', hry'⟩ := hrel
  have cx := hbx'.c 0 rfl
  have cy := hby'.c 0 rfl
  obtain ⟨ax, mx, rfl, -⟩ := hrx'.slice
  obtain ⟨ay, my, rfl, -⟩ := hry'.slice
  obtain ⟨fn, tmps, assign, body, hy, hR⟩ := hYd pre ((ax, (dg X').length, mx), (ay, (dg Y').length, my)) _ hJ0
  simp only [hv] at hy
  have HG := zh hgcd; clear hgcd
  have HX := zh hX'; clear hX'
  have HY := zh hY'; clear hY'
  have HBX := zh hbx'; clear hbx'
  have HBY := zh hby'; clear hby'
  have HRX := zh hrx'; clear hrx'
  have HRY := zh hry'; clear hry'
  gi_wp2
  refine hR.mono ?_
  rintro e' W3 ⟨rfl, hJ3, hk3⟩
  have hbx3 := euC_blk hk3 HBX.out ht1
  have hby3 := euC_blk hk3 HBY.out ht2
  have hrx3 := euC_row hk3 HRX.out
  have hry3 := euC_row hk3 HRY.out
  have cx := hbx3.c 0 rfl
  have cy := hby3.c 0 rfl
  by_cases hz : Y' = 0
  ·
   have hl0 : (dg Y').length = 0 := by rw [hz, dg_zero]; rfl
   have HZ := zh hz; clear hz
   have HRX3 := zh hrx3; clear hrx3
   have HJ3 := zh hJ3; clear hJ3
   clear hbx3 hby3 hry3 hk3 hR hy
   gi_wp2
   go_end0
   refine ⟨⟨_, rfl⟩, _, ⟨pre, _, rfl, ?_⟩, HJ3.out⟩
   have hg := HG.out
   rw [HZ.out, Nat.gcd_zero_right] at hg
   rw [← hg]
   exact HRX3.out
  ·
   have hl0 : 0 < (dg Y').length := by
    rcases Nat.eq_zero_or_pos (dg Y').length with h | h
    ·
     exact absurd (dg_nil (List.length_eq_zero_iff.1 h)) hz
    ·
     exact h
   have hdv := divide_all X' Y' _ _ _ hrx3 hry3 HX.out (Nat.pos_of_ne_zero hz)
   have HDV := zh hdv; clear hdv
   have HBX3 := zh hbx3; clear hbx3
   have HBY3 := zh hby3; clear hby3
   have HRY3 := zh hry3; clear hry3
   have HJ3 := zh hJ3; clear hJ3
   clear hrx3 hk3 hR hy
   gi_wp2
   refine ⟨trivial, (callsIn_wide (n := n - 1)).2 ((HDV.out).mono ?_)⟩
   rintro e w4 ⟨hq4, v4, u4', rfl, hv4, hu4⟩
   dsimp only
   have hJ4 := hJ _ _ _ HJ3.out (Only.ofBelow _ hq4)
   have hbx4 := HBX3.out.keep hq4
   have hby4 := HBY3.out.keep hq4
   have hry4 : NatRow w4 (.slice ay (dg Y').length my) Y' := Row.below HRY3.out hq4 (Nat.le_refl _)
   have cx := hbx4.c 0 rfl
   have cy := hby4.c 0 rfl
   have fx := hbx4.frozen 0
   have fy := hby4.frozen 0
   have hmeas := natAt_eq HBY.out HRY.out
   have hylt : X' % Y' < Y' := Nat.mod_lt _ (Nat.pos_of_ne_zero hz)
   obtain ⟨a5, m5, rfl, -⟩ := hu4.slice
   have HJ4 := zh hJ4; clear hJ4
   have HBX4 := zh hbx4; clear hbx4
   have HBY4 := zh hby4; clear hby4
   have HRY4 := zh hry4; clear hry4
   have HU4 := zh hu4; clear hu4
   have HMS := zh hmeas; clear hmeas
   clear HBX3 HBY3 HRY3 HJ3 hq4 hv4
   gi_wp2
   go_roundw
   case rel =>
    have o1 := euI_set (b := bx) HBX4.out (Or.inl rfl) (.slice ay (dg Y').length my)
    have hby5 : Blk (w4.setCell ⟨bx, 0, none⟩ (.slice ay (dg Y').length my)) (bx + 1) 78 [.slice ay (dg Y').length my] := HBY4.out.setOther (by show bx ≠ bx + 1; omega) _
    have o2 := o1.trans (euI_set (b := bx) hby5 (Or.inr rfl) (.slice a5 (dg (X' % Y')).length m5))
    refine ⟨_, Y', X' % Y', _, _, hJ _ _ _ HJ4.out o2, ?_, HY.out, ?_, (HBX4.out.set 0 _).setOther (by show bx + 1 ≠ bx; omega) _, hby5.set 0 _, euI_row o2 HRY4.out, euI_row o2 HU4.out⟩
    ·
     rw [← HG.out, Nat.gcd_comm X' Y', Nat.gcd_rec Y' X', Nat.gcd_comm]
    ·
     exact dg_le_of_le (Nat.le_of_lt hylt) HY.out
   case measure =>
    have hby5 : Blk (w4.setCell ⟨bx, 0, none⟩ (.slice ay (dg Y').length my)) (bx + 1) 78 [.slice ay (dg Y').length my] := HBY4.out.setOther (by show bx ≠ bx + 1; omega) _
    have o1 := euI_set (b := bx) HBX4.out (Or.inl rfl) (.slice ay (dg Y').length my)
    have o2 := o1.trans (euI_set (b := bx) hby5 (Or.inr rfl) (.slice a5 (dg (X' % Y')).length m5))
    have h5 := natAt_eq (hby5.set 0 (.slice a5 (dg (X' % Y')).length m5)) (euI_row o2 HU4.out)
    rw [h5, HMS.out]
    exact hylt
end Go.Proofs.Ytjpalbonclgflaa

