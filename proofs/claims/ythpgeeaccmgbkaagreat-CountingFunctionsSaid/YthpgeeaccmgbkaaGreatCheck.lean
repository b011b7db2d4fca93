/- The contract of graph.Check: the error of a graph; nothing that was there is changed. -/
import Derived.Deep.DeepCutAuto
import Derived.Test.YthpgeeaccmgbkaaGreatCmp
namespace Go.Proofs.YthpgeeaccmgbkaaGreat
open Go.RowKit

/-- Cells of edges. -/
def ce (l : List E3) : List Value := l.flatMap E3.cells
theorem ce_length (l : List E3) : (ce l).length = l.length * 3 := by
 induction l with
 | nil => rfl
 | cons e l ih => simp only [ce, List.flatMap_cons, List.length_append, List.length_cons] at ih ⊢; rw [ih]; simp [E3.cells]; omega
theorem ce_get {l : List E3} {k j : Nat} {e : E3} {u : Value} (h : l[k]? = some e) (hu : e.cells[j]? = some u) : (ce l)[k * 3 + j]? = some u := by
 induction l generalizing k with
 | nil => simp at h
 | cons x l ih =>
  have hj : j < 3 := by
   have := (List.getElem?_eq_some_iff.1 hu).1
   simpa [E3.cells] using this
  cases k with
  | zero =>
   simp at h
   subst h
   rw [Nat.zero_mul, Nat.zero_add, ce, List.flatMap_cons, List.getElem?_append_left (by simpa [E3.cells] using hj), hu]
  | succ k =>
   rw [ce, List.flatMap_cons, List.getElem?_append_right (by simp [E3.cells]; omega)]
   have e1 : (k + 1) * 3 + j - x.cells.length = k * 3 + j := by simp [E3.cells]; omega
   rw [e1]
   exact ih (by simpa using h)
/-- An edge that a graph can't have. -/
def edgeBad (L S : Int) (e : E3) : Prop := e.f < 0 ∨ e.l < 0 ∨ e.t < 0 ∨ S ≤ e.f ∨ S ≤ e.t ∨ L ≤ e.l
instance (L S : Int) (e : E3) : Decidable (edgeBad L S e) := by unfold edgeBad; infer_instance
def chkL (L S : Int) : Option E3 → List E3 → Int
 | _, [] => 0
 | none, e :: r => if edgeBad L S e then 2 else chkL L S (some e) r
 | some q, e :: r => if edgeBad L S e then 2 else if 0 ≤ cmpE q e then 10 else chkL L S (some e) r
/-- The error of a graph. -/
def chk (L S : Int) (es : List E3) : Int :=
 if L < 1 ∨ 256 < L then 12 else if S < 0 then 2 else if 64 < S ∨ 1024 < es.length then 4 else chkL L S none es
theorem chk_bad {L S : Int} {p : Option E3} {e : E3} {r : List E3} (h : edgeBad L S e) : chkL L S p (e :: r) = 2 := by
 cases p <;> simp [chkL, h]
theorem below_new (w : World) (o : Obj) {b : Nat} (h : b < w.heap.size) (k : Nat) : (w.alloc o).cell? ⟨b, k, none⟩ = w.cell? ⟨b, k, none⟩ := World.cell?_of_block (Below.heap_alloc w o b h)
theorem below3 {w wr : World} {o1 o2 o3 : Obj} (h : Below (w.heap.size + 2) ((w.alloc o1).alloc o2) wr) : Below w.heap.size w (wr.alloc o3) := by
 have h1 := (((Below.refl w.heap.size w).alloc (Nat.le_refl _) o1).alloc (by simp) o2).trans (h.mono (by omega))
 exact h1.alloc h1.size o3
def okEs (es : List E3) : Prop := ∀ e ∈ es, e.ok

set_option maxRecDepth 100000 in
set_option maxHeartbeats 3200000 in
/-- graph.Check. -/
theorem check_any (L S : Int) (es : List E3) (v : Value) (w : World) (hr : Row w v es.length (ce es)) (hok : okEs es) :
  Calls Tryz.prog 31 #[.agg #[.int .i64 L, .int .i64 S, v]] w (Ret w (.int .i64 (chk L S es))) := by
 obtain ⟨a, c, rfl, hle⟩ := hr.slice
 have HR := Lib.hid hr; clear hr
 have HK := Lib.hid hok; clear hok
 obtain ⟨n, hn⟩ : ∃ n, n = es.length := ⟨_, rfl⟩
 rw [← hn] at HR hle ⊢
 by_cases h1 : L < 1 ∨ 256 < L
 ·
  have hc : chk L S es = 12 := by rw [chk, if_pos h1]
  have HC := Lib.hid hc; clear hc hn
  rcases h1 with h1 | h1
  ·
   go_enter Tryz.func31, Tryz.ntmps31
   go_wp2_with fail
   go_ret
   exact ⟨(Below.refl _ _).alloc (Nat.le_refl _) _, by rw [HC.out]; rfl⟩
  ·
   have h1' : ¬ L < 1 := by omega
   go_enter Tryz.func31, Tryz.ntmps31
   go_wp2_with fail
   go_ret
   exact ⟨(Below.refl _ _).alloc (Nat.le_refl _) _, by rw [HC.out]; rfl⟩
 ·
  have h1a : ¬ L < 1 := by omega
  have h1b : ¬ 256 < L := by omega
  by_cases h2 : S < 0
  ·
   have hc : chk L S es = 2 := by rw [chk, if_neg h1, if_pos h2]
   have HC := Lib.hid hc; clear hc hn h1
   go_enter Tryz.func31, Tryz.ntmps31
   go_wp2_with fail
   go_ret
   exact ⟨(Below.refl _ _).alloc (Nat.le_refl _) _, by rw [HC.out]; rfl⟩
  ·
   by_cases h3 : 64 < S ∨ 1024 < n
   ·
    have hc : chk L S es = 4 := by rw [chk, if_neg h1, if_neg h2, if_pos (by rw [← hn]; exact h3)]
    have HC := Lib.hid hc; clear hc hn h1
    rcases h3 with h3 | h3
    ·
     go_enter Tryz.func31, Tryz.ntmps31
     go_wp2_with fail
     go_ret
     exact ⟨(Below.refl _ _).alloc (Nat.le_refl _) _, by rw [HC.out]; rfl⟩
    ·
     by_cases h4 : 64 < S
     ·
      go_enter Tryz.func31, Tryz.ntmps31
      go_wp2_with fail
      go_ret
      exact ⟨(Below.refl _ _).alloc (Nat.le_refl _) _, by rw [HC.out]; rfl⟩
     ·
      go_enter Tryz.func31, Tryz.ntmps31
      go_wp2_with fail
      go_ret
      exact ⟨(Below.refl _ _).alloc (Nat.le_refl _) _, by rw [HC.out]; rfl⟩
   ·
    have hc : chk L S es = chkL L S none es := by rw [chk, if_neg h1, if_neg h2, if_neg (by rw [← hn]; exact h3)]
    have h3a : ¬ 64 < S := by omega
    have h3b : ¬ 1024 < n := by omega
    have h3c : decide ((1024 : Int) < n) = false := by simp; omega
    have HC := Lib.hid hc; clear hc h1 h3
    have HN := Lib.hid hn; clear hn
    go_enter Tryz.func31, Tryz.ntmps31
    go_wp2_with (go_at_call 68; refine (by_any _).mono ?_; rintro e w' ⟨rfl, rfl⟩)
    have hG := (Blk.new w 24 [.int .i64 L, .int .i64 S, .slice a n c]).alloc (.cells #[listF] 94)
    have hF := Blk.new (w.alloc (.cells #[.int .i64 L, .int .i64 S, .slice a n c] 24)) 94 [listF]
    rw [World.size_alloc] at hF
    have HG := Lib.hid hG; clear hG
    have HF := Lib.hid hF; clear hF
    go_loopw [33] (fun i wr => ∃ k : Nat, k ≤ n ∧ i = .int .i64 k ∧ Below (w.heap.size + 2) ((w.alloc (.cells #[.int .i64 L, .int .i64 S, .slice a n c] 24)).alloc (.cells #[listF] 94)) wr ∧ chkL L S (if k = 0 then none else es[k - 1]?) (es.drop k) = chkL L S none es) (fun i _ => n - (intOf i).toNat)
    case atStart => exact ⟨0, Nat.zero_le _, rfl, Below.refl _ _, rfl⟩
    case round =>
     obtain ⟨k, hk, rfl, hbel, he⟩ := hrel
     have hg1 := HG.out.below hbel (by omega)
     have hf1 := HF.out.below hbel (by omega)
     have g0 := hg1.cell (j := 0) rfl
     have g1 := hg1.cell (j := 1) rfl
     have g2 := hg1.cell (j := 2) rfl
     have f0 := hf1.cell (j := 0) rfl
     have HB := Lib.hid hbel; clear hbel
     have HG1 := Lib.hid hg1; clear hg1
     have HF1 := Lib.hid hf1; clear hf1
     by_cases hlt : k < n
     ·
      have ge : es[k]? = some (es[k]'(by rw [← HN.out]; exact hlt)) := List.getElem?_eq_getElem _
      obtain ⟨e, hedef⟩ : ∃ e, e = es[k]'(by rw [← HN.out]; exact hlt) := ⟨_, rfl⟩
      rw [← hedef] at ge
      have eok : e.ok := HK.out e (by rw [hedef]; exact List.getElem_mem _)
      clear hedef
      rw [drop_get ge] at he
      obtain ⟨b, off, rfl, hbw, hce⟩ := HR.out.at_ (by omega)
      have q0 : wr.cell? ⟨b, off + k * 3, none⟩ = some (.int .i64 e.f) := (HB.out.cell (p := ⟨b, off + k * 3, none⟩) (by show b < _; omega)).trans (((Below.refl w.heap.size w).alloc (Nat.le_refl _) _ |>.alloc (by simp) _ |>.cell (p := ⟨b, off + k * 3, none⟩) hbw).trans (hce (k * 3) _ (ce_get (j := 0) ge rfl)))
      have q1 : wr.cell? ⟨b, off + k * 3 + 1, none⟩ = some (.int .i64 e.l) := (HB.out.cell (p := ⟨b, off + k * 3 + 1, none⟩) (by show b < _; omega)).trans (((Below.refl w.heap.size w).alloc (Nat.le_refl _) _ |>.alloc (by simp) _ |>.cell (p := ⟨b, off + k * 3 + 1, none⟩) hbw).trans (hce (k * 3 + 1) _ (ce_get (j := 1) ge rfl)))
      have q2 : wr.cell? ⟨b, off + k * 3 + 2, none⟩ = some (.int .i64 e.t) := (HB.out.cell (p := ⟨b, off + k * 3 + 2, none⟩) (by show b < _; omega)).trans (((Below.refl w.heap.size w).alloc (Nat.le_refl _) _ |>.alloc (by simp) _ |>.cell (p := ⟨b, off + k * 3 + 2, none⟩) hbw).trans (hce (k * 3 + 2) _ (ce_get (j := 2) ge rfl)))
      have HCE := Lib.hid hce; clear hce
      have HGE := Lib.hid ge; clear ge
      have EOK := Lib.hid eok; clear eok
      have hsz : w.heap.size + 2 ≤ wr.heap.size := by have := HB.out.size; simp at this; omega
      have hbw2 : b < wr.heap.size := by omega
      have hsz1 : w.heap.size < wr.heap.size := by omega
      have hsz2 : w.heap.size + 1 < wr.heap.size := by omega
      obtain ⟨mn, hmn⟩ : ∃ mn, (if e.t < (if e.l < e.f then e.l else e.f) then e.t else (if e.l < e.f then e.l else e.f)) = mn := ⟨_, rfl⟩
      obtain ⟨mx, hmx⟩ : ∃ mx, (if e.f < e.t then e.t else e.f) = mx := ⟨_, rfl⟩
      have hmn2 : mn < 0 ↔ e.f < 0 ∨ e.l < 0 ∨ e.t < 0 := by rw [← hmn]; split <;> split <;> omega
      have hmx2 : S ≤ mx ↔ S ≤ e.f ∨ S ≤ e.t := by rw [← hmx]; split <;> omega
      have hbadiff : edgeBad L S e ↔ mn < 0 ∨ S ≤ mx ∨ L ≤ e.l := by unfold edgeBad; rw [hmn2, hmx2]; omega
      clear hmn2 hmx2
      by_cases hb1 : mn < 0
      ·
       have hres := chk_bad (p := if k = 0 then none else es[k - 1]?) (r := es.drop (k + 1)) (hbadiff.2 (.inl hb1))
       rw [he] at hres
       have HRES := Lib.hid hres; clear hres he hbadiff
       go_wp2_with fail
       go_ret
       exact ⟨below3 HB.out, by rw [HC.out, HRES.out]; rfl⟩
      ·
       by_cases hb2 : S ≤ mx
       ·
        have hres := chk_bad (p := if k = 0 then none else es[k - 1]?) (r := es.drop (k + 1)) (hbadiff.2 (.inr (.inl hb2)))
        rw [he] at hres
        have HRES := Lib.hid hres; clear hres he hbadiff
        go_wp2_with fail
        go_ret
        exact ⟨below3 HB.out, by rw [HC.out, HRES.out]; rfl⟩
       ·
        by_cases hb3 : L ≤ e.l
        ·
         have hres := chk_bad (p := if k = 0 then none else es[k - 1]?) (r := es.drop (k + 1)) (hbadiff.2 (.inr (.inr hb3)))
         rw [he] at hres
         have HRES := Lib.hid hres; clear hres he hbadiff
         go_wp2_with fail
         go_ret
         exact ⟨below3 HB.out, by rw [HC.out, HRES.out]; rfl⟩
        ·
         have hgood : ¬ edgeBad L S e := fun h => by rcases hbadiff.1 h with h | h | h <;> omega
         clear hbadiff
         by_cases hk0 : k = 0
         ·
          subst hk0
          rw [if_pos rfl, chkL, if_neg hgood] at he
          have HE := Lib.hid he; clear he
          have HGOOD := Lib.hid hgood; clear hgood
          have hgd : decide ((0 : Int) < 0) = false := rfl
          simp only [Nat.zero_mul, Nat.add_zero] at q0 q1 q2
          go_wp2_with fail
          go_quiet (fail)
          go_wp2_with fail
          go_roundw
          case rel => exact ⟨1, by omega, rfl, below_drewN (HB.out.alloc (by omega) _) _, by rw [if_neg (by omega)]; simp only [Nat.sub_self]; rw [HGE.out]; exact HE.out⟩
          case measure => simp [intOf]; omega
         ·
          rw [if_neg hk0] at he
          have hk1 : k - 1 < es.length := by rw [← HN.out]; omega
          have gp : es[k - 1]? = some (es[k - 1]'hk1) := List.getElem?_eq_getElem _
          obtain ⟨p, hp⟩ : ∃ p, p = es[k - 1]'hk1 := ⟨_, rfl⟩
          rw [← hp] at gp
          have pok : p.ok := HK.out p (by rw [hp]; exact List.getElem_mem _)
          clear hp hk1
          rw [gp, chkL, if_neg hgood] at he
          have p0 : wr.cell? ⟨b, off + (k - 1) * 3, none⟩ = some (.int .i64 p.f) := (HB.out.cell (p := ⟨b, off + (k - 1) * 3, none⟩) (by show b < _; omega)).trans (((Below.refl w.heap.size w).alloc (Nat.le_refl _) _ |>.alloc (by simp) _ |>.cell (p := ⟨b, off + (k - 1) * 3, none⟩) hbw).trans (HCE.out ((k - 1) * 3) _ (ce_get (j := 0) gp rfl)))
          have p1 : wr.cell? ⟨b, off + (k - 1) * 3 + 1, none⟩ = some (.int .i64 p.l) := (HB.out.cell (p := ⟨b, off + (k - 1) * 3 + 1, none⟩) (by show b < _; omega)).trans (((Below.refl w.heap.size w).alloc (Nat.le_refl _) _ |>.alloc (by simp) _ |>.cell (p := ⟨b, off + (k - 1) * 3 + 1, none⟩) hbw).trans (HCE.out ((k - 1) * 3 + 1) _ (ce_get (j := 1) gp rfl)))
          have p2 : wr.cell? ⟨b, off + (k - 1) * 3 + 2, none⟩ = some (.int .i64 p.t) := (HB.out.cell (p := ⟨b, off + (k - 1) * 3 + 2, none⟩) (by show b < _; omega)).trans (((Below.refl w.heap.size w).alloc (Nat.le_refl _) _ |>.alloc (by simp) _ |>.cell (p := ⟨b, off + (k - 1) * 3 + 2, none⟩) hbw).trans (HCE.out ((k - 1) * 3 + 2) _ (ce_get (j := 2) gp rfl)))
          have GP := Lib.hid gp; clear gp
          have POK := Lib.hid pok; clear pok
          have HGOOD := Lib.hid hgood; clear hgood
          have hkp : (0 : Int) < k := by omega
          have hkd : decide ((0 : Int) < k) = true := by simp; omega
          have hkn : 0 < k := by omega
          have hkd2 : decide (0 < k) = true := by simp; omega
          have HBX := (Blk.new wr 53 e.cells)
          have a0 := (below_new wr (.cells #[.int .i64 e.f, .int .i64 e.l, .int .i64 e.t] 53) hsz1 2).trans g2
          have a1 := (below_new wr (.cells #[.int .i64 e.f, .int .i64 e.l, .int .i64 e.t] 53) hsz2 0).trans f0
          have a2 := (below_new wr (.cells #[.int .i64 e.f, .int .i64 e.l, .int .i64 e.t] 53) hbw2 (off + (k - 1) * 3)).trans p0
          have a3 := (below_new wr (.cells #[.int .i64 e.f, .int .i64 e.l, .int .i64 e.t] 53) hbw2 (off + (k - 1) * 3 + 1)).trans p1
          have a4 := (below_new wr (.cells #[.int .i64 e.f, .int .i64 e.l, .int .i64 e.t] 53) hbw2 (off + (k - 1) * 3 + 2)).trans p2
          have a5 := HBX.cell (j := 0) rfl
          have a6 := HBX.cell (j := 1) rfl
          have a7 := HBX.cell (j := 2) rfl
          have fl : w.heap.size + 1 < (wr.alloc (.cells #[.int .i64 e.f, .int .i64 e.l, .int .i64 e.t] 53)).drew.heap.size := by simp only [World.size_drew, World.size_alloc]; omega
          have fc : (wr.alloc (.cells #[.int .i64 e.f, .int .i64 e.l, .int .i64 e.t] 53)).drew.cell? ⟨w.heap.size + 1, 0, none⟩ = some listF := a1
          have FL := Lib.hid fl; clear fl
          have FC := Lib.hid fc; clear fc
          clear HBX
          have A0 := Lib.hid a0; clear a0
          have A1 := Lib.hid a1; clear a1
          have A2 := Lib.hid a2; clear a2
          have A3 := Lib.hid a3; clear a3
          have A4 := Lib.hid a4; clear a4
          have A5 := Lib.hid a5; clear a5
          have A6 := Lib.hid a6; clear a6
          have A7 := Lib.hid a7; clear a7
          by_cases hcm : 0 ≤ cmpE p e
          ·
           rw [if_pos hcm] at he
           have HE := Lib.hid he; clear he
           go_wp2_with fail
           have hw2 : (0 : Int) ≤ (k : Int) - 1 := by omega
           have hw2' : (1 : Int) ≤ (k : Int) := by omega
           have hw4 : (k : Int) - 1 < n := by omega
           have hw1 : IntKind.i64.wrap ((k : Int) - 1) = (k : Int) - 1 := IntWalk.i64_in _ (by omega)
           have hw3 : ((k : Int) - 1).toNat = k - 1 := by omega
           go_region_held3 (fun w' => w'.cell? ⟨w.heap.size, 2, none⟩ = some (.slice (some ⟨b, off, none⟩) n c) ∧ w'.cell? ⟨w.heap.size + 1, 0, none⟩ = some listF ∧ w'.cell? ⟨b, off + (k - 1) * 3, none⟩ = some (.int .i64 p.f) ∧ w'.cell? ⟨b, off + (k - 1) * 3 + 1, none⟩ = some (.int .i64 p.l) ∧ w'.cell? ⟨b, off + (k - 1) * 3 + 2, none⟩ = some (.int .i64 p.t) ∧ w'.cell? ⟨wr.heap.size, 0, none⟩ = some (.int .i64 e.f) ∧ w'.cell? ⟨wr.heap.size, 1, none⟩ = some (.int .i64 e.l) ∧ w'.cell? ⟨wr.heap.size, 2, none⟩ = some (.int .i64 e.t)) (go_keep) (first | (go_at_call 106; refine (byc_any p e _ _ FC.out POK.out EOK.out FL.out).mono ?_; rintro e w1 ⟨hq, rfl⟩; have z0 := (hq.below.cell (p := ⟨w.heap.size, 2, none⟩) (by simp only [World.size_drew, World.size_alloc]; omega)).trans (A0.out); have z1 := (hq.below.cell (p := ⟨w.heap.size + 1, 0, none⟩) (by simp only [World.size_drew, World.size_alloc]; omega)).trans (A1.out); have z2 := (hq.below.cell (p := ⟨b, off + (k - 1) * 3, none⟩) (by simp only [World.size_drew, World.size_alloc]; omega)).trans (A2.out); have z3 := (hq.below.cell (p := ⟨b, off + (k - 1) * 3 + 1, none⟩) (by simp only [World.size_drew, World.size_alloc]; omega)).trans (A3.out); have z4 := (hq.below.cell (p := ⟨b, off + (k - 1) * 3 + 2, none⟩) (by simp only [World.size_drew, World.size_alloc]; omega)).trans (A4.out); have z5 := (hq.below.cell (p := ⟨wr.heap.size, 0, none⟩) (by simp only [World.size_drew, World.size_alloc]; omega)).trans (A5.out); have z6 := (hq.below.cell (p := ⟨wr.heap.size, 1, none⟩) (by simp only [World.size_drew, World.size_alloc]; omega)).trans (A6.out); have z7 := (hq.below.cell (p := ⟨wr.heap.size, 2, none⟩) (by simp only [World.size_drew, World.size_alloc]; omega)).trans (A7.out); have HQ := Lib.hid hq; clear hq))
           clear hw1 hw3
           go_wp2_with fail
           go_ret
           exact ⟨(below3 HB.out).drew.trans (HQ.out.below.mono (below3 HB.out).drew.size), by rw [HC.out, ← HE.out]; rfl⟩
          ·
           rw [if_neg hcm] at he
           have HE := Lib.hid he; clear he
           go_wp2_with fail
           have hw2 : (0 : Int) ≤ (k : Int) - 1 := by omega
           have hw2' : (1 : Int) ≤ (k : Int) := by omega
           have hw4 : (k : Int) - 1 < n := by omega
           have hw1 : IntKind.i64.wrap ((k : Int) - 1) = (k : Int) - 1 := IntWalk.i64_in _ (by omega)
           have hw3 : ((k : Int) - 1).toNat = k - 1 := by omega
           go_region_held3 (fun w' => w'.cell? ⟨w.heap.size, 2, none⟩ = some (.slice (some ⟨b, off, none⟩) n c) ∧ w'.cell? ⟨w.heap.size + 1, 0, none⟩ = some listF ∧ w'.cell? ⟨b, off + (k - 1) * 3, none⟩ = some (.int .i64 p.f) ∧ w'.cell? ⟨b, off + (k - 1) * 3 + 1, none⟩ = some (.int .i64 p.l) ∧ w'.cell? ⟨b, off + (k - 1) * 3 + 2, none⟩ = some (.int .i64 p.t) ∧ w'.cell? ⟨wr.heap.size, 0, none⟩ = some (.int .i64 e.f) ∧ w'.cell? ⟨wr.heap.size, 1, none⟩ = some (.int .i64 e.l) ∧ w'.cell? ⟨wr.heap.size, 2, none⟩ = some (.int .i64 e.t)) (go_keep) (first | (go_at_call 106; refine (byc_any p e _ _ FC.out POK.out EOK.out FL.out).mono ?_; rintro e w1 ⟨hq, rfl⟩; have z0 := (hq.below.cell (p := ⟨w.heap.size, 2, none⟩) (by simp only [World.size_drew, World.size_alloc]; omega)).trans (A0.out); have z1 := (hq.below.cell (p := ⟨w.heap.size + 1, 0, none⟩) (by simp only [World.size_drew, World.size_alloc]; omega)).trans (A1.out); have z2 := (hq.below.cell (p := ⟨b, off + (k - 1) * 3, none⟩) (by simp only [World.size_drew, World.size_alloc]; omega)).trans (A2.out); have z3 := (hq.below.cell (p := ⟨b, off + (k - 1) * 3 + 1, none⟩) (by simp only [World.size_drew, World.size_alloc]; omega)).trans (A3.out); have z4 := (hq.below.cell (p := ⟨b, off + (k - 1) * 3 + 2, none⟩) (by simp only [World.size_drew, World.size_alloc]; omega)).trans (A4.out); have z5 := (hq.below.cell (p := ⟨wr.heap.size, 0, none⟩) (by simp only [World.size_drew, World.size_alloc]; omega)).trans (A5.out); have z6 := (hq.below.cell (p := ⟨wr.heap.size, 1, none⟩) (by simp only [World.size_drew, World.size_alloc]; omega)).trans (A6.out); have z7 := (hq.below.cell (p := ⟨wr.heap.size, 2, none⟩) (by simp only [World.size_drew, World.size_alloc]; omega)).trans (A7.out); have HQ := Lib.hid hq; clear hq))
           clear hw1 hw3
           go_wp2_with fail
           go_roundw
           case rel =>
            refine ⟨k + 1, by omega, by go_num, ?_, ?_⟩
            ·
             have h5 := (HB.out.alloc (by omega) (.cells #[.int .i64 e.f, .int .i64 e.l, .int .i64 e.t] 53)).drew
             exact h5.trans (HQ.out.below.mono (by have := h5.size; simp at this ⊢; omega))
            ·
             rw [if_neg (by omega), Nat.add_sub_cancel, HGE.out]; exact HE.out
           case measure => simp [intOf]; omega
     ·
      have hkn : k = n := by omega
      have hd : es.drop k = [] := List.drop_of_length_le (by rw [← HN.out]; omega)
      rw [hd] at he
      have hres : chkL L S none es = 0 := by
       rw [← he]
       split <;> (try split) <;> simp_all [chkL]
      have HRES := Lib.hid hres; clear hres he hd
      have HKN := Lib.hid hkn; clear hkn
      go_wp2_with fail
      go_ret
      exact ⟨(((Below.refl w.heap.size w).alloc (Nat.le_refl _) _).alloc (by simp) _).trans (HB.out.mono (by omega)), by rw [HC.out, HRES.out]; rfl⟩
end Go.Proofs.YthpgeeaccmgbkaaGreat
