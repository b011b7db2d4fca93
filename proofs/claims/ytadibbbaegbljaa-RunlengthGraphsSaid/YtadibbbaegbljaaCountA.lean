/- The contracts of the closures of runlength.Count. -/
import Derived.Test.YtadibbbaegbljaaRun
import Derived.Test.YtadibbbaegbljaaIntB
import Derived.Deep.RegionHeld3
namespace Go.Proofs.Ytadibbbaegbljaa
open Go.RowKit

/-- Cells of integers. -/
def civ (l : List Int) : List Value := l.flatMap fun z => [.bool (ineg z), .string (imag z)]
theorem civ_length (l : List Int) : (civ l).length = l.length * 2 := by
  induction l with
  | nil => rfl
  | cons e l ih => simp only [civ, List.flatMap_cons, List.length_append, List.length_cons] at ih ⊢; rw [ih]; simp; omega
theorem civ_append (l k : List Int) : civ (l ++ k) = civ l ++ civ k := by simp [civ]
theorem civ_get {l : List Int} {k : Nat} {z : Int} (h : l[k]? = some z) : (civ l)[k * 2]? = some (.bool (ineg z)) ∧ (civ l)[k * 2 + 1]? = some (.string (imag z)) := by
  induction l generalizing k with
  | nil => simp at h
  | cons x l ih =>
    cases k with
    | zero => simp at h; subst h; exact ⟨rfl, rfl⟩
    | succ k =>
      have := ih (k := k) (by simpa using h)
      rw [civ, List.flatMap_cons]
      have e1 : (k + 1) * 2 = k * 2 + 2 := by omega
      rw [e1]
      exact this
/-- The cells of an integer of a slice, in a world in which nothing of it has changed. -/
theorem int_cells {w w' : World} {B b off : Nat} {l : List Int} {k : Nat} {z : Int} (hce : ∀ (j : Nat) (u : Value), (civ l)[j]? = some u → w.cell? ⟨b, off + j, none⟩ = some u) (hb : Below B w w') (hlt : b < B) (h : l[k]? = some z) :
    w'.cell? ⟨b, off + k * 2, none⟩ = some (.bool (ineg z)) ∧ w'.cell? ⟨b, off + k * 2 + 1, none⟩ = some (.string (imag z)) :=
  ⟨(hb.cell (p := ⟨b, off + k * 2, none⟩) hlt).trans (hce (k * 2) _ (civ_get h).1), (hb.cell (p := ⟨b, off + k * 2 + 1, none⟩) hlt).trans (hce (k * 2 + 1) _ (civ_get h).2)⟩
/-- An integer is not too long. -/
def small (z : Int) : Prop := (imag z).size ≤ 1099511627775
theorem small_of {z : Int} {m : Nat} (h : z.natAbs < 256 ^ m) (hm : m ≤ 1099511627775) : small z := by
  unfold small; rw [imag_size]; exact Nat.le_trans (bb_length_le h) hm

def bnd (k i : Int) : Int := if k = -1 then 0 else i - k
theorem bound_any (k i : Int) (b : Nat) (w : World) (hc : w.cell? ⟨b, 0, none⟩ = some (.int .i64 k)) (hi : -9223372036854775808 ≤ i - k ∧ i - k ≤ 9223372036854775807) :
    Calls Try.prog 44 #[.int .i64 i, .pointer (some ⟨b, 0, none⟩)] w fun e w' => e = .returned (.int .i64 (bnd k i)) ∧ w = w' := by
  obtain ⟨h1, h2⟩ := hi
  by_cases h : k = -1
  · have hp : bnd k i = 0 := by simp [bnd, h]
    have hb : (k == -1) = true := by simp [h]
    have HP := Lib.hid hp; clear hp h
    go_enter Try.func44, Try.ntmps44
    go_wp2
    go_ret
    exact ⟨by rw [HP.out]; rfl, rfl⟩
  · have hp : bnd k i = i - k := by simp [bnd, h]
    have hb : (k == -1) = false := by simp [h]
    have HP := Lib.hid hp; clear hp h
    go_enter Try.func44, Try.ntmps44
    go_wp2
    go_ret
    exact ⟨by rw [HP.out]; rfl, rfl⟩

def btw (L : List Int) (f t : Int) : Int := if max t 0 ≤ max f 0 then 0 else L.getD t.toNat 0 - L.getD (max f 0).toNat 0

set_option maxRecDepth 100000 in
set_option maxHeartbeats 1600000 in
theorem between_any (L : List Int) (f t : Int) (b : Nat) (v : Value) (w : World) (hc : w.cell? ⟨b, 0, none⟩ = some v) (hb : b < w.heap.size) (hr : Row w v L.length (civ L)) (ht : t < L.length) (hs : ∀ z ∈ L, small z) :
    Calls Try.prog 42 #[.int .i64 f, .int .i64 t, .pointer (some ⟨b, 0, none⟩)] w (Ret w (IntV (btw L f t))) := by
  obtain ⟨a, c, rfl, hle⟩ := hr.slice
  have HR := Lib.hid hr; clear hr
  have HS := Lib.hid hs; clear hs
  obtain ⟨F, hF⟩ : ∃ F : Nat, max f 0 = (F : Int) := ⟨(max f 0).toNat, by omega⟩
  obtain ⟨T, hT⟩ : ∃ T : Nat, max t 0 = (T : Int) := ⟨(max t 0).toNat, by omega⟩
  have hR := Blk.new w 34 [.bool false, .string ⟨#[]⟩]
  have HRB := Lib.hid hR; clear hR
  have s0 := ((Below.refl w.heap.size w).alloc (Nat.le_refl _) (.cells #[.bool false, .string ⟨#[]⟩] 34))
  have S0 := Lib.hid s0; clear s0
  by_cases hle2 : T ≤ F
  · have hv : btw L f t = 0 := by rw [btw, if_pos (by omega)]
    have HV := Lib.hid hv; clear hv
    go_enter Try.func42, Try.ntmps42
    go_wp2
    refine bodyPost_ret (v := IntV 0) (by simp [results, Try.results42, go_sem]; simp [ineg, imag, bb_zero]) rfl ⟨?_, ?_⟩
    · exact S0.out
    · rw [HV.out]
  · have hv : btw L f t = L.getD T 0 - L.getD F 0 := by
      rw [btw, if_neg (by omega), hF, show t.toNat = T by omega]; rfl
    have hTl : T < L.length := by omega
    have hFl : F < L.length := by omega
    have g1 : L[T]? = some (L.getD T 0) := by simp [List.getD, hTl]
    have g2 : L[F]? = some (L.getD F 0) := by simp [List.getD, hFl]
    obtain ⟨x, hx⟩ : ∃ x, x = L.getD T 0 := ⟨_, rfl⟩
    obtain ⟨y, hy⟩ : ∃ y, y = L.getD F 0 := ⟨_, rfl⟩
    rw [← hx] at g1 hv
    rw [← hy] at g2 hv
    have sx : small x := HS.out x (List.mem_of_getElem? g1)
    have sy : small y := HS.out y (List.mem_of_getElem? g2)
    obtain ⟨bb_, off, rfl, hbb, hce⟩ := HR.out.at_ (by omega)
    obtain ⟨p0, p1⟩ := int_cells hce S0.out hbb g1
    obtain ⟨q0, q1⟩ := int_cells hce S0.out hbb g2
    have c0 := (S0.out.cell (p := ⟨b, 0, none⟩) hb).trans hc
    clear hce g1 g2 hx hy
    have HV := Lib.hid hv; clear hv
    have P0 := Lib.hid p0; clear p0
    have P1 := Lib.hid p1; clear p1
    have Q0 := Lib.hid q0; clear q0
    have Q1 := Lib.hid q1; clear q1
    have C0 := Lib.hid c0; clear c0
    have SX := Lib.hid sx; clear sx
    have SY := Lib.hid sy; clear sy
    have hn1 : ¬ w.heap.size = b := by omega
    have hn2 : ¬ w.heap.size = bb_ := by omega
    have P0' := P0.out
    have P1' := P1.out
    have Q0' := Q0.out
    have Q1' := Q1.out
    have C0' := C0.out
    go_enter Try.func42, Try.ntmps42
    go_wp2
    go_region_held3 (fun w' => w'.cell? ⟨b, 0, none⟩ = some (.slice (some ⟨bb_, off, none⟩) L.length c) ∧ w'.cell? ⟨bb_, off + T * 2, none⟩ = some (.bool (ineg x)) ∧ w'.cell? ⟨bb_, off + T * 2 + 1, none⟩ = some (.string (imag x)) ∧ w'.cell? ⟨bb_, off + F * 2, none⟩ = some (.bool (ineg y)) ∧ w'.cell? ⟨bb_, off + F * 2 + 1, none⟩ = some (.string (imag y))) (go_keep) (first | (go_at_call 43; refine (isub_any _ _ _ _ _ SX.out SY.out).mono ?_; rintro e w1 ⟨hq, rfl⟩; have z0 := (hq.cell (p := ⟨b, 0, none⟩) (by simp; omega)).trans C0.out; have z1 := (hq.cell (p := ⟨bb_, off + T * 2, none⟩) (by simp; omega)).trans P0.out; have z2 := (hq.cell (p := ⟨bb_, off + T * 2 + 1, none⟩) (by simp; omega)).trans P1.out; have z3 := (hq.cell (p := ⟨bb_, off + F * 2, none⟩) (by simp; omega)).trans Q0.out; have z4 := (hq.cell (p := ⟨bb_, off + F * 2 + 1, none⟩) (by simp; omega)).trans Q1.out; have r1 := HRB.out.drew.below hq (by simp); have r10 := r1.cell (j := 0) rfl; have r11 := r1.cell (j := 1) rfl; have f10 := r1.frozen 0; have f11 := r1.frozen 1; clear r1; have HQ := Lib.hid hq; clear hq))
    go_wp2
    refine bodyPost_ret (v := IntV (ival (ineg x) (imag x) - ival (ineg y) (imag y))) (by simp [results, Try.results42, go_sem, r10, r11]) rfl ⟨?_, ?_⟩
    · have s1 := S0.out.drew.trans (HQ.out.mono S0.out.drew.size)
      exact (s1.setCell (p := ⟨w.heap.size, 0, none⟩) (Nat.le_refl _) _).setCell (p := ⟨w.heap.size, 1, none⟩) (Nat.le_refl _) _
    · rw [HV.out, ival_canon, ival_canon]
end Go.Proofs.Ytadibbbaegbljaa
