/- grooveref09.Sorted (under way: region 9 is open). -/
import Derived.Test.YtadibbbaegbljaaRefChk
import Derived.Test.YtadibbbaegbljaaPlainI
import Derived.Test.YtadibbbaegbljaaAppRow
import Derived.Deep.RegionHeld3
import Derived.Deep.DeepCutAuto
import Derived.Deep.CutBlock
namespace Go.Proofs.Ytadibbbaegbljaa
open Go.RowKit

theorem sortI_snoc (x : E3) : ∀ (l out : List E3), sortI out (l ++ [x]) = insI x (sortI out l)
  | [], out => rfl
  | y :: r, out => by rw [List.cons_append, sortI, sortI_snoc x r, sortI]
theorem posI_lt {x y : E3} {l : List E3} : ∀ {k : Nat}, k ≤ posI x l → l[k]? = some y → (cmpR y x < 0 ↔ k + 1 ≤ posI x l) := by
  induction l with
  | nil => intro k _ h; simp at h
  | cons z r ih =>
    intro k hk h
    rw [posI] at hk ⊢
    cases k with
    | zero =>
      have hzy : z = y := by simpa using h
      subst hzy
      by_cases hc : cmpR z x < 0
      · rw [if_pos hc]; simp [hc]
      · rw [if_neg hc]; simp [hc]
    | succ k =>
      by_cases hc : cmpR z x < 0
      · rw [if_pos hc] at hk ⊢
        rw [List.getElem?_cons_succ] at h
        rw [ih (by omega) h]; omega
      · rw [if_neg hc] at hk; omega
theorem szEdge (w : World) : (Go.sizeOf 60).run Try.prog w = .ok 3 w := by kernel_rfl
theorem ce_cons (e : E3) (l : List E3) : ce (e :: l) = e.cells ++ ce l := by simp [ce]
theorem ce_app (l k : List E3) : ce (l ++ k) = ce l ++ ce k := by simp [ce]
theorem ce_take : ∀ (l : List E3) (p : Nat), (ce l).take (p * 3) = ce (l.take p)
  | [], p => by simp [ce]
  | e :: l, 0 => by simp [ce]
  | e :: l, p + 1 => by
    rw [ce_cons, List.take_succ_cons, ce_cons, ← ce_take l p, show (p + 1) * 3 = p * 3 + 1 + 1 + 1 by omega]
    rfl
theorem ce_drop : ∀ (l : List E3) (p : Nat), (ce l).drop (p * 3) = ce (l.drop p)
  | [], p => by simp [ce]
  | e :: l, 0 => by simp [ce]
  | e :: l, p + 1 => by
    rw [ce_cons, List.drop_succ_cons, ← ce_drop l p, show (p + 1) * 3 = p * 3 + 1 + 1 + 1 by omega]
    rfl
theorem ce_one : ∀ (l : List E3), ∀ u ∈ ce l, u.oneCell' = true := by
  intro l u hu
  simp only [ce, List.mem_flatMap] at hu
  obtain ⟨e, _, hu⟩ := hu
  simp only [E3.cells, List.mem_cons, List.not_mem_nil, or_false] at hu
  rcases hu with rfl | rfl | rfl <;> rfl
def SortedRet (w : World) (es : List E3) (e : Ending) (w' : World) : Prop := Below w.heap.size w w' ∧ ∃ v, e = .returned v ∧ Row w' v es.length (ce es) ∧ ∀ k, v.ownBlock = some k → w.heap.size ≤ k
theorem row_setCell {w : World} {v : Value} {n : Nat} {xs : List Value} (h : Row w v n xs) (a : Addr) (u : Value) (hne : v.ownBlock ≠ some a.block) : Row (w.setCell a u) v n xs := by
  rcases h with h | ⟨b, off, cap, rfl, h1, h2, h3, h4⟩
  · exact .inl h
  · refine .inr ⟨b, off, cap, rfl, h1, h2, by simpa using h3, fun j x hx => ?_⟩
    rw [World.cell?_setCell_far _ _ _ _ (fun e => hne (by show some b = some a.block; rw [e]))]
    exact h4 j x hx
theorem insI_length (x : E3) (l : List E3) : (insI x l).length ≤ l.length + 1 := by
  unfold insI
  split
  · omega
  · have := posI_le x l
    simp; omega
theorem sortI_length : ∀ (l out : List E3), (sortI out l).length ≤ out.length + l.length
  | [], out => by simp [sortI]
  | x :: r, out => by
    rw [sortI]
    have h1 := sortI_length r (insI x out)
    have h2 := insI_length x out
    rw [List.length_cons]; omega
set_option maxRecDepth 100000 in
set_option maxHeartbeats 3200000 in
theorem rsorted_any (es : List E3) (v : Value) (w : World) (hrow : Row w v es.length (ce es)) (hlen : es.length ≤ 100000) :
    Calls Try.prog 93 #[v] w (SortedRet w (sortI [] es)) := by
  obtain ⟨va, vc, rfl, -⟩ := hrow.slice
  obtain ⟨n, hn⟩ : ∃ n, n = es.length := ⟨_, rfl⟩
  rw [← hn] at hrow hlen ⊢
  have HROW := Lib.hid hrow; clear hrow
  have HN := Lib.hid hn; clear hn
  go_enter Try.func93, Try.ntmps93
  go_wp2_with fail
  go_loopw [3, 4] (fun u i wr => ∃ (k : Nat) (d : List E3), k ≤ n ∧ i = .int .i64 k ∧ d = sortI [] (es.take k) ∧ d.length ≤ k ∧ Row wr u d.length (ce d) ∧ Below w.heap.size w wr ∧ ∀ j, u.ownBlock = some j → w.heap.size ≤ j) (fun _ i _ => n - (intOf i).toNat)
  case atStart => exact ⟨0, [], Nat.zero_le _, rfl, rfl, Nat.le_refl _, Row.nil _, Below.refl _ _, fun j h => by cases h⟩
  case round =>
    obtain ⟨k, d, hk, rfl, hd, hdl, hrd, hbel, hnw⟩ := hrel
    obtain ⟨wo, rfl⟩ : ∃ wo : World, wo = wr := ⟨_, rfl⟩
    obtain ⟨oa, oc, rfl, -⟩ := hrd.slice
    have HB := Lib.hid hbel; clear hbel
    have HRD := Lib.hid hrd; clear hrd
    have HD := Lib.hid hd; clear hd
    obtain ⟨m, hm⟩ : ∃ m, m = d.length := ⟨_, rfl⟩
    rw [← hm] at HRD hdl hnw ⊢
    have HNW := Lib.hid hnw; clear hnw
    have HM := Lib.hid hm; clear hm
    by_cases hlt : k < n
    · have ge : es[k]? = some (es[k]'(by rw [← HN.out]; exact hlt)) := List.getElem?_eq_getElem _
      obtain ⟨x, hx⟩ : ∃ x, x = es[k]'(by rw [← HN.out]; exact hlt) := ⟨_, rfl⟩
      rw [← hx] at ge
      have hsn : es.take (k + 1) = es.take k ++ [x] := by
        rw [List.take_succ_eq_append_getElem (by rw [← HN.out]; exact hlt), hx]
      have hd2 : sortI [] (es.take (k + 1)) = insI x d := by rw [hsn, sortI_snoc, ← HD.out]
      have HD2 := Lib.hid hd2; clear hd2
      clear hsn hx
      obtain ⟨P, hP⟩ : ∃ P, P = posI x d := ⟨_, rfl⟩
      have hPm : P ≤ m := by rw [hP, HM.out]; exact posI_le x d
      obtain ⟨b, off, rfl, hbw, hce⟩ := HROW.out.at_ (by omega)
      obtain ⟨q0, q1, q2⟩ := edge_cells hce HB.out hbw ge
      have hbwo : b < wo.heap.size := Nat.lt_of_lt_of_le hbw HB.out.size
      have HCE := Lib.hid hce; clear hce
      have HP := Lib.hid hP; clear hP
      have GE := Lib.hid ge; clear ge
      have Q0 := Lib.hid q0
      have Q1 := Lib.hid q1
      have Q2 := Lib.hid q2
      go_upto_block 2 with fail
      go_cut [5] (fun i wx => i = .int .i64 (P : Int) ∧ Below wo.heap.size wo wx)
      case first =>
        go_wp2_with fail
        go_loopw [5] (fun i wr => ∃ j : Nat, j ≤ m ∧ j ≤ P ∧ i = .int .i64 j ∧ Below wo.heap.size wo wr) (fun i _ => m - (intOf i).toNat)
        case atStart => exact ⟨0, Nat.zero_le _, Nat.zero_le _, rfl, Below.refl _ _⟩
        case round =>
          obtain ⟨j, hj, hjP, rfl, hbel⟩ := hrel
          have e0 := (hbel.cell (p := ⟨b, off + k * 3, none⟩) hbwo).trans Q0.out
          have e1 := (hbel.cell (p := ⟨b, off + k * 3 + 1, none⟩) hbwo).trans Q1.out
          have e2 := (hbel.cell (p := ⟨b, off + k * 3 + 2, none⟩) hbwo).trans Q2.out
          have hbr : b < wr.heap.size := by have := hbel.size; omega
          by_cases hjm : j < m
          · have gy : d[j]? = some (d[j]'(by rw [← HM.out]; exact hjm)) := List.getElem?_eq_getElem _
            obtain ⟨y, hy⟩ : ∃ y, y = d[j]'(by rw [← HM.out]; exact hjm) := ⟨_, rfl⟩
            rw [← hy] at gy
            have hpl := posI_lt (x := x) (l := d) (k := j) (by rw [← HP.out]; exact hjP) gy
            rw [← HP.out] at hpl
            obtain ⟨bo, oo, rfl, hbo, hco⟩ := HRD.out.at_ (by omega)
            obtain ⟨y0, y1, y2⟩ := edge_cells hco hbel hbo gy
            have hbor : bo < wr.heap.size := by have := hbel.size; omega
            have hcc := fun w' => rcmp_any y x w'
            obtain ⟨C, hC⟩ : ∃ C, C = cmpR y x := ⟨_, rfl⟩
            simp only [← hC] at hcc
            rw [← hC] at hpl
            have hjd : decide ((j : Int) < m) = true := by simp; omega
            have hjd2 : decide (j < m) = true := by simp; omega
            have hj0 : (0 : Int) ≤ (j : Int) := by omega
            have hjmi : (j : Int) < (m : Int) := by omega
            have hk0 : (0 : Int) ≤ (k : Int) := by omega
            have hkn : (k : Int) < (n : Int) := by omega
            have HCC := Lib.hid hcc; clear hcc
            have HBL := Lib.hid hbel; clear hbel
            clear hC hy hco gy q0 q1 q2
            by_cases hc : C < 0
            · have hp1 := hpl.1 hc
              clear hpl
              go_wp2_with fail
              go_region_held3 (fun w' => w'.cell? ⟨b, off + k * 3, none⟩ = some (.int .i64 x.f) ∧ w'.cell? ⟨b, off + k * 3 + 1, none⟩ = some (.int .i64 x.l) ∧ w'.cell? ⟨b, off + k * 3 + 2, none⟩ = some (.int .i64 x.t) ∧ w'.cell? ⟨bo, oo + j * 3, none⟩ = some (.int .i64 y.f) ∧ w'.cell? ⟨bo, oo + j * 3 + 1, none⟩ = some (.int .i64 y.l) ∧ w'.cell? ⟨bo, oo + j * 3 + 2, none⟩ = some (.int .i64 y.t)) (go_keep) (first | (go_at_call 101; refine (HCC.out _).mono ?_; rintro e w1 ⟨hq, rfl⟩; have z0 := (hq.cell (p := ⟨b, off + k * 3, none⟩) (by simp only [World.size_drew]; omega)).trans e0; have z1 := (hq.cell (p := ⟨b, off + k * 3 + 1, none⟩) (by simp only [World.size_drew]; omega)).trans e1; have z2 := (hq.cell (p := ⟨b, off + k * 3 + 2, none⟩) (by simp only [World.size_drew]; omega)).trans e2; have z3 := (hq.cell (p := ⟨bo, oo + j * 3, none⟩) (by simp only [World.size_drew]; omega)).trans y0; have z4 := (hq.cell (p := ⟨bo, oo + j * 3 + 1, none⟩) (by simp only [World.size_drew]; omega)).trans y1; have z5 := (hq.cell (p := ⟨bo, oo + j * 3 + 2, none⟩) (by simp only [World.size_drew]; omega)).trans y2; have HQ := Lib.hid hq; clear hq))
              go_wp2_with fail
              go_roundw
              case rel => exact ⟨j + 1, by omega, by omega, by go_num, HBL.out.drew.trans (HQ.out.mono HBL.out.size)⟩
              case measure => simp [intOf]; omega
            · have hp1 : j = P := by
                have : ¬ (j + 1 ≤ P) := fun h => hc (hpl.2 h)
                omega
              subst hp1
              clear hpl
              go_wp2_with fail
              go_region_held3 (fun w' => w'.cell? ⟨b, off + k * 3, none⟩ = some (.int .i64 x.f) ∧ w'.cell? ⟨b, off + k * 3 + 1, none⟩ = some (.int .i64 x.l) ∧ w'.cell? ⟨b, off + k * 3 + 2, none⟩ = some (.int .i64 x.t) ∧ w'.cell? ⟨bo, oo + j * 3, none⟩ = some (.int .i64 y.f) ∧ w'.cell? ⟨bo, oo + j * 3 + 1, none⟩ = some (.int .i64 y.l) ∧ w'.cell? ⟨bo, oo + j * 3 + 2, none⟩ = some (.int .i64 y.t)) (go_keep) (first | (go_at_call 101; refine (HCC.out _).mono ?_; rintro e w1 ⟨hq, rfl⟩; have z0 := (hq.cell (p := ⟨b, off + k * 3, none⟩) (by simp only [World.size_drew]; omega)).trans e0; have z1 := (hq.cell (p := ⟨b, off + k * 3 + 1, none⟩) (by simp only [World.size_drew]; omega)).trans e1; have z2 := (hq.cell (p := ⟨b, off + k * 3 + 2, none⟩) (by simp only [World.size_drew]; omega)).trans e2; have z3 := (hq.cell (p := ⟨bo, oo + j * 3, none⟩) (by simp only [World.size_drew]; omega)).trans y0; have z4 := (hq.cell (p := ⟨bo, oo + j * 3 + 1, none⟩) (by simp only [World.size_drew]; omega)).trans y1; have z5 := (hq.cell (p := ⟨bo, oo + j * 3 + 2, none⟩) (by simp only [World.size_drew]; omega)).trans y2; have HQ := Lib.hid hq; clear hq))
              go_wp2_with fail
              go_meet
              exact ⟨rfl, HBL.out.drew.trans (HQ.out.mono HBL.out.size)⟩
          · have hjm2 : j = m := by omega
            have hjP2 : j = P := by omega
            have hjd : decide ((j : Int) < m) = false := by simp; omega
            have hjd2 : decide (j < m) = false := by simp; omega
            have HBL := Lib.hid hbel; clear hbel
            clear e0 e1 e2
            subst hjP2
            go_wp2_with fail
            go_quiet (fail)
            go_wp2_with fail
            go_meet
            exact ⟨rfl, below_drewN HBL.out _⟩
      case rest =>
        obtain ⟨rfl, hbx⟩ := hcut
        obtain ⟨wx, rfl⟩ : ∃ wx : World, wx = wc := ⟨_, rfl⟩
        clear q0 q1 q2
        have e0 := (hbx.cell (p := ⟨b, off + k * 3, none⟩) hbwo).trans Q0.out
        have e1 := (hbx.cell (p := ⟨b, off + k * 3 + 1, none⟩) hbwo).trans Q1.out
        have e2 := (hbx.cell (p := ⟨b, off + k * 3 + 2, none⟩) hbwo).trans Q2.out
        obtain ⟨cb, hcb⟩ : ∃ cb, cb = decide (d[P]? = some x) := ⟨_, rfl⟩
        have hk0 : (0 : Int) ≤ (k : Int) := by omega
        have hkn : (k : Int) < (n : Int) := by omega
        have hP0 : (0 : Int) ≤ (P : Int) := by omega
        have hPmi : (P : Int) ≤ (m : Int) := by omega
        go_upto_region 8 with (fail)
        go_cut [44] (fun s wy => s = .bool cb ∧ Below wx.heap.size wx wy)
        case first =>
          by_cases hPlt : P < m
          · have gy : d[P]? = some (d[P]'(by rw [← HM.out]; exact hPlt)) := List.getElem?_eq_getElem _
            obtain ⟨y, hy⟩ : ∃ y, y = d[P]'(by rw [← HM.out]; exact hPlt) := ⟨_, rfl⟩
            rw [← hy] at gy
            have hcb2 : cb = decide (y = x) := by rw [hcb, gy]; simp
            have hjd : decide ((P : Int) < m) = true := by simp; omega
            have hjd2 : decide (P < m) = true := by simp; omega
            have hPlt2 : (P : Int) < (m : Int) := by omega
            obtain ⟨bo, oo, rfl, hbo, hco⟩ := HRD.out.at_ (by omega)
            obtain ⟨y0, y1, y2⟩ := edge_cells hco hbx hbo gy
            have heq := eql_edge y x
            rw [← hcb2] at heq
            have HBX := Lib.hid hbx; clear hbx
            have HCB := Lib.hid hcb; clear hcb
            clear hcb2 hy hco gy
            go_wp2_with fail
            go_quiet (fail)
            go_wp2_with fail
            go_meet
            exact ⟨rfl, below_drewN (Below.refl wx.heap.size wx) _⟩
          · have hcb2 : cb = false := by rw [hcb, List.getElem?_eq_none (by rw [← HM.out]; omega)]; simp
            have hjd : decide ((P : Int) < m) = false := by simp; omega
            have hjd2 : decide (P < m) = false := by simp; omega
            have HCB := Lib.hid hcb; clear hcb
            have HBX := Lib.hid hbx; clear hbx
            have HCB2 := Lib.hid hcb2; clear hcb2
            clear e0 e1 e2
            go_wp2_with fail
            go_quiet (fail)
            go_wp2_with fail
            go_meet
            exact ⟨by rw [HCB2.out], below_drewN (Below.refl wx.heap.size wx) _⟩
        case rest =>
          obtain ⟨rfl, hby⟩ := hcut
          obtain ⟨wy, rfl⟩ : ∃ wy : World, wy = wc := ⟨_, rfl⟩
          have hbw0 := hbx.trans (hby.mono hbx.size)
          clear e0 e1 e2 hbx hby
          have e0 := (hbw0.cell (p := ⟨b, off + k * 3, none⟩) hbwo).trans Q0.out
          have e1 := (hbw0.cell (p := ⟨b, off + k * 3 + 1, none⟩) hbwo).trans Q1.out
          have e2 := (hbw0.cell (p := ⟨b, off + k * 3 + 2, none⟩) hbwo).trans Q2.out
          have hins : insI x d = if cb = true then d else d.take P ++ x :: d.drop P := by
            rw [insI, ← HP.out, hcb]; simp only [decide_eq_true_eq]
          have HB0 := Lib.hid hbw0; clear hbw0
          cases cb with
          | true =>
            have hins2 : insI x d = d := by rw [hins, if_pos rfl]
            have HINS := Lib.hid hins2; clear hins2
            clear hins hcb e0 e1 e2
            go_wp2_with fail
            go_roundw
            case rel => exact ⟨k + 1, insI x d, by omega, by go_num, by rw [HD2.out], by rw [HINS.out, ← HM.out]; omega, by rw [HINS.out, ← HM.out]; exact HRD.out.below HB0.out (Nat.le_refl _), HB.out.trans (HB0.out.mono HB.out.size), HNW.out⟩
            case measure => simp [intOf]; omega
          | false =>
            have hins2 : insI x d = d.take P ++ x :: d.drop P := by rw [hins, if_neg (by decide)]
            have hlen2 : (insI x d).length = m + 1 := by rw [hins2, HM.out]; simp; rw [← HM.out]; omega
            have hxs : [] ++ ce (d.take P) ++ ce [x] ++ ce (d.drop P) = ce (insI x d) := by rw [hins2, List.nil_append, ← ce_app, ← ce_app]; simp
            obtain ⟨a1, c1, hs1, hr1⟩ := sl_to 44 60 3 Try.underlying44 szEdge oa m oc P hPm HRD.out.le
            obtain ⟨a2, c2, hs2, hr2⟩ := sl_from 44 60 3 Try.underlying44 szEdge (by decide) oa m oc P hPm HRD.out.le
            have hR1 : ∀ W, Below wo.heap.size wo W → Row W (.slice a1 P c1) P (ce (d.take P)) := fun W h => by
              have := hr1 W _ (HRD.out.below h (Nat.le_refl _)); rwa [ce_take] at this
            have hR2 : ∀ W, Below wo.heap.size wo W → Row W (.slice a2 (m - P) c2) (m - P) (ce (d.drop P)) := fun W h => by
              have := hr2 W _ (HRD.out.below h (Nat.le_refl _)) (by rw [ce_length, HM.out]); rwa [ce_drop] at this
            have hl1 : (ce (d.take P)).length = P * 3 := by rw [ce_length, List.length_take, ← HM.out, Nat.min_eq_left hPm]
            have hl2 : (ce (d.drop P)).length = (m - P) * 3 := by rw [ce_length, List.length_drop, ← HM.out]
            have hwo : wo.heap.size ≤ wy.heap.size := HB0.out.size
            have R1 := Lib.hid hR1; clear hR1
            have R2 := Lib.hid hR2; clear hR2
            have L1 := Lib.hid hl1; clear hl1
            have L2 := Lib.hid hl2; clear hl2
            have HINS := Lib.hid hins2; clear hins2
            have HLEN := Lib.hid hlen2; clear hlen2
            have HXS := Lib.hid hxs; clear hxs
            clear hins hcb hr1 hr2
            go_wp2_with fail
            refine wp_region_held_drew (S := fun w' => w'.cell? ⟨b, off + k * 3, none⟩ = some (.int .i64 x.f) ∧ w'.cell? ⟨b, off + k * 3 + 1, none⟩ = some (.int .i64 x.l) ∧ w'.cell? ⟨b, off + k * 3 + 2, none⟩ = some (.int .i64 x.t)) (by kernel_rfl) ?_ (fun hHeld => ?_)
            · go_keep
            refine wpAnyH_take (i := 1) (v := ?_) rfl (by kernel_rfl) (by kernel_rfl) (by kernel_rfl) (fun _ _ _ h => h) (Or.inl ⟨by rfl, ?_⟩) (by assumption) ?_
            rotate_left
            · (intro wS hSw; (try dsimp only at hSw); go_simp; (try with_reducible rfl))
            (try simp only [Act.put, List.setIfInBounds_toArray, List.set_cons_zero, List.set_cons_succ])
            refine wpAnyH_take (i := 2) (v := ?_) rfl (by kernel_rfl) (by kernel_rfl) (by kernel_rfl) (fun _ _ _ h => h) (Or.inl ⟨by rfl, ?_⟩) (by assumption) ?_
            rotate_left
            · (intro wS hSw; (try dsimp only at hSw); go_simp; (try with_reducible rfl))
            (try simp only [Act.put, List.setIfInBounds_toArray, List.set_cons_zero, List.set_cons_succ])
            refine wpAnyH_take (i := 3) (v := ?_) rfl (by kernel_rfl) (by kernel_rfl) (by kernel_rfl) (fun _ _ _ h => h) (Or.inl ⟨by rfl, ?_⟩) (by assumption) ?_
            rotate_left
            · (intro wS hSw; (try dsimp only at hSw); go_simp; (try with_reducible rfl))
            (try simp only [Act.put, List.setIfInBounds_toArray, List.set_cons_zero, List.set_cons_succ])
            refine wpAnyH_take (i := 5) (v := ?_) rfl (by kernel_rfl) (by kernel_rfl) (by kernel_rfl) (fun _ _ _ h => h) (Or.inl ⟨by rfl, ?_⟩) (by assumption) ?_
            rotate_left
            · (intro wS hSw; (try dsimp only at hSw); go_simp; (try with_reducible rfl))
            (try simp only [Act.put, List.setIfInBounds_toArray, List.set_cons_zero, List.set_cons_succ])
            refine wpAnyH_take (i := 6) (v := ?_) rfl (by kernel_rfl) (by kernel_rfl) (by kernel_rfl) (fun _ _ _ h => h) (Or.inl ⟨by rfl, ?_⟩) (by assumption) ?_
            rotate_left
            · (intro wS hSw; (try dsimp only at hSw); go_simp; (try with_reducible rfl))
            (try simp only [Act.put, List.setIfInBounds_toArray, List.set_cons_zero, List.set_cons_succ])
            refine wpAnyH_take (i := 7) (v := ?_) rfl (by kernel_rfl) (by kernel_rfl) (by kernel_rfl) (fun _ _ _ h => h) (Or.inl ⟨by rfl, ?_⟩) (by assumption) ?_
            rotate_left
            · (intro wS hSw; (try dsimp only at hSw); go_simp; (try with_reducible rfl))
            (try simp only [Act.put, List.setIfInBounds_toArray, List.set_cons_zero, List.set_cons_succ])
            refine wpAnyH_take (i := 8) (v := ?_) rfl (by kernel_rfl) (by kernel_rfl) (by kernel_rfl) (fun _ _ _ h => h) (Or.inl ⟨by rfl, ?_⟩) (by assumption) ?_
            rotate_left
            · (intro wS hSw; (try dsimp only at hSw); go_simp; (try with_reducible rfl))
            (try simp only [Act.put, List.setIfInBounds_toArray, List.set_cons_zero, List.set_cons_succ])
            refine wpAnyH_take (i := 11) (v := ?_) rfl (by kernel_rfl) (by kernel_rfl) (by kernel_rfl) (fun _ _ _ h => h) (Or.inl ⟨by rfl, ?_⟩) (by assumption) ?_
            rotate_left
            · (intro wS hSw; (try dsimp only at hSw); go_simp; (try with_reducible rfl))
            (try simp only [Act.put, List.setIfInBounds_toArray, List.set_cons_zero, List.set_cons_succ])
            refine wpAnyH_take (i := 12) (v := ?_) rfl (by kernel_rfl) (by kernel_rfl) (by kernel_rfl) (fun _ _ _ h => h) (Or.inl ⟨by rfl, ?_⟩) (by assumption) ?_
            rotate_left
            · (intro wS hSw; (try dsimp only at hSw); go_simp; (try with_reducible rfl))
            (try simp only [Act.put, List.setIfInBounds_toArray, List.set_cons_zero, List.set_cons_succ])
            refine wpAnyH_take (i := 13) (v := ?_) rfl (by kernel_rfl) (by kernel_rfl) (by kernel_rfl) (fun _ _ _ h => h) (Or.inl ⟨by rfl, ?_⟩) (by assumption) ?_
            rotate_left
            · (intro wS hSw; (try dsimp only at hSw); go_simp; (try with_reducible rfl))
            (try simp only [Act.put, List.setIfInBounds_toArray, List.set_cons_zero, List.set_cons_succ])
            refine wpAnyH_ready (rs := [0, 9]) (by kernel_rfl) (by simp) ?_
            refine AllReadyH.cons rfl (fun K hK => ?_) (AllReadyH.cons rfl (fun K hK => ?_) AllReadyH.nil)
            · go_simp
              have hbA : Below wo.heap.size wo ((wy.alloc (.cells #[] 60)).drew) := (HB0.out.alloc hwo _).drew
              have ownA : ((wy.alloc (.cells #[] 60)).drew).ownsRow wo.heap.size 60 3 (.slice (some ⟨wy.heap.size, 0, none⟩) 0 0) 0 [] := (World.ownsRow_made wy (#[] : Array Value) 0 (base := wo.heap.size) (e := 60) (size := 3) hwo (Nat.zero_le _) rfl).drew
              refine hK.out _ _ ⟨(hbA.cell (p := ⟨b, off + k * 3, none⟩) hbwo).trans Q0.out, (hbA.cell (p := ⟨b, off + k * 3 + 1, none⟩) hbwo).trans Q1.out, (hbA.cell (p := ⟨b, off + k * 3 + 2, none⟩) hbwo).trans Q2.out⟩ (fun hHeld => ?_)
              clear hK K
              (try simp only [Act.put, List.setIfInBounds_toArray, List.set_cons_zero, List.set_cons_succ])
              refine wpAnyH_ready (rs := [4, 9]) (by kernel_rfl) (by simp) ?_
              refine AllReadyH.cons rfl (fun K hK => ?_) (AllReadyH.cons rfl (fun K hK => ?_) AllReadyH.nil)
              · refine step_append_row rfl _ _ 44 rfl wo.heap.size 60 _ 3 24 Try.underlying44 infoEdge rfl (by decide) _ 0 _ (by rfl) ownA _ P _ (by rfl) (R1.out _ hbA) L1.out (ce_one _) (by unfold maxLen; omega) (by omega) hbA.size ?_
                intro v2 W2 ownW2 hgW2
                have hb2 : Below wo.heap.size wo W2 := hbA.grown hgW2 hbA.size (fun j hj => (ownA.lt j hj).1)
                refine hK.out _ _ ⟨(hb2.cell (p := ⟨b, off + k * 3, none⟩) hbwo).trans Q0.out, (hb2.cell (p := ⟨b, off + k * 3 + 1, none⟩) hbwo).trans Q1.out, (hb2.cell (p := ⟨b, off + k * 3 + 2, none⟩) hbwo).trans Q2.out⟩ (fun hHeld => ?_)
                clear hK K
                (try simp only [Act.put, List.setIfInBounds_toArray, List.set_cons_zero, List.set_cons_succ])
                refine wpAnyH_ready (rs := [9]) (by kernel_rfl) (by simp) ?_
                refine AllReadyH.cons rfl (fun K hK => ?_) AllReadyH.nil
                go_simp
                have hb3 : Below wo.heap.size wo (W2.alloc (.cells #[.int .i64 x.f, .int .i64 x.l, .int .i64 x.t] 60)) := hb2.alloc hb2.size _
                have rx : Row (W2.alloc (.cells #[.int .i64 x.f, .int .i64 x.l, .int .i64 x.t] 60)) (.slice (some ⟨W2.heap.size, 0, none⟩) 1 1) 1 (ce [x]) := Row.ofBlk (Blk.new W2 60 x.cells) (m := 1) (cap := 1) (Nat.le_refl _) (by decide) 3
                refine hK.out _ _ ⟨(hb3.cell (p := ⟨b, off + k * 3, none⟩) hbwo).trans Q0.out, (hb3.cell (p := ⟨b, off + k * 3 + 1, none⟩) hbwo).trans Q1.out, (hb3.cell (p := ⟨b, off + k * 3 + 2, none⟩) hbwo).trans Q2.out⟩ (fun hHeld => ?_)
                clear hK K
                (try simp only [Act.put, List.setIfInBounds_toArray, List.set_cons_zero, List.set_cons_succ])
                refine wpAnyH_ready (rs := [10]) (by kernel_rfl) (by simp) ?_
                refine AllReadyH.cons rfl (fun K hK => ?_) AllReadyH.nil
                refine step_append_row rfl _ _ 44 rfl wo.heap.size 60 _ 3 24 Try.underlying44 infoEdge rfl (by decide) _ (0 + P) _ (by rfl) (ownW2.alloc (.cells #[.int .i64 x.f, .int .i64 x.l, .int .i64 x.t] 60)) _ 1 _ (by rfl) rx rfl (ce_one _) (by unfold maxLen; omega) (by omega) hb3.size ?_
                intro v4 W4 ownW4 hgW4
                have hb4 : Below wo.heap.size wo W4 := hb3.grown hgW4 hb3.size (fun j hj => ((ownW2.alloc (.cells #[.int .i64 x.f, .int .i64 x.l, .int .i64 x.t] 60)).lt j hj).1)
                refine hK.out _ _ ⟨(hb4.cell (p := ⟨b, off + k * 3, none⟩) hbwo).trans Q0.out, (hb4.cell (p := ⟨b, off + k * 3 + 1, none⟩) hbwo).trans Q1.out, (hb4.cell (p := ⟨b, off + k * 3 + 2, none⟩) hbwo).trans Q2.out⟩ (fun hHeld => ?_)
                clear hK K
                (try simp only [Act.put, List.setIfInBounds_toArray, List.set_cons_zero, List.set_cons_succ])
                refine wpAnyH_ready (rs := [14]) (by kernel_rfl) (by simp) ?_
                refine AllReadyH.cons rfl (fun K hK => ?_) AllReadyH.nil
                refine step_append_row rfl _ _ 44 rfl wo.heap.size 60 _ 3 24 Try.underlying44 infoEdge rfl (by decide) _ ((0 + P) + 1) _ (by rfl) ownW4 _ (m - P) _ (by rfl) (R2.out _ hb4) L2.out (ce_one _) (by unfold maxLen; omega) (by omega) hb4.size ?_
                intro v5 W5 ownW5 hgW5
                have hb5 : Below wo.heap.size wo W5 := hb4.grown hgW5 hb4.size (fun j hj => (ownW4.lt j hj).1)
                refine hK.out _ _ ⟨(hb5.cell (p := ⟨b, off + k * 3, none⟩) hbwo).trans Q0.out, (hb5.cell (p := ⟨b, off + k * 3 + 1, none⟩) hbwo).trans Q1.out, (hb5.cell (p := ⟨b, off + k * 3 + 2, none⟩) hbwo).trans Q2.out⟩ (fun hHeld => ?_)
                clear hK K
                (try simp only [Act.put, List.setIfInBounds_toArray, List.set_cons_zero, List.set_cons_succ])
                refine wpAnyH_take (i := 15) (v := ?_) rfl (by kernel_rfl) (by kernel_rfl) (by kernel_rfl) (fun _ _ _ h => h) (Or.inl ⟨by rfl, ?_⟩) (by assumption) ?_
                rotate_left
                · (intro wS hSw; (try dsimp only at hSw); go_simp; (try with_reducible rfl))
                (try simp only [Act.put, List.setIfInBounds_toArray, List.set_cons_zero, List.set_cons_succ])
                refine wpAnyH_done (by kernel_rfl) ?_ _
                rw [HXS.out, show 0 + P + 1 + (m - P) = m + 1 by omega] at ownW5
                obtain ⟨a5, c5, rfl⟩ := own_slice ownW5
                have OW5 := Lib.hid ownW5; clear ownW5
                have HB5 := Lib.hid hb5; clear hb5
                go_wp2_with fail
                go_roundw
                case rel => exact ⟨k + 1, insI x d, by omega, by go_num, by rw [HD2.out], by rw [HLEN.out]; omega, by rw [HLEN.out]; exact own_row OW5.out, HB.out.trans (HB5.out.mono HB.out.size), fun j h => Nat.le_trans HB.out.size (OW5.out.lt j h).1⟩
                case measure => simp [intOf]; omega
              · go_simp
                have hb2 : Below wo.heap.size wo (((wy.alloc (.cells #[] 60)).alloc (.cells #[.int .i64 x.f, .int .i64 x.l, .int .i64 x.t] 60)).drew) := ((HB0.out.alloc hwo _).alloc (by simp; omega) _).drew
                have own2 : (((wy.alloc (.cells #[] 60)).alloc (.cells #[.int .i64 x.f, .int .i64 x.l, .int .i64 x.t] 60)).drew).ownsRow wo.heap.size 60 3 (.slice (some ⟨wy.heap.size, 0, none⟩) 0 0) 0 [] := ownA.alloc (.cells #[.int .i64 x.f, .int .i64 x.l, .int .i64 x.t] 60)
                have bx := (Blk.new (wy.alloc (.cells #[] 60)) 60 x.cells).drew
                rw [World.size_alloc] at bx
                refine hK.out _ _ ⟨(hb2.cell (p := ⟨b, off + k * 3, none⟩) hbwo).trans Q0.out, (hb2.cell (p := ⟨b, off + k * 3 + 1, none⟩) hbwo).trans Q1.out, (hb2.cell (p := ⟨b, off + k * 3 + 2, none⟩) hbwo).trans Q2.out⟩ (fun hHeld => ?_)
                clear hK K
                (try simp only [Act.put, List.setIfInBounds_toArray, List.set_cons_zero, List.set_cons_succ])
                refine wpAnyH_ready (rs := [4]) (by kernel_rfl) (by simp) ?_
                refine AllReadyH.cons rfl (fun K hK => ?_) AllReadyH.nil
                refine step_append_row rfl _ _ 44 rfl wo.heap.size 60 _ 3 24 Try.underlying44 infoEdge rfl (by decide) _ 0 _ (by rfl) own2 _ P _ (by rfl) (R1.out _ hb2) L1.out (ce_one _) (by unfold maxLen; omega) (by omega) hb2.size ?_
                intro v3 W3 ownW3 hgW3
                have hb3 : Below wo.heap.size wo W3 := hb2.grown hgW3 hb2.size (fun j hj => (own2.lt j hj).1)
                have rx : Row W3 (.slice (some ⟨wy.heap.size + 1, 0, none⟩) 1 1) 1 (ce [x]) := Row.ofBlk (bx.grown hgW3 (fun e => by have := Option.some.inj (show some wy.heap.size = some (wy.heap.size + 1) from e); omega)) (m := 1) (cap := 1) (Nat.le_refl _) (by decide) 3
                refine hK.out _ _ ⟨(hb3.cell (p := ⟨b, off + k * 3, none⟩) hbwo).trans Q0.out, (hb3.cell (p := ⟨b, off + k * 3 + 1, none⟩) hbwo).trans Q1.out, (hb3.cell (p := ⟨b, off + k * 3 + 2, none⟩) hbwo).trans Q2.out⟩ (fun hHeld => ?_)
                clear hK K
                (try simp only [Act.put, List.setIfInBounds_toArray, List.set_cons_zero, List.set_cons_succ])
                refine wpAnyH_ready (rs := [10]) (by kernel_rfl) (by simp) ?_
                refine AllReadyH.cons rfl (fun K hK => ?_) AllReadyH.nil
                refine step_append_row rfl _ _ 44 rfl wo.heap.size 60 _ 3 24 Try.underlying44 infoEdge rfl (by decide) _ (0 + P) _ (by rfl) ownW3 _ 1 _ (by rfl) rx rfl (ce_one _) (by unfold maxLen; omega) (by omega) hb3.size ?_
                intro v4 W4 ownW4 hgW4
                have hb4 : Below wo.heap.size wo W4 := hb3.grown hgW4 hb3.size (fun j hj => (ownW3.lt j hj).1)
                refine hK.out _ _ ⟨(hb4.cell (p := ⟨b, off + k * 3, none⟩) hbwo).trans Q0.out, (hb4.cell (p := ⟨b, off + k * 3 + 1, none⟩) hbwo).trans Q1.out, (hb4.cell (p := ⟨b, off + k * 3 + 2, none⟩) hbwo).trans Q2.out⟩ (fun hHeld => ?_)
                clear hK K
                (try simp only [Act.put, List.setIfInBounds_toArray, List.set_cons_zero, List.set_cons_succ])
                refine wpAnyH_ready (rs := [14]) (by kernel_rfl) (by simp) ?_
                refine AllReadyH.cons rfl (fun K hK => ?_) AllReadyH.nil
                refine step_append_row rfl _ _ 44 rfl wo.heap.size 60 _ 3 24 Try.underlying44 infoEdge rfl (by decide) _ ((0 + P) + 1) _ (by rfl) ownW4 _ (m - P) _ (by rfl) (R2.out _ hb4) L2.out (ce_one _) (by unfold maxLen; omega) (by omega) hb4.size ?_
                intro v5 W5 ownW5 hgW5
                have hb5 : Below wo.heap.size wo W5 := hb4.grown hgW5 hb4.size (fun j hj => (ownW4.lt j hj).1)
                refine hK.out _ _ ⟨(hb5.cell (p := ⟨b, off + k * 3, none⟩) hbwo).trans Q0.out, (hb5.cell (p := ⟨b, off + k * 3 + 1, none⟩) hbwo).trans Q1.out, (hb5.cell (p := ⟨b, off + k * 3 + 2, none⟩) hbwo).trans Q2.out⟩ (fun hHeld => ?_)
                clear hK K
                (try simp only [Act.put, List.setIfInBounds_toArray, List.set_cons_zero, List.set_cons_succ])
                refine wpAnyH_take (i := 15) (v := ?_) rfl (by kernel_rfl) (by kernel_rfl) (by kernel_rfl) (fun _ _ _ h => h) (Or.inl ⟨by rfl, ?_⟩) (by assumption) ?_
                rotate_left
                · (intro wS hSw; (try dsimp only at hSw); go_simp; (try with_reducible rfl))
                (try simp only [Act.put, List.setIfInBounds_toArray, List.set_cons_zero, List.set_cons_succ])
                refine wpAnyH_done (by kernel_rfl) ?_ _
                rw [HXS.out, show 0 + P + 1 + (m - P) = m + 1 by omega] at ownW5
                obtain ⟨a5, c5, rfl⟩ := own_slice ownW5
                have OW5 := Lib.hid ownW5; clear ownW5
                have HB5 := Lib.hid hb5; clear hb5
                go_wp2_with fail
                go_roundw
                case rel => exact ⟨k + 1, insI x d, by omega, by go_num, by rw [HD2.out], by rw [HLEN.out]; omega, by rw [HLEN.out]; exact own_row OW5.out, HB.out.trans (HB5.out.mono HB.out.size), fun j h => Nat.le_trans HB.out.size (OW5.out.lt j h).1⟩
                case measure => simp [intOf]; omega
            · go_simp
              have hbA : Below wo.heap.size wo ((wy.alloc (.cells #[.int .i64 x.f, .int .i64 x.l, .int .i64 x.t] 60)).drew) := (HB0.out.alloc hwo _).drew
              refine hK.out _ _ ⟨(hbA.cell (p := ⟨b, off + k * 3, none⟩) hbwo).trans Q0.out, (hbA.cell (p := ⟨b, off + k * 3 + 1, none⟩) hbwo).trans Q1.out, (hbA.cell (p := ⟨b, off + k * 3 + 2, none⟩) hbwo).trans Q2.out⟩ (fun hHeld => ?_)
              clear hK K
              (try simp only [Act.put, List.setIfInBounds_toArray, List.set_cons_zero, List.set_cons_succ])
              refine wpAnyH_ready (rs := [0]) (by kernel_rfl) (by simp) ?_
              refine AllReadyH.cons rfl (fun K hK => ?_) AllReadyH.nil
              go_simp
              have hb2 : Below wo.heap.size wo (((wy.alloc (.cells #[.int .i64 x.f, .int .i64 x.l, .int .i64 x.t] 60)).alloc (.cells #[] 60)).drew) := ((HB0.out.alloc hwo _).alloc (by simp; omega) _).drew
              have own2 : (((wy.alloc (.cells #[.int .i64 x.f, .int .i64 x.l, .int .i64 x.t] 60)).alloc (.cells #[] 60)).drew).ownsRow wo.heap.size 60 3 (.slice (some ⟨wy.heap.size + 1, 0, none⟩) 0 0) 0 [] := by
                have h := (World.ownsRow_made (wy.alloc (.cells #[.int .i64 x.f, .int .i64 x.l, .int .i64 x.t] 60)) (#[] : Array Value) 0 (base := wo.heap.size) (e := 60) (size := 3) (by simp; omega) (Nat.zero_le _) rfl).drew
                rwa [World.size_alloc] at h
              have bx := ((Blk.new wy 60 x.cells).alloc (.cells #[] 60)).drew
              refine hK.out _ _ ⟨(hb2.cell (p := ⟨b, off + k * 3, none⟩) hbwo).trans Q0.out, (hb2.cell (p := ⟨b, off + k * 3 + 1, none⟩) hbwo).trans Q1.out, (hb2.cell (p := ⟨b, off + k * 3 + 2, none⟩) hbwo).trans Q2.out⟩ (fun hHeld => ?_)
              clear hK K
              (try simp only [Act.put, List.setIfInBounds_toArray, List.set_cons_zero, List.set_cons_succ])
              refine wpAnyH_ready (rs := [4]) (by kernel_rfl) (by simp) ?_
              refine AllReadyH.cons rfl (fun K hK => ?_) AllReadyH.nil
              refine step_append_row rfl _ _ 44 rfl wo.heap.size 60 _ 3 24 Try.underlying44 infoEdge rfl (by decide) _ 0 _ (by rfl) own2 _ P _ (by rfl) (R1.out _ hb2) L1.out (ce_one _) (by unfold maxLen; omega) (by omega) hb2.size ?_
              intro v3 W3 ownW3 hgW3
              have hb3 : Below wo.heap.size wo W3 := hb2.grown hgW3 hb2.size (fun j hj => (own2.lt j hj).1)
              have rx : Row W3 (.slice (some ⟨wy.heap.size, 0, none⟩) 1 1) 1 (ce [x]) := Row.ofBlk (bx.grown hgW3 (fun e => by have := Option.some.inj (show some (wy.heap.size + 1) = some wy.heap.size from e); omega)) (m := 1) (cap := 1) (Nat.le_refl _) (by decide) 3
              refine hK.out _ _ ⟨(hb3.cell (p := ⟨b, off + k * 3, none⟩) hbwo).trans Q0.out, (hb3.cell (p := ⟨b, off + k * 3 + 1, none⟩) hbwo).trans Q1.out, (hb3.cell (p := ⟨b, off + k * 3 + 2, none⟩) hbwo).trans Q2.out⟩ (fun hHeld => ?_)
              clear hK K
              (try simp only [Act.put, List.setIfInBounds_toArray, List.set_cons_zero, List.set_cons_succ])
              refine wpAnyH_ready (rs := [10]) (by kernel_rfl) (by simp) ?_
              refine AllReadyH.cons rfl (fun K hK => ?_) AllReadyH.nil
              refine step_append_row rfl _ _ 44 rfl wo.heap.size 60 _ 3 24 Try.underlying44 infoEdge rfl (by decide) _ (0 + P) _ (by rfl) ownW3 _ 1 _ (by rfl) rx rfl (ce_one _) (by unfold maxLen; omega) (by omega) hb3.size ?_
              intro v4 W4 ownW4 hgW4
              have hb4 : Below wo.heap.size wo W4 := hb3.grown hgW4 hb3.size (fun j hj => (ownW3.lt j hj).1)
              refine hK.out _ _ ⟨(hb4.cell (p := ⟨b, off + k * 3, none⟩) hbwo).trans Q0.out, (hb4.cell (p := ⟨b, off + k * 3 + 1, none⟩) hbwo).trans Q1.out, (hb4.cell (p := ⟨b, off + k * 3 + 2, none⟩) hbwo).trans Q2.out⟩ (fun hHeld => ?_)
              clear hK K
              (try simp only [Act.put, List.setIfInBounds_toArray, List.set_cons_zero, List.set_cons_succ])
              refine wpAnyH_ready (rs := [14]) (by kernel_rfl) (by simp) ?_
              refine AllReadyH.cons rfl (fun K hK => ?_) AllReadyH.nil
              refine step_append_row rfl _ _ 44 rfl wo.heap.size 60 _ 3 24 Try.underlying44 infoEdge rfl (by decide) _ ((0 + P) + 1) _ (by rfl) ownW4 _ (m - P) _ (by rfl) (R2.out _ hb4) L2.out (ce_one _) (by unfold maxLen; omega) (by omega) hb4.size ?_
              intro v5 W5 ownW5 hgW5
              have hb5 : Below wo.heap.size wo W5 := hb4.grown hgW5 hb4.size (fun j hj => (ownW4.lt j hj).1)
              refine hK.out _ _ ⟨(hb5.cell (p := ⟨b, off + k * 3, none⟩) hbwo).trans Q0.out, (hb5.cell (p := ⟨b, off + k * 3 + 1, none⟩) hbwo).trans Q1.out, (hb5.cell (p := ⟨b, off + k * 3 + 2, none⟩) hbwo).trans Q2.out⟩ (fun hHeld => ?_)
              clear hK K
              (try simp only [Act.put, List.setIfInBounds_toArray, List.set_cons_zero, List.set_cons_succ])
              refine wpAnyH_take (i := 15) (v := ?_) rfl (by kernel_rfl) (by kernel_rfl) (by kernel_rfl) (fun _ _ _ h => h) (Or.inl ⟨by rfl, ?_⟩) (by assumption) ?_
              rotate_left
              · (intro wS hSw; (try dsimp only at hSw); go_simp; (try with_reducible rfl))
              (try simp only [Act.put, List.setIfInBounds_toArray, List.set_cons_zero, List.set_cons_succ])
              refine wpAnyH_done (by kernel_rfl) ?_ _
              rw [HXS.out, show 0 + P + 1 + (m - P) = m + 1 by omega] at ownW5
              obtain ⟨a5, c5, rfl⟩ := own_slice ownW5
              have OW5 := Lib.hid ownW5; clear ownW5
              have HB5 := Lib.hid hb5; clear hb5
              go_wp2_with fail
              go_roundw
              case rel => exact ⟨k + 1, insI x d, by omega, by go_num, by rw [HD2.out], by rw [HLEN.out]; omega, by rw [HLEN.out]; exact own_row OW5.out, HB.out.trans (HB5.out.mono HB.out.size), fun j h => Nat.le_trans HB.out.size (OW5.out.lt j h).1⟩
              case measure => simp [intOf]; omega
    · have hkn : es.take k = es := List.take_of_length_le (by rw [← HN.out]; omega)
      have hde : d = sortI [] es := by rw [HD.out, hkn]
      have HDE := Lib.hid hde; clear hde hkn
      go_wp2_with fail
      go_ret
      exact ⟨HB.out, _, rfl, by rw [← HDE.out, ← HM.out]; exact HRD.out, HNW.out⟩
end Go.Proofs.Ytadibbbaegbljaa
