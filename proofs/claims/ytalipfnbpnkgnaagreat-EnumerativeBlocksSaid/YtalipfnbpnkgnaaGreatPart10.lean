/- Contracts and plain laws of several functions, one after the other: EdgeA, Det, EChk, CkW. -/
import Derived.Laws.StructEq
import Derived.BigQuiet
import Derived.Deep.RegionHeld3
import Derived.Test.YtalipfnbpnkgnaaGreatCheck
import Derived.Test.YtalipfnbpnkgnaaGreatPart5
/- The contracts of slices.Equal, slices.Clone and slices.Compact at edges; nothing that was there is changed. -/
namespace Go.Proofs.YtalipfnbpnkgnaaGreat
open Go.RowKit

theorem eqType : Tryz.prog.underlying 111 = some (.struct (Tryz.prog.fieldsOf 111)) := by kernel_rfl
theorem eqStood : Tryz.prog.stoodInHeld 111 = false := by kernel_rfl
theorem eqFlds : (Tryz.prog.fieldsOf 111).toList.map (fun f => (f.type, f.offset, f.name == "_")) = [(3, 0, false), (3, 1, false), (3, 2, false)] := by kernel_rfl
theorem partInt (xs : Array Value) (i : Nat) (v : Value) (h : xs[i]? = some v) (w : World) : (Go.part 3 xs i).run Tryz.prog w = .ok v w := by
  simp [Go.part, Tryz.isAgg3, h]
set_option maxRecDepth 100000 in
theorem eqIn_edge (a b : E3) (w : World) : (Op.equalIn 10000 111 a.val b.val).run Tryz.prog w = .ok (decide (a = b)) w := by
  have e : ∀ fs, (Tryz.prog.fieldsOf 111).toList = fs → (Op.eqFields 9999 #[.int .i64 a.f, .int .i64 a.l, .int .i64 a.t] #[.int .i64 b.f, .int .i64 b.l, .int .i64 b.t] fs).run Tryz.prog w = .ok (decide (a = b)) w := by
    intro fs hfs
    have hm := eqFlds
    rw [hfs] at hm
    match fs, hm with
    | [f0, f1, f2], hm =>
      simp only [List.map_cons, List.map_nil, List.cons.injEq, Prod.mk.injEq, and_true] at hm
      obtain ⟨⟨t0, o0, n0⟩, ⟨t1, o1, n1⟩, ⟨t2, o2, n2⟩⟩ := hm
      rw [beq_eq_false_iff_ne] at n0 n1 n2
      simp [Op.eqFields, n0, n1, n2, t0, o0, t1, o1, t2, o2, Go.part, Tryz.isAgg3, run_equalIn_int, Tryz.underlying3]
      have he : (a = b) ↔ a.f = b.f ∧ a.l = b.l ∧ a.t = b.t := by cases a; cases b; simp
      by_cases h1 : a.f = b.f <;> by_cases h2 : a.l = b.l <;> by_cases h3 : a.t = b.t <;> simp [he, h1, h2, h3]
  exact (run_equalIn_struct (P := Tryz.prog) w 9999 111 _ _ eqType eqStood).trans (e _ rfl)
theorem neq_edge (a b : E3) (w : World) : (binOp .neq 111 a.val b.val).run Tryz.prog w = .ok (.bool (!decide (a = b))) w := by
  rw [run_neq_struct, eqIn_edge]; rfl
theorem eql_edge (a b : E3) (w : World) : (binOp .eql 111 a.val b.val).run Tryz.prog w = .ok (.bool (decide (a = b))) w := by
  rw [run_eql_struct, eqIn_edge]; rfl

/-- The cells of an edge of a slice, in a world in which nothing of it has changed. -/
theorem edge_cells {w w' : World} {B b off : Nat} {es : List E3} {k : Nat} {e : E3} (hce : ∀ (j : Nat) (u : Value), (ce es)[j]? = some u → w.cell? ⟨b, off + j, none⟩ = some u) (hb : Below B w w') (hlt : b < B) (h : es[k]? = some e) :
    w'.cell? ⟨b, off + k * 3, none⟩ = some (.int .i64 e.f) ∧ w'.cell? ⟨b, off + k * 3 + 1, none⟩ = some (.int .i64 e.l) ∧ w'.cell? ⟨b, off + k * 3 + 2, none⟩ = some (.int .i64 e.t) :=
  ⟨(hb.cell (p := ⟨b, off + k * 3, none⟩) hlt).trans (hce (k * 3) _ (ce_get (j := 0) h rfl)), (hb.cell (p := ⟨b, off + k * 3 + 1, none⟩) hlt).trans (hce (k * 3 + 1) _ (ce_get (j := 1) h rfl)), (hb.cell (p := ⟨b, off + k * 3 + 2, none⟩) hlt).trans (hce (k * 3 + 2) _ (ce_get (j := 2) h rfl))⟩

end Go.Proofs.YtalipfnbpnkgnaaGreat

/- graph.Deterministic. -/
namespace Go.Proofs.YtalipfnbpnkgnaaGreat
open Go.RowKit

/-- No two neighbours have one state and one label. -/
def detB : List E3 → Bool
  | a :: b :: r => !(decide (a.f = b.f) && decide (a.l = b.l)) && detB (b :: r)
  | _ => true
set_option maxRecDepth 100000 in
set_option maxHeartbeats 3200000 in
theorem det_any (L S : Int) (es : List E3) (v : Value) (w : World) (hr : Row w v es.length (ce es)) (hok : okEs es) :
    Calls Tryz.prog 48 #[.agg #[.int .i64 L, .int .i64 S, v]] w (Ret w (.tuple #[.bool (decide (chk L S es = 0) && detB es), .int .i64 (if chk L S es = 0 then 0 else 1)])) := by
  obtain ⟨va, vc, rfl, hle⟩ := hr.slice
  have hck := fun w' h => check_any L S es (.slice va es.length vc) w' h hok
  obtain ⟨C, hC⟩ : ∃ C, C = chk L S es := ⟨_, rfl⟩
  rw [← hC] at hck ⊢
  clear hC
  obtain ⟨n, hn⟩ : ∃ n, n = es.length := ⟨_, rfl⟩
  rw [← hn] at hr hck hle ⊢
  have s0 := (Below.refl w.heap.size w).alloc (Nat.le_refl _) (.cells #[.int .i64 L, .int .i64 S, .slice va n vc] 24)
  have bg := Blk.new w 24 [.int .i64 L, .int .i64 S, .slice va n vc]
  have hr0 := hr.below s0 (Nat.le_refl _)
  have HROW := Lib.hid hr0; clear hr0
  have HCK := Lib.hid hck; clear hck
  have BG := Lib.hid bg; clear bg
  have S0 := Lib.hid s0; clear s0
  clear hr
  by_cases hc0 : C = 0
  · have hcb : (C != 0) = false := by simp [hc0]
    have hcd : decide (C = 0) = true := by simp [hc0]
    rw [hcd, if_pos hc0, Bool.true_and]
    clear hcd hc0
    have HN := Lib.hid hn; clear hn
    go_enter Tryz.func48, Tryz.ntmps48
    go_wp2_with (go_at_call 88; refine (HCK.out _ HROW.out).mono ?_; rintro e w1 ⟨hq1, rfl⟩)
    have hro1 := HROW.out.below hq1 (Nat.le_refl _)
    have hbg1 := BG.out.keep hq1
    have hs1 := S0.out.trans (hq1.mono S0.out.size)
    have HRO := Lib.hid hro1; clear hro1
    have HBG := Lib.hid hbg1; clear hbg1
    have HS1 := Lib.hid hs1; clear hs1
    have hsz1 : w.heap.size < w1.heap.size := HBG.out.lt
    clear hq1
    go_loopw [4] (fun i wr => ∃ k : Nat, 1 ≤ k ∧ (k ≤ n ∨ k = 1) ∧ i = .int .i64 k ∧ Below w1.heap.size w1 wr ∧ detB es = detB (es.drop (k - 1))) (fun i _ => n - (intOf i).toNat)
    case atStart => exact ⟨1, Nat.le_refl _, .inr rfl, rfl, Below.refl _ _, rfl⟩
    case round =>
      obtain ⟨k, hk1, hk, rfl, hbel, hd⟩ := hrel
      have hbgr := HBG.out.keep hbel
      have g2 := hbgr.cell (j := 2) rfl
      have hsr := hbel.size
      have HB := Lib.hid hbel; clear hbel
      have HBR := Lib.hid hbgr; clear hbgr
      by_cases hlt : k < n
      · have ge : es[k]? = some (es[k]'(by rw [← HN.out]; exact hlt)) := List.getElem?_eq_getElem _
        obtain ⟨e, hedef⟩ : ∃ e, e = es[k]'(by rw [← HN.out]; exact hlt) := ⟨_, rfl⟩
        rw [← hedef] at ge
        have hk1' : k - 1 < es.length := by rw [← HN.out]; omega
        have gp : es[k - 1]? = some (es[k - 1]'hk1') := List.getElem?_eq_getElem _
        obtain ⟨p, hp⟩ : ∃ p, p = es[k - 1]'hk1' := ⟨_, rfl⟩
        rw [← hp] at gp
        clear hedef hp hk1'
        have hdr : es.drop (k - 1) = p :: e :: es.drop (k + 1) := by
          rw [drop_get gp, show k - 1 + 1 = k by omega, drop_get ge]
        have hdr2 : es.drop (k + 1 - 1) = e :: es.drop (k + 1) := by rw [Nat.add_sub_cancel, drop_get ge]
        rw [hdr, detB, ← hdr2] at hd
        obtain ⟨b, off, rfl, hbw, hce⟩ := HRO.out.at_ (by omega)
        obtain ⟨q0, q1, q2⟩ := edge_cells hce HB.out hbw ge
        obtain ⟨p0, p1, p2⟩ := edge_cells hce HB.out hbw gp
        clear hce hdr hdr2 ge gp
        have HD := Lib.hid hd; clear hd
        have hw2 : (0 : Int) ≤ (k : Int) - 1 := by omega
        have hw2' : (1 : Int) ≤ (k : Int) := by omega
        have hw4 : (k : Int) - 1 < n := by omega
        have hbwr : b < wr.heap.size := by omega
        go_wp2_with fail
        go_cut [5, 6] (fun x y wx => ∃ i j, x = .pointer (some ⟨i, 0, none⟩) ∧ y = .pointer (some ⟨j, 0, none⟩) ∧ Blk wx i 111 [.int .i64 p.f, .int .i64 p.l, .int .i64 p.t] ∧ Blk wx j 111 [.int .i64 e.f, .int .i64 e.l, .int .i64 e.t] ∧ Below wr.heap.size wr wx)
        case first =>
          have hw1 : IntKind.i64.wrap ((k : Int) - 1) = (k : Int) - 1 := IntWalk.i64_in _ (by omega)
          have hw3 : ((k : Int) - 1).toNat = k - 1 := by omega
          go_region_held3 (fun w' => w'.cell? ⟨w.heap.size, 2, none⟩ = some (.slice (some ⟨b, off, none⟩) n vc) ∧ w'.cell? ⟨b, off + k * 3, none⟩ = some (.int .i64 e.f) ∧ w'.cell? ⟨b, off + k * 3 + 1, none⟩ = some (.int .i64 e.l) ∧ w'.cell? ⟨b, off + k * 3 + 2, none⟩ = some (.int .i64 e.t) ∧ w'.cell? ⟨b, off + (k - 1) * 3, none⟩ = some (.int .i64 p.f) ∧ w'.cell? ⟨b, off + (k - 1) * 3 + 1, none⟩ = some (.int .i64 p.l) ∧ w'.cell? ⟨b, off + (k - 1) * 3 + 2, none⟩ = some (.int .i64 p.t)) (go_keep) (fail)
          · go_wp2_with fail
            go_meet
            have h := two_new wr 111 111 [.int .i64 p.f, .int .i64 p.l, .int .i64 p.t] [.int .i64 e.f, .int .i64 e.l, .int .i64 e.t]
            exact ⟨_, _, rfl, rfl, h.1, h.2.1, h.2.2⟩
          · go_wp2_with fail
            go_meet
            have h := two_new wr 111 111 [.int .i64 e.f, .int .i64 e.l, .int .i64 e.t] [.int .i64 p.f, .int .i64 p.l, .int .i64 p.t]
            exact ⟨_, _, rfl, rfl, h.2.1, h.1, h.2.2⟩
        case rest =>
          obtain ⟨i, j, rfl, rfl, hbi, hbj, hbx⟩ := hcut
          have x0 := hbi.cell (j := 0) rfl
          have x1 := hbi.cell (j := 1) rfl
          have y0 := hbj.cell (j := 0) rfl
          have y1 := hbj.cell (j := 1) rfl
          have hbel2 := HB.out.trans (hbx.mono HB.out.size)
          have HB2 := Lib.hid hbel2; clear hbel2
          clear hbi hbj hbx
          by_cases hf : p.f = e.f
          · have t1 : (p.f == e.f) = true := by simp [hf]
            have u1 : decide (p.f = e.f) = true := by simp [hf]
            by_cases hl : p.l = e.l
            · have t2 : (p.l == e.l) = true := by simp [hl]
              have hd2 : detB es = false := by rw [HD.out, u1]; simp [hl]
              have HD2 := Lib.hid hd2; clear hd2
              clear hf hl u1
              go_wp2_with fail
              go_ret2
              exact ⟨HS1.out.trans (HB2.out.mono HS1.out.size), by rw [HD2.out]; rfl⟩
            · have t2 : (p.l == e.l) = false := by simp [hl]
              have hd2 : detB es = detB (es.drop (k + 1 - 1)) := by rw [HD.out]; simp [hl]
              have HD2 := Lib.hid hd2; clear hd2
              clear hf hl u1
              go_wp2_with fail
              go_roundw
              case rel => exact ⟨k + 1, by omega, by omega, by go_num, HB2.out, HD2.out⟩
              case measure => simp [intOf]; omega
          · have t1 : (p.f == e.f) = false := by simp [hf]
            have hd2 : detB es = detB (es.drop (k + 1 - 1)) := by rw [HD.out]; simp [hf]
            have HD2 := Lib.hid hd2; clear hd2
            clear hf
            go_wp2_with fail
            go_roundw
            case rel => exact ⟨k + 1, by omega, by omega, by go_num, HB2.out, HD2.out⟩
            case measure => simp [intOf]; omega
      · have hd2 : detB es = true := by
          rw [hd]
          have hl : (es.drop (k - 1)).length ≤ 1 := by rw [List.length_drop, ← HN.out]; omega
          match es.drop (k - 1), hl with
          | [], _ => rfl
          | [_], _ => rfl
        have HD2 := Lib.hid hd2; clear hd2
        clear hd
        go_wp2_with fail
        go_ret2
        exact ⟨HS1.out.trans (HB.out.mono HS1.out.size), by rw [HD2.out]; rfl⟩
  · have hcb : (C != 0) = true := by simp [hc0]
    have hcd : decide (C = 0) = false := by simp [hc0]
    rw [hcd, if_neg hc0, Bool.false_and]
    clear hcd hc0 hn
    go_enter Tryz.func48, Tryz.ntmps48
    go_wp2_with (go_at_call 88; refine (HCK.out _ HROW.out).mono ?_; rintro e w1 ⟨hq1, rfl⟩)
    go_ret2
    exact ⟨S0.out.trans (hq1.mono S0.out.size), rfl⟩
end Go.Proofs.YtalipfnbpnkgnaaGreat

/- enumerative.check, checkLength, checkWord, every, in. -/
namespace Go.Proofs.YtalipfnbpnkgnaaGreat
open Go.RowKit

/-- The errors of a graph that is to be used. -/
def eck (L S : Int) (es : List E3) : Int := if chk L S es ≠ 0 then 1 else if 16 < L then 12 else if detB es = true then 0 else 8
set_option maxRecDepth 100000 in
set_option maxHeartbeats 1600000 in
theorem echeck_any (L S : Int) (es : List E3) (v : Value) (w : World) (hr : Row w v es.length (ce es)) (hok : okEs es) :
    Calls Tryz.prog 53 #[.agg #[.int .i64 L, .int .i64 S, v]] w (Ret w (.int .i64 (eck L S es))) := by
  have hdet := fun w' h => det_any L S es v w' h hok
  have s0 := (Below.refl w.heap.size w).alloc (Nat.le_refl _) (.cells #[.int .i64 L, .int .i64 S, v] 24)
  have bg := Blk.new w 24 [.int .i64 L, .int .i64 S, v]
  have hr0 := hr.below s0 (Nat.le_refl _)
  obtain ⟨E, hE⟩ : ∃ E, E = eck L S es := ⟨_, rfl⟩
  have hE2 := hE
  rw [← hE]
  unfold eck at hE2
  obtain ⟨C, hC⟩ : ∃ C, C = chk L S es := ⟨_, rfl⟩
  obtain ⟨D, hD⟩ : ∃ D, D = detB es := ⟨_, rfl⟩
  rw [← hC, ← hD] at hdet hE2
  have HROW := Lib.hid hr0; clear hr0
  have HDET := Lib.hid hdet; clear hdet
  have BG := Lib.hid bg; clear bg
  have S0 := Lib.hid s0; clear s0
  clear hr hE hC hD
  by_cases hc0 : C = 0
  · have e1 : decide (C = 0) = true := by simp [hc0]
    rw [if_neg (by simpa using hc0)] at hE2
    have hcb : ((if C = 0 then (0 : Int) else 1) != 0) = false := by simp [hc0]
    rw [if_pos hc0] at hcb
    have hd2 := HDET.out
    rw [e1, if_pos hc0, Bool.true_and] at hd2
    have HD2 := Lib.hid hd2; clear hd2
    by_cases hl : 16 < L
    · rw [if_pos hl] at hE2
      have HE := Lib.hid hE2; clear hE2
      clear hc0 e1 HDET
      go_enter Tryz.func53, Tryz.ntmps53
      go_wp2_with fail
      go_at_call 48
      refine (HD2.out _ HROW.out).mono ?_
      rintro e w1 ⟨hq1, rfl⟩
      have tk := BG.out.keep hq1; have x0 := tk.cell (j := 0) rfl; have x1 := tk.cell (j := 1) rfl; have x2 := tk.cell (j := 2) rfl; have B1 := Lib.hid tk; clear tk
      have HQ1 := Lib.hid hq1; clear hq1
      go_wp2_with fail
      go_ret
      exact ⟨S0.out.trans (HQ1.out.mono S0.out.size), by rw [HE.out]; rfl⟩
    · rw [if_neg hl] at hE2
      cases D with
      | true =>
        rw [if_pos rfl] at hE2
        have HE := Lib.hid hE2; clear hE2
        clear hc0 e1 HDET
        go_enter Tryz.func53, Tryz.ntmps53
        go_wp2_with fail
        go_at_call 48
        refine (HD2.out _ HROW.out).mono ?_
        rintro e w1 ⟨hq1, rfl⟩
        have tk := BG.out.keep hq1; have x0 := tk.cell (j := 0) rfl; have x1 := tk.cell (j := 1) rfl; have x2 := tk.cell (j := 2) rfl; have B1 := Lib.hid tk; clear tk
        have HQ1 := Lib.hid hq1; clear hq1
        go_wp2_with fail
        go_ret
        exact ⟨S0.out.trans (HQ1.out.mono S0.out.size), by rw [HE.out]; rfl⟩
      | false =>
        rw [if_neg (by decide)] at hE2
        have HE := Lib.hid hE2; clear hE2
        clear hc0 e1 HDET
        go_enter Tryz.func53, Tryz.ntmps53
        go_wp2_with fail
        go_at_call 48
        refine (HD2.out _ HROW.out).mono ?_
        rintro e w1 ⟨hq1, rfl⟩
        have tk := BG.out.keep hq1; have x0 := tk.cell (j := 0) rfl; have x1 := tk.cell (j := 1) rfl; have x2 := tk.cell (j := 2) rfl; have B1 := Lib.hid tk; clear tk
        have HQ1 := Lib.hid hq1; clear hq1
        go_wp2_with fail
        go_ret
        exact ⟨S0.out.trans (HQ1.out.mono S0.out.size), by rw [HE.out]; rfl⟩
  · have e1 : decide (C = 0) = false := by simp [hc0]
    rw [if_pos (by simpa using hc0)] at hE2
    have hd2 := HDET.out
    rw [e1, if_neg hc0, Bool.false_and] at hd2
    have HD2 := Lib.hid hd2; clear hd2
    have HE := Lib.hid hE2; clear hE2
    clear hc0 e1 HDET
    go_enter Tryz.func53, Tryz.ntmps53
    go_wp2_with fail
    go_at_call 48
    refine (HD2.out _ HROW.out).mono ?_
    rintro e w1 ⟨hq1, rfl⟩
    have tk := BG.out.keep hq1; have x0 := tk.cell (j := 0) rfl; have x1 := tk.cell (j := 1) rfl; have x2 := tk.cell (j := 2) rfl; have B1 := Lib.hid tk; clear tk
    have HQ1 := Lib.hid hq1; clear hq1
    go_wp2_with fail
    go_ret
    exact ⟨S0.out.trans (HQ1.out.mono S0.out.size), by rw [HE.out]; rfl⟩

/-- The errors of a state and a length. -/
def elen (S s n : Int) : Int := if s < 0 ∨ S ≤ s then 25 else if n < 0 ∨ 4096 < n then 2 else 0
set_option maxRecDepth 100000 in
set_option maxHeartbeats 800000 in
theorem elen_any (L S s n : Int) (v : Value) (w : World) :
    Calls Tryz.prog 54 #[.agg #[.int .i64 L, .int .i64 S, v], .int .i64 s, .int .i64 n] w (Ret w (.int .i64 (elen S s n))) := by
  have s0 := (Below.refl w.heap.size w).alloc (Nat.le_refl _) (.cells #[.int .i64 L, .int .i64 S, v] 24)
  have S0 := Lib.hid s0; clear s0
  obtain ⟨E, hE⟩ : ∃ E, E = elen S s n := ⟨_, rfl⟩
  rw [← hE]
  unfold elen at hE
  by_cases h1 : s < 0
  · rw [if_pos (.inl h1)] at hE
    have HE := Lib.hid hE; clear hE
    go_enter Tryz.func54, Tryz.ntmps54
    go_wp2_with fail
    go_ret
    exact ⟨S0.out, by rw [HE.out]; rfl⟩
  · by_cases h2 : S ≤ s
    · rw [if_pos (.inr h2)] at hE
      have HE := Lib.hid hE; clear hE
      go_enter Tryz.func54, Tryz.ntmps54
      go_wp2_with fail
      go_ret
      exact ⟨S0.out, by rw [HE.out]; rfl⟩
    · rw [if_neg (by omega)] at hE
      by_cases h3 : n < 0
      · rw [if_pos (.inl h3)] at hE
        have HE := Lib.hid hE; clear hE
        go_enter Tryz.func54, Tryz.ntmps54
        go_wp2_with fail
        go_ret
        exact ⟨S0.out, by rw [HE.out]; rfl⟩
      · by_cases h4 : 4096 < n
        · rw [if_pos (.inr h4)] at hE
          have HE := Lib.hid hE; clear hE
          go_enter Tryz.func54, Tryz.ntmps54
          go_wp2_with fail
          go_ret
          exact ⟨S0.out, by rw [HE.out]; rfl⟩
        · rw [if_neg (by omega)] at hE
          have HE := Lib.hid hE; clear hE
          go_enter Tryz.func54, Tryz.ntmps54
          go_wp2_with fail
          go_ret
          exact ⟨S0.out, by rw [HE.out]; rfl⟩
theorem every_any (s : Int) (w : World) : Calls Tryz.prog 55 #[.int .i64 s] w (Ret w (.bool true)) := by
  go_enter Tryz.func55, Tryz.ntmps55
  go_wp2_with fail
  go_ret
  exact ⟨Below.refl _ _, rfl⟩
end Go.Proofs.YtalipfnbpnkgnaaGreat

/- enumerative.checkWord. -/
namespace Go.Proofs.YtalipfnbpnkgnaaGreat
open Go.RowKit

/-- The errors of a word. -/
def ckw (L : Int) (l : List UInt8) : Int := if wchk L l ≠ 0 then wchk L l else if 4096 < l.length then 4 else 0
set_option maxRecDepth 100000 in
set_option maxHeartbeats 3200000 in
theorem eckw_any (L S : Int) (a : Option Addr) (n c : Nat) (s : ByteArray) (w : World) (hs : s.size ≤ 9223372036854775807) :
    Calls Tryz.prog 32 #[.agg #[.int .i64 L, .int .i64 S, .slice a n c], .string s] w (Ret w (.int .i64 (ckw L s.data.toList))) := by
  have hw := fun w' => wcheck_any L s w' hs
  have hlen : s.data.toList.length = s.size := bytes_size s
  obtain ⟨E, hE⟩ : ∃ E, wchk L s.data.toList = E := ⟨_, rfl⟩
  have s0 := (Below.refl w.heap.size w).alloc (Nat.le_refl _) (.cells #[.int .i64 L, .int .i64 S, .slice a n c] 24)
  unfold ckw
  rw [hE, hlen]
  rw [hE] at hw
  have HW := Lib.hid hw; clear hw
  have S0 := Lib.hid s0; clear s0
  clear hE hlen
  by_cases h0 : E = 0
  · subst h0
    rw [if_neg (by simp)]
    by_cases hl : 4096 < s.size
    · have t1 : decide (4096 < (s.size : Int)) = true := by simp; omega
      rw [if_pos hl]
      go_enter Tryz.func32, Tryz.ntmps32
      go_wp2_with fail
      go_at_call 68
      refine (HW.out _).mono ?_
      rintro e w1 ⟨hq, rfl⟩
      have HQ := Lib.hid hq; clear hq
      go_wp2_with fail
      go_ret
      exact ⟨S0.out.trans (HQ.out.mono S0.out.size), rfl⟩
    · have t1 : decide (4096 < (s.size : Int)) = false := by simp; omega
      rw [if_neg hl]
      go_enter Tryz.func32, Tryz.ntmps32
      go_wp2_with fail
      go_at_call 68
      refine (HW.out _).mono ?_
      rintro e w1 ⟨hq, rfl⟩
      have HQ := Lib.hid hq; clear hq
      go_wp2_with fail
      go_ret
      exact ⟨S0.out.trans (HQ.out.mono S0.out.size), rfl⟩
  · have t0 : (E != 0) = true := by simp [h0]
    rw [if_pos h0]
    go_enter Tryz.func32, Tryz.ntmps32
    go_wp2_with fail
    go_at_call 68
    refine (HW.out _).mono ?_
    rintro e w1 ⟨hq, rfl⟩
    have HQ := Lib.hid hq; clear hq
    go_wp2_with fail
    go_ret
    exact ⟨S0.out.trans (HQ.out.mono S0.out.size), rfl⟩
end Go.Proofs.YtalipfnbpnkgnaaGreat

