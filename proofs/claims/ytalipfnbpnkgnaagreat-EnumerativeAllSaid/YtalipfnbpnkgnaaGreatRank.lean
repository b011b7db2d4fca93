/- enumerative.rank. -/
import Derived.Lib.ConvBytes
import Derived.RangeFuncOne
import Derived.Test.YtalipfnbpnkgnaaGreatPart14
import Derived.Test.YtalipfnbpnkgnaaGreatPart16
namespace Go.Proofs.YtalipfnbpnkgnaaGreat
open Go.RowKit Go.Shelf

attribute [local go_sem] Oper.semAt_some

theorem below_bytes (w : World) (e : TypeId) (s : ByteArray) : Below w.heap.size w (Lib.bytesWorld w e s) :=
  ⟨rfl, rfl, rfl, by rw [Lib.bytesWorld_size]; omega, fun k hk => Lib.bytesWorld_at_old w e s k hk⟩
theorem bytes_block (w : World) (e : TypeId) (s : ByteArray) : ∃ cs fr, (Lib.bytesWorld w e s).heap[w.heap.size]? = some (.cells cs e fr) ∧ ∀ (j : Nat) (b : UInt8), s.data.toList[j]? = some b → cs[j]? = some (.int .u8 (b.toNat : Int)) := by
  refine ⟨_, _, Lib.bytesWorld_at_new w e s, fun j b h => ?_⟩
  have hj : j < s.data.size := by have := (List.getElem?_eq_some_iff.1 h).1; simpa using this
  have hb : s.data[j] = b := by
    have := (List.getElem?_eq_some_iff.1 h).2
    simpa using this
  have hj2 : j < s.size := hj
  simp only [Lib.bytesCells]
  rw [Array.getElem?_append_left (by simpa using hj2)]
  have hb3 : s.data[j]? = some b := by rw [Array.getElem?_eq_getElem hj, hb]
  simp [hb3]
theorem heap_ownF {β : Type} {B b : Nat} {t : TypeId} {cs : Array Value} {fr : Nat × Nat} : OwnFrom B (fun (_ : β) W => W.heap[b]? = some (.cells cs t fr)) := by
  intro s X Y row hs hg hr
  refine (hg.block b (Array.getElem?_eq_some_iff.1 hs).1 (fun e => ?_)).trans hs
  obtain ⟨_, o, ho, hc⟩ := hr b e.symm
  have hs' : X.heap[b]? = some (.cells cs t fr) := hs
  rw [hs'] at ho; cases ho; cases hc

theorem keepsFrom_setCell {B : Nat} (W : World) (a : Addr) (u : Value) (h : a.block < B) : KeepsFrom B W (W.setCell a u) :=
  ⟨(KeepsWalks.setCell W _ u).size, fun k o hB hk _ => (Below.heap_setCell W a u k (by omega)).trans hk⟩
theorem keepsFrom_drew (B : Nat) (W : World) : KeepsFrom B W W.drew := ⟨Nat.le_refl _, fun _ _ _ h _ => h⟩
theorem keepsFrom_below {B N : Nat} {W W' : World} (h : Below N W W') (hN : N = W.heap.size) : KeepsFrom B W W' :=
  ⟨h.size, fun k o _ hk _ => (h.block k (by rw [hN]; exact (Array.getElem?_eq_some_iff.1 hk).1)).trans hk⟩
theorem letL_index {P : Program} {t : TypeId} (hP : P.underlying t = some .string) {l : Int} (h0 : 0 ≤ l) (h1 : l < 16) (wx : World) :
    (Instr.index t (.string ⟨#[48, 49, 50, 51, 52, 53, 54, 55, 56, 57, 97, 98, 99, 100, 101, 102]⟩) (.int .i64 l)).run P wx = .ok (.int .u8 ((letL l).toNat : Int)) wx := by
  rw [run_index_string _ _ _ _ _ hP, dif_pos ⟨h0, by show l < 16; exact h1⟩]
  have h : ∀ n : Fin 16, (ByteArray.mk #[48, 49, 50, 51, 52, 53, 54, 55, 56, 57, 97, 98, 99, 100, 101, 102])[n.val]'(n.isLt) = letters.getD n.val 0 := by decide
  obtain ⟨n, rfl⟩ : ∃ n : Nat, l = n := ⟨l.toNat, by omega⟩
  have := h ⟨n, by omega⟩
  simp only [Int.toNat_natCast, letL]
  rw [← this]

/-- What rank hands back. -/
def RkRet (p : Int → Bool) (r : Option (Int × Int)) (w : World) (e : Ending) (w' : World) : Prop :=
  Below w.heap.size w w' ∧ e = .returned (.tuple (match r with | some (a, t) => #[IntV a, .int .i64 t, .bool (p t)] | none => #[IntV 0, .int .i64 0, .bool false]))

set_option maxRecDepth 100000 in
set_option maxHeartbeats 8000000 in
theorem rank_in (L : Int) (S s0 : Nat) (es : List E3) (v tv : Value) (wd : ByteArray) (p : Int → Bool) (w : World) (hr : Row w v es.length (ce es)) (ht : Tab w tv (tabL es S p wd.size)) (hS : S ≤ 64) (hl : es.length ≤ 1024) (hin : InS S es) (hlab : ∀ e ∈ es, 0 ≤ e.l ∧ e.l < 16) (hs0 : s0 < S) (hm : wd.size ≤ 4096) :
    CallsIn Fence.wide 8 Tryz.prog 33 #[.agg #[.int .i64 L, .int .i64 (S : Int), v], tv, .int .i64 (s0 : Int), .string wd] w (RkRet p (rk es p wd.data.toList (s0 : Int) 0) w) := by
  obtain ⟨R, hR⟩ : ∃ R, R = rk es p wd.data.toList (s0 : Int) 0 := ⟨_, rfl⟩
  rw [← hR]
  obtain ⟨rvs, hrvl, hrt, hrows⟩ := ht
  rw [tabL_length] at hrt
  obtain ⟨at0, ct, rfl, hct⟩ := hrt.slice
  obtain ⟨bt, ot, rfl, hbt, htc⟩ := hrt.at_ (by omega)
  have HR0 := Lib.hid hR; clear hR
  have HRVL := Lib.hid hrvl; clear hrvl
  have HROWS := Lib.hid hrows; clear hrows
  have HTC := Lib.hid htc; clear htc
  have HIN := Lib.hid hin; clear hin
  have HLAB := Lib.hid hlab; clear hlab
  have HR := Lib.hid hr; clear hr
  clear hrt
  refine callsIn_of_wp_marks Tryz.func33 rfl trivial ?_ rfl
  simp only [Tryz.ntmps33, List.size_toArray, List.length_cons, List.length_nil, Nat.reduceAdd, Nat.reduceSub, Array.replicate_succ, Array.replicate_zero, List.push_toArray, List.append_toArray, List.nil_append, List.cons_append]
  gi_wp2
  obtain ⟨w1, hw1⟩ : ∃ w1, ((((w.alloc (.cells #[.int .i64 L, .int .i64 (S : Int), v] 24)).alloc (.cells #[.int .i64 (s0 : Int)] 3)).alloc (.cells #[.bool false, .string ⟨#[]⟩] 33)).alloc (.cells #[.bool false, .string ⟨#[]⟩] 33)) = w1 := ⟨_, rfl⟩
  rw [hw1]
  have hsz1 : w1.heap.size = w.heap.size + 4 := by rw [← hw1]; simp
  have hb1 : Below w.heap.size w w1 := by rw [← hw1]; exact ((((Below.refl _ w).alloc (Nat.le_refl _) _).alloc (by simp) _).alloc (by simp; omega) _).alloc (by simp; omega) _
  have bG1 : Blk w1 w.heap.size 24 [.int .i64 L, .int .i64 (S : Int), v] := by rw [← hw1]; exact (((Blk.new w _ _).alloc _).alloc _).alloc _
  have bS1 : Blk w1 (w.heap.size + 1) 3 [.int .i64 (s0 : Int)] := by
    have h := Blk.new (w.alloc (.cells #[.int .i64 L, .int .i64 (S : Int), v] 24)) 3 [.int .i64 (s0 : Int)]
    rw [World.size_alloc] at h
    rw [← hw1]; exact (h.alloc _).alloc _
  have bR1 : Blk w1 (w.heap.size + 2) 33 [.bool false, .string ⟨#[]⟩] := by
    have h := Blk.new ((w.alloc (.cells #[.int .i64 L, .int .i64 (S : Int), v] 24)).alloc (.cells #[.int .i64 (s0 : Int)] 3)) 33 [.bool false, .string ⟨#[]⟩]
    simp only [World.size_alloc, Nat.add_assoc, Nat.reduceAdd] at h
    rw [← hw1]; exact h.alloc _
  have bM1 : Blk w1 (w.heap.size + 3) 33 [.bool false, .string ⟨#[]⟩] := by
    have h := Blk.new (((w.alloc (.cells #[.int .i64 L, .int .i64 (S : Int), v] 24)).alloc (.cells #[.int .i64 (s0 : Int)] 3)).alloc (.cells #[.bool false, .string ⟨#[]⟩] 33)) 33 [.bool false, .string ⟨#[]⟩]
    simp only [World.size_alloc, Nat.add_assoc, Nat.reduceAdd] at h
    rw [← hw1]; exact h
  clear hw1
  have hcv := Lib.run_convert_string_bytes (P := Tryz.prog) w1 9 77 5 wd Tryz.underlying9 Tryz.underlying77 Tryz.underlying5
  have hb2 := below_bytes w1 5 wd
  obtain ⟨cs, fr, hbc, hcs⟩ := bytes_block w1 5 wd
  have hsz2 := Lib.bytesWorld_size w1 5 wd
  obtain ⟨w2, hw2⟩ : ∃ w2, Lib.bytesWorld w1 5 wd = w2 := ⟨_, rfl⟩
  obtain ⟨cb, hcb⟩ : ∃ cb, grownCap w1 wd.size 0 5 = cb := ⟨_, rfl⟩
  rw [hw2] at hb2 hbc hsz2 hcv
  rw [hcb] at hcv
  rw [hsz1] at hbc hsz2 hcv
  clear hw2 hcb
  have bG2 := bG1.keep hb2
  have bS2 := bS1.keep hb2
  have bR2 := bR1.keep hb2
  have bM2 := bM1.keep hb2
  have hbw : Below w.heap.size w w2 := hb1.trans (hb2.mono (by omega))
  clear bG1 bS1 bR1 bM1 hb1 hb2
  have BG2 := Lib.hid bG2; clear bG2
  have BS2 := Lib.hid bS2; clear bS2
  have BR2 := Lib.hid bR2; clear bR2
  have BM2 := Lib.hid bM2; clear bM2
  have HBW := Lib.hid hbw; clear hbw
  have HBC := Lib.hid hbc; clear hbc
  have HCS := Lib.hid hcs; clear hcs
  rw [hcv]
  clear hcv
  gi_wp2
  refine wpIn_loop (fun a' W => ∃ (k : Nat) (Ds : List Nat) (u12 u13 u14 u15 u16 u21 u22 u23 u24 u25 u26 u27 u28 u29 u30 u31 u32 u33 u34 u35 u36 u37 u38 u39 u40 u41 u42 u43 u44 u45 u46 u47 u48 u49 u50 u51 u52 u53 u54 : Value) (sk : Nat) (sm : Int), a' = { tmps := (List.toArray ((.agg #[.int .i64 L, .int .i64 (S : Int), v] : Value) :: (.slice (some ⟨bt, ot, none⟩) (wd.size + 1) ct : Value) :: (.int .i64 (s0 : Int) : Value) :: (.string wd : Value) :: (.pointer (some ⟨w.heap.size, 0, none⟩) : Value) :: (undef : Value) :: (.pointer (some ⟨w.heap.size + 1, 0, none⟩) : Value) :: (undef : Value) :: (.pointer (some ⟨w.heap.size + 2, 0, none⟩) : Value) :: (.int .i64 0 : Value) :: (.bool false : Value) :: (.pointer (some ⟨w.heap.size + 3, 0, none⟩) : Value) :: (u12 : Value) :: (u13 : Value) :: (u14 : Value) :: (u15 : Value) :: (u16 : Value) :: (.string wd : Value) :: (.slice (some ⟨w.heap.size + 4, 0, none⟩) wd.size cb : Value) :: (.int .i64 (wd.size : Int) : Value) :: (.int .i64 (k : Int) : Value) :: (u21 : Value) :: (u22 : Value) :: (u23 : Value) :: (u24 : Value) :: (u25 : Value) :: (u26 : Value) :: (u27 : Value) :: (u28 : Value) :: (u29 : Value) :: (u30 : Value) :: (u31 : Value) :: (u32 : Value) :: (u33 : Value) :: (u34 : Value) :: (u35 : Value) :: (u36 : Value) :: (u37 : Value) :: (u38 : Value) :: (u39 : Value) :: (u40 : Value) :: (u41 : Value) :: (u42 : Value) :: (u43 : Value) :: (u44 : Value) :: (u45 : Value) :: (u46 : Value) :: (u47 : Value) :: (u48 : Value) :: (u49 : Value) :: (u50 : Value) :: (u51 : Value) :: (u52 : Value) :: (u53 : Value) :: (u54 : Value) :: (undef : Value) :: (undef : Value) :: (undef : Value) :: (undef : Value) :: (undef : Value) :: (undef : Value) :: (undef : Value) :: (undef : Value) :: (undef : Value) :: (undef : Value) :: [])), defers := Ds.map mkD } ∧ k ≤ wd.size ∧ sk < S ∧ SumOk (k * 1024) sm ∧ rk es p (wd.data.toList.drop k) (sk : Int) sm = R ∧ Blk W (w.heap.size) 24 [.int .i64 L, .int .i64 (S : Int), v] ∧ Blk W (w.heap.size + 1) 3 [.int .i64 (sk : Int)] ∧ Blk W (w.heap.size + 2) 33 [.bool false, .string ⟨#[]⟩] ∧ Blk W (w.heap.size + 3) 33 [.bool (ineg (sm)), .string (imag (sm))] ∧ W.heap[w.heap.size + 4]? = some (.cells cs 5 fr) ∧ Below w.heap.size w W ∧ (∀ D ∈ Ds, W.heap[D]? = some (.deferred (some []))) ∧ Ds.Nodup ∧ (∀ D ∈ Ds, w.heap.size + 5 ≤ D)) (fun a' _ => wd.size - (intOf (a'.tmps.getD 20 undef)).toNat) ?h0 ?round
  case h0 =>
    refine ⟨0, [], undef, undef, undef, undef, undef, undef, undef, undef, undef, undef, undef, undef, undef, undef, undef, undef, undef, undef, undef, undef, undef, undef, undef, undef, undef, undef, undef, undef, undef, undef, undef, undef, undef, undef, undef, undef, undef, undef, undef, s0, 0, rfl, Nat.zero_le _, hs0, ⟨Int.le_refl _, by simp⟩, HR0.out.symm, BG2.out, BS2.out, BR2.out, by rw [imag_zero]; exact BM2.out, HBC.out, HBW.out, by simp, by simp, by simp⟩
  case round =>
    rintro a' wr ⟨k, Ds, u12, u13, u14, u15, u16, u21, u22, u23, u24, u25, u26, u27, u28, u29, u30, u31, u32, u33, u34, u35, u36, u37, u38, u39, u40, u41, u42, u43, u44, u45, u46, u47, u48, u49, u50, u51, u52, u53, u54, sk, sm, rfl, hk, hsk, hsm, hrk, bG, bS, bR, bM, hbc, hbel, hDs, hnd, hdg⟩
    have hszr := hbel.size
    have hbl : w.heap.size + 4 < wr.heap.size := (Array.getElem?_eq_some_iff.1 hbc).1
    have HDS := Lib.hid hDs; clear hDs
    have HND := Lib.hid hnd; clear hnd
    have HDG := Lib.hid hdg; clear hdg
    have g0 := bG.cell (j := 0) rfl
    have g1 := bG.cell (j := 1) rfl
    have g2 := bG.cell (j := 2) rfl
    have gS := bS.cell (j := 0) rfl
    have BG := Lib.hid bG; clear bG
    have BS := Lib.hid bS; clear bS
    have BR := Lib.hid bR; clear bR
    have BM := Lib.hid bM; clear bM
    have HBCr := Lib.hid hbc; clear hbc
    by_cases hlt : k < wd.size
    · obtain ⟨c, hc⟩ : ∃ c, wd.data.toList[k]? = some c := ⟨wd.data.toList[k]'(by rw [bytes_size]; exact hlt), List.getElem?_eq_getElem _⟩
      have c0 : wr.cell? ⟨w.heap.size + 4, k, none⟩ = some (.int .u8 (c.toNat : Int)) := (Lib.cell_of_heap HBCr.out k).trans (HCS.out k c hc)
      obtain ⟨j, hj⟩ : ∃ j, wd.size = k + 1 + j := ⟨wd.size - k - 1, by omega⟩
      have hwj : IntKind.i64.wrap ((wd.size : Int) - (k : Int)) = (j : Int) + 1 := (IntWalk.i64_in _ (by omega)).trans (by omega)
      have hwj2 : IntKind.i64.wrap ((j : Int) + 1 - 1) = (j : Int) := (IntWalk.i64_in _ (by omega)).trans (by omega)
      obtain ⟨rv, hrv1, hrv2⟩ := HROWS.out j _ (tabL_get (by omega))
      rw [rowK_length] at hrv2
      obtain ⟨ar, cr, rfl, hcr⟩ := hrv2.slice
      obtain ⟨br, orr, rfl, hbr, hrc⟩ := hrv2.at_ (by omega)
      have r0 := (hbel.cell (p := ⟨bt, ot + j, none⟩) hbt).trans (HTC.out j _ hrv1)
      have hji : (0 : Int) ≤ (j : Int) := by omega
      have hji2 : (j : Int) < ((wd.size + 1 : Nat) : Int) := by omega
      have r1 := ((below_new (wr.alloc (.cells #[.int .u8 (c.toNat : Int)] 5)) (.cells #[.bool false] 4) (b := bt) (by simp; omega) (ot + j)).trans (below_new wr (.cells #[.int .u8 (c.toNat : Int)] 5) (by omega) _)).trans r0
      clear r0
      obtain ⟨wa, hwa⟩ : ∃ wa, wa = ((wr.alloc (.cells #[.int .u8 (c.toNat : Int)] 5)).alloc (.cells #[.bool false] 4)).alloc (.cells #[.slice (some ⟨br, orr, none⟩) S cr] 28) := ⟨_, rfl⟩
      have ba : Below wr.heap.size wr wa := by rw [hwa]; exact (((Below.refl _ wr).alloc (Nat.le_refl _) _).alloc (by simp) _).alloc (by simp; omega) _
      have ga0 := (ba.cell (p := ⟨w.heap.size, 0, none⟩) (show w.heap.size < wr.heap.size by omega)).trans g0
      have ga1 := (ba.cell (p := ⟨w.heap.size, 1, none⟩) (show w.heap.size < wr.heap.size by omega)).trans g1
      have ga2 := (ba.cell (p := ⟨w.heap.size, 2, none⟩) (show w.heap.size < wr.heap.size by omega)).trans g2
      have gaS := (ba.cell (p := ⟨w.heap.size + 1, 0, none⟩) (show w.heap.size + 1 < wr.heap.size by omega)).trans gS
      rw [hwa] at ga0 ga1 ga2 gaS
      clear g0 g1 g2 gS
      have BA := Lib.hid ba; clear ba
      have HWA := Lib.hid hwa; clear hwa
      have HRK := Lib.hid hrk; clear hrk
      have HC := Lib.hid hc; clear hc
      have HJ := Lib.hid hj; clear hj
      have HRC := Lib.hid hrc; clear hrc
      clear hrv1 hrv2
      gi_wp2_with (refine ⟨trivial, ?_⟩; gi_at_call 69; refine (leaving_in Fence.wide 7 trivial rfl L (S : Int) (sk : Int) v _).mono ?_; rintro e w' ⟨rfl, rfl⟩)
      obtain ⟨q, hq⟩ : ∃ q, wr.heap.size = q := ⟨_, rfl⟩
      simp only [hq, Nat.add_assoc, Nat.reduceAdd]
      obtain ⟨W1, hW1⟩ : ∃ W1, (((((wr.alloc (.cells #[.int .u8 (c.toNat : Int)] 5)).alloc (.cells #[.bool false] 4)).alloc (.cells #[.slice (some ⟨br, orr, none⟩) S cr] 28)).alloc (.cells #[.int .i64 L, .int .i64 (S : Int), v] 24)).alloc (.cells #[.int .i64 (sk : Int)] 3)) = W1 := ⟨_, rfl⟩
      have hsW : W1.heap.size = q + 5 := by rw [← hW1, ← hq]; simp
      have hb1 : Below q wr W1 := by
        rw [← hW1, ← hq]
        exact (((((Below.refl _ wr).alloc (Nat.le_refl _) _).alloc (by simp) _).alloc (by simp; omega) _).alloc (by simp; omega) _).alloc (by simp; omega) _
      have bC : Blk W1 q 5 [.int .u8 (c.toNat : Int)] := by
        have h := Blk.new wr 5 [.int .u8 (c.toNat : Int)]
        rw [hq] at h
        rw [← hW1]; exact (((h.alloc _).alloc _).alloc _).alloc _
      have bF : Blk W1 (q + 1) 4 [.bool false] := by
        have h := Blk.new (wr.alloc (.cells #[.int .u8 (c.toNat : Int)] 5)) 4 [.bool false]
        simp only [World.size_alloc, hq] at h
        rw [← hW1]; exact ((h.alloc _).alloc _).alloc _
      have bT : Blk W1 (q + 2) 28 [.slice (some ⟨br, orr, none⟩) S cr] := by
        have h := Blk.new ((wr.alloc (.cells #[.int .u8 (c.toNat : Int)] 5)).alloc (.cells #[.bool false] 4)) 28 [.slice (some ⟨br, orr, none⟩) S cr]
        simp only [World.size_alloc, hq, Nat.add_assoc, Nat.reduceAdd] at h
        rw [← hW1]; exact (h.alloc _).alloc _
      have bGc : Blk W1 (q + 3) 24 [.int .i64 L, .int .i64 (S : Int), v] := by
        have h := Blk.new (((wr.alloc (.cells #[.int .u8 (c.toNat : Int)] 5)).alloc (.cells #[.bool false] 4)).alloc (.cells #[.slice (some ⟨br, orr, none⟩) S cr] 28)) 24 [.int .i64 L, .int .i64 (S : Int), v]
        simp only [World.size_alloc, hq, Nat.add_assoc, Nat.reduceAdd] at h
        rw [← hW1]; exact h.alloc _
      have bSc : Blk W1 (q + 4) 3 [.int .i64 (sk : Int)] := by
        have h := Blk.new ((((wr.alloc (.cells #[.int .u8 (c.toNat : Int)] 5)).alloc (.cells #[.bool false] 4)).alloc (.cells #[.slice (some ⟨br, orr, none⟩) S cr] 28)).alloc (.cells #[.int .i64 L, .int .i64 (S : Int), v] 24)) 3 [.int .i64 (sk : Int)]
        simp only [World.size_alloc, hq, Nat.add_assoc, Nat.reduceAdd] at h
        rw [← hW1]; exact h
      rw [hq] at hszr hbl
      have hbq : Below wr.heap.size wr W1 := by rw [hq]; exact hb1
      have bG1 := BG.out.keep hbq
      have bS1 := BS.out.keep hbq
      have bR1 := BR.out.keep hbq
      have bM1 := BM.out.keep hbq
      have hbc1 := (hbq.block _ (by rw [hq]; exact hbl)).trans HBCr.out
      have hbel1 : Below w.heap.size w W1 := hbel.trans (hb1.mono (by omega))
      have hds1 : ∀ D ∈ Ds, W1.heap[D]? = some (.deferred (some [])) := fun D hD => (hb1.block D (by have := (Array.getElem?_eq_some_iff.1 (HDS.out D hD)).1; omega)).trans (HDS.out D hD)
      have hdl1 : ∀ D ∈ Ds, D < q := fun D hD => by have := (Array.getElem?_eq_some_iff.1 (HDS.out D hD)).1; omega
      rw [hW1]
      clear hW1 hq ga0 ga1 ga2 gaS r1
      have hvb : ∀ b' off m' c', v = .slice (some ⟨b', off, none⟩) m' c' → 0 < es.length → b' < w.heap.size := by
        intro b' off m' c' e h0
        have hr' := HR.out
        obtain ⟨a1, c1, e1, _⟩ := hr'.slice
        rw [e1] at hr'
        obtain ⟨b2, off2, e2, hb2, _⟩ := hr'.at_ h0
        rw [e1, e2] at e
        simp at e
        omega
      have hrv := HR.out.below hbel1 (Nat.le_refl _)
      have HVB := Lib.hid hvb; clear hvb
      have HRV := Lib.hid hrv; clear hrv
      have HDS1 := Lib.hid hds1; clear hds1
      have HDL := Lib.hid hdl1; clear hdl1
      have BG1 := Lib.hid bG1; clear bG1
      have BS1 := Lib.hid bS1; clear bS1
      have BR1 := Lib.hid bR1; clear bR1
      have BM1 := Lib.hid bM1; clear bM1
      have HBC1 := Lib.hid hbc1; clear hbc1
      have HBEL1 := Lib.hid hbel1; clear hbel1
      have BC := Lib.hid bC; clear bC
      have BF := Lib.hid bF; clear bF
      have BT := Lib.hid bT; clear bT
      have BGC := Lib.hid bGc; clear bGc
      have BSC := Lib.hid bSc; clear bSc
      refine wpIn_rangeFunc_ownH rfl (by decide) (gf := 102) (lb := #[.pointer (some ⟨q + 3, 0, none⟩), .pointer (some ⟨q + 4, 0, none⟩)]) rfl trivial (enters_of Tryz.func102 (by kernel_rfl) rfl)
        (leaving_stops Fence.wide 7 trivial rfl (by decide) (q + 3) (q + 4) w.heap.size (sk : Int) es v (by omega) W1 (by omega) (by omega) (by omega) (BGC.out.cell (j := 2) rfl) (BSC.out.cell (j := 0) rfl) HRV.out HVB.out) KpS.trans (kpS_b (by omega) (by omega) (by omega)) (Below.refl _ _) (fun _ => rfl)
        (fun pre W => (rkGo es p j c (pre.map fun e => e.1) sm).2 = none ∧ Blk W (w.heap.size + 3) 33 [.bool (ineg (rkGo es p j c (pre.map fun e => e.1) sm).1), .string (imag (rkGo es p j c (pre.map fun e => e.1) sm).1)] ∧ Blk W (w.heap.size + 1) 3 [.int .i64 (sk : Int)] ∧ Blk W (q + 1) 4 [.bool false] ∧ Blk W q 5 [.int .u8 (c.toNat : Int)] ∧ Blk W (q + 2) 28 [.slice (some ⟨br, orr, none⟩) S cr] ∧ Blk W (w.heap.size) 24 [.int .i64 L, .int .i64 (S : Int), v] ∧ Blk W (w.heap.size + 2) 33 [.bool false, .string ⟨#[]⟩] ∧ W.heap[w.heap.size + 4]? = some (.cells cs 5 fr) ∧ Below w.heap.size w W ∧ (∀ D ∈ Ds, W.heap[D]? = some (.deferred (some []))) ∧ W1.heap.size ≤ W.heap.size)
        (fun cc pre W => (cc = .exit 2 ∧ ∃ t, (rkGo es p j c (pre.map fun e => e.1) sm).2 = some t) ∧ Blk W (w.heap.size + 3) 33 [.bool (ineg (rkGo es p j c (pre.map fun e => e.1) sm).1), .string (imag (rkGo es p j c (pre.map fun e => e.1) sm).1)] ∧ Blk W (w.heap.size + 1) 3 [.int .i64 ((rkGo es p j c (pre.map fun e => e.1) sm).2.getD 0)] ∧ Blk W (q + 1) 4 [.bool true] ∧ Blk W q 5 [.int .u8 (c.toNat : Int)] ∧ Blk W (q + 2) 28 [.slice (some ⟨br, orr, none⟩) S cr] ∧ Blk W (w.heap.size) 24 [.int .i64 L, .int .i64 (S : Int), v] ∧ Blk W (w.heap.size + 2) 33 [.bool false, .string ⟨#[]⟩] ∧ W.heap[w.heap.size + 4]? = some (.cells cs 5 fr) ∧ Below w.heap.size w W ∧ (∀ D ∈ Ds, W.heap[D]? = some (.deferred (some []))) ∧ W1.heap.size ≤ W.heap.size)
        ((ownFrom_pred _ _).and ((blk_ownS _).and ((blk_ownS _).and ((blk_ownS _).and ((blk_ownS _).and ((blk_ownS _).and ((blk_ownS _).and ((blk_ownS _).and (heap_ownF.and ((ownFrom_below (Nat.le_refl _) (by omega)).and (ownFrom_ds (fun D hD => by have := HDL.out D hD; omega))))))))))))
        (fun cc => (ownFrom_pred _ _).and ((blk_ownS _).and ((blk_ownS _).and ((blk_ownS _).and ((blk_ownS _).and ((blk_ownS _).and ((blk_ownS _).and ((blk_ownS _).and (heap_ownF.and ((ownFrom_below (Nat.le_refl _) (by omega)).and (ownFrom_ds (fun D hD => by have := HDL.out D hD; omega))))))))))))
        ⟨rfl, BM1.out, BS1.out, BF.out, BC.out, BT.out, BG1.out, BR1.out, HBC1.out, HBEL1.out, HDS1.out, Nat.le_refl _⟩
        (fun x' a' W => ∃ Bx, W1.heap.size ≤ Bx ∧ Blk W Bx 111 [.int .i64 x'.1.f, .int .i64 x'.1.l, .int .i64 x'.1.t] ∧ a' = { tmps := (List.toArray ((.agg #[.int .i64 L, .int .i64 (S : Int), v] : Value) :: (.slice (some ⟨bt, ot, none⟩) (wd.size + 1) ct : Value) :: (.int .i64 (s0 : Int) : Value) :: (.string wd : Value) :: (.pointer (some ⟨w.heap.size, 0, none⟩) : Value) :: (undef : Value) :: (.pointer (some ⟨w.heap.size + 1, 0, none⟩) : Value) :: (undef : Value) :: (.pointer (some ⟨w.heap.size + 2, 0, none⟩) : Value) :: (.int .i64 0 : Value) :: (.bool false : Value) :: (.pointer (some ⟨w.heap.size + 3, 0, none⟩) : Value) :: (.int .i64 (k : Int) : Value) :: (.pointer (some ⟨q, 0, none⟩) : Value) :: (.pointer (some ⟨q + 1, 0, none⟩) : Value) :: (.pointer (some ⟨q + 2, 0, none⟩) : Value) :: (.pointer (some ⟨Bx, 0, none⟩) : Value) :: (.string wd : Value) :: (.slice (some ⟨w.heap.size + 4, 0, none⟩) wd.size cb : Value) :: (.int .i64 (wd.size : Int) : Value) :: (.int .i64 (k : Int) : Value) :: (.bool true : Value) :: (.int .i64 (k : Int) : Value) :: (.pointer (some ⟨w.heap.size + 4, k, none⟩) : Value) :: (.int .u8 (c.toNat : Int) : Value) :: (.slice (some ⟨bt, ot, none⟩) (wd.size + 1) ct : Value) :: (.string wd : Value) :: (.int .i64 (wd.size : Int) : Value) :: (.int .i64 (k : Int) : Value) :: (.int .i64 ((j : Int) + 1) : Value) :: (.int .i64 (j : Int) : Value) :: (.pointer (some ⟨bt, ot + j, none⟩) : Value) :: (.slice (some ⟨br, orr, none⟩) S cr : Value) :: (.agg #[.int .i64 L, .int .i64 (S : Int), v] : Value) :: (.int .i64 (sk : Int) : Value) :: (.func (.func 102) #[] #[.pointer (some ⟨q + 3, 0, none⟩), .pointer (some ⟨q + 4, 0, none⟩)] : Value) :: (x'.1.val : Value) :: (u37 : Value) :: (u38 : Value) :: (u39 : Value) :: (u40 : Value) :: (u41 : Value) :: (u42 : Value) :: (u43 : Value) :: (u44 : Value) :: (u45 : Value) :: (u46 : Value) :: (u47 : Value) :: (u48 : Value) :: (u49 : Value) :: (u50 : Value) :: (u51 : Value) :: (u52 : Value) :: (u53 : Value) :: (u54 : Value) :: (undef : Value) :: (undef : Value) :: (undef : Value) :: (undef : Value) :: (undef : Value) :: (undef : Value) :: (undef : Value) :: (undef : Value) :: (undef : Value) :: (undef : Value) :: [])), defers := [] })
        (fun x' a' _ X Y row hs hg hr => by obtain ⟨Bx, h1, h2, h3⟩ := hs; exact ⟨Bx, h1, blk_ownF () X Y row h2 hg hr, h3⟩)
        ?assign ?body ?done ?stop
      case assign =>
        rintro l pre x' W K ⟨i1, i2, i3, i4, i5, i6, i7, i8, i9, i10, i11, i12⟩ hK
        gi_wp2
        exact hK _ _ ((KeepsOthers.alloc _ _).from _) ((KpS.refl _ _ _ W).alloc (by omega) (by omega) (by omega) _) ⟨i1, i2.alloc _, i3.alloc _, i4.alloc _, i5.alloc _, i6.alloc _, i7.alloc _, i8.alloc _, (Below.heap_alloc _ _ _ (Array.getElem?_eq_some_iff.1 i9).1).trans i9, i10.alloc (by omega) _, fun D hD => (Below.heap_alloc _ _ _ (Array.getElem?_eq_some_iff.1 (i11 D hD)).1).trans (i11 D hD), by simp; omega⟩ ⟨W.heap.size, i12, Blk.new W _ _, rfl⟩
      case body =>
        rintro l pre ⟨e, hmem⟩ a' W hl' - ⟨i1, i2, i3, i4, i5, i6, i7, i8, i9, i10, i11, i12⟩ ⟨Bx, hBx, bX, rfl⟩ hltp
        dsimp only at bX
        obtain ⟨hl0, hl16⟩ := HLAB.out e hmem
        obtain ⟨-, -, ht0, ht1⟩ := HIN.out e hmem
        obtain ⟨t, ht⟩ : ∃ t : Nat, e.t = t := ⟨e.t.toNat, by omega⟩
        have htS : t < S := by omega
        have hgs : SumOk (k * 1024 + pre.length) (rkGo es p j c (pre.map fun e => e.1) sm).1 := by
          have h := rkGo_ok (es := es) (by omega) p j (by omega) c (pre.map fun e => e.1) (k * 1024) sm hsm
          rwa [List.length_map] at h
        have hidx := fun wx => letL_index (P := Tryz.prog) Tryz.underlying9 hl0 hl16 wx
        obtain ⟨gs, hgsd⟩ : ∃ gs, gs = (rkGo es p j c (pre.map fun e => e.1) sm).1 := ⟨_, rfl⟩
        rw [← hgsd] at hgs i2
        obtain ⟨lb, hlb⟩ : ∃ lb, lb = letL e.l := ⟨_, rfl⟩
        rw [← hlb] at hidx
        have cX1 := bX.cell (j := 1) rfl
        have cX2 := bX.cell (j := 2) rfl
        obtain ⟨el, hel⟩ : ∃ el, el = e.l := ⟨_, rfl⟩
        rw [← hel] at cX1 hidx
        rw [ht] at cX2
        have cC := i5.cell (j := 0) rfl
        have cT := i6.cell (j := 0) rfl
        have hnq : w.heap.size + 4 < q := hbl
        have hBxl := bX.lt
        have hW1 : Below (q + 5) W1 W1 := Below.refl _ _
        clear hW1
        have I2 := Lib.hid i2; clear i2
        have I3 := Lib.hid i3; clear i3
        have I4 := Lib.hid i4; clear i4
        have I5 := Lib.hid i5; clear i5
        have I6 := Lib.hid i6; clear i6
        have I7 := Lib.hid i7; clear i7
        have I8 := Lib.hid i8; clear i8
        have I9 := Lib.hid i9; clear i9
        have I10 := Lib.hid i10; clear i10
        have I11 := Lib.hid i11; clear i11
        have HT0 := Lib.hid ht; clear ht
        have HEL := Lib.hid hel; clear hel
        by_cases hcl : lb = c
        · have t1 : (((lb.toNat : Nat) : Int) == ((c.toNat : Nat) : Int)) = true := by simp [hcl]
          have hsn := rkGo_snoc_yes (es := es) (p := p) (k := j) (e := e) i1 (hlb.symm.trans hcl)
          have hm2 : (pre ++ [(⟨e, hmem⟩ : {e : E3 // e ∈ es})]).map (fun e => e.1) = (pre.map fun e => e.1) ++ [e] := by simp
          have f1 := I3.out.frozen 0
          have cS := I3.out.cell (j := 0) rfl
          have cF0 := I4.out.cell (j := 0) rfl
          have cF1 := ((I4.out.of_block (Below.heap_setCell W ⟨w.heap.size + 1, 0, none⟩ (.int .i64 (t : Int)) (q + 1) (by simp; omega))).drew).cell (j := 0) rfl
          have f2 := ((I4.out.of_block (Below.heap_setCell W ⟨w.heap.size + 1, 0, none⟩ (.int .i64 (t : Int)) (q + 1) (by simp; omega))).drew).frozen 0
          have HSN := Lib.hid hsn; clear hsn
          have HM2 := Lib.hid hm2; clear hm2
          have HGS := Lib.hid hgsd; clear hgsd
          clear hlb hcl i1
          gi_wp2
          refine wpIn_round_held (S := fun w' => w'.cell? ⟨Bx, 1, none⟩ = some (.int .i64 el) ∧ w'.cell? ⟨q, 0, none⟩ = some (.int .u8 (c.toNat : Int))) (by kernel_rfl) (fun ⟨_, _, h⟩ => h) (by rfl) ?_ (fun hHeld => ?_)
          · go_keep
          refine wpAnyH_take (i := 0) (v := ?_) rfl (by kernel_rfl) (by kernel_rfl) (by kernel_rfl) (fun _ _ _ h => h) (Or.inl ⟨by rfl, ?_⟩) (by assumption) ?_
          rotate_left
          · (intro wS hSw; (try dsimp only at hSw); go_simp; (try with_reducible rfl))
          (try simp only [Act.put, List.setIfInBounds_toArray, List.set_cons_zero, List.set_cons_succ])
          refine wpAnyH_take (i := 1) (v := ?_) rfl (by kernel_rfl) (by kernel_rfl) (by kernel_rfl) (fun _ _ _ h => h) (Or.inl ⟨by rfl, ?_⟩) (by assumption) ?_
          rotate_left
          · (intro wS hSw; (try dsimp only at hSw); go_simp; (try with_reducible rfl))
          (try simp only [Act.put, List.setIfInBounds_toArray, List.set_cons_zero, List.set_cons_succ])
          refine wpAnyH_take (i := 2) (v := ?_) rfl (by kernel_rfl) (by kernel_rfl) (by kernel_rfl) (fun _ _ _ h => h) (Or.inl ⟨by rfl, ?_⟩) (by assumption) ?_
          rotate_left
          · (intro wS hSw; (try dsimp only at hSw); go_simp; (try with_reducible rfl))
          (try simp only [Act.put, List.setIfInBounds_toArray, List.set_cons_zero, List.set_cons_succ])
          refine wpAnyH_take (i := 3) (v := ?_) rfl (by kernel_rfl) (by kernel_rfl) (by kernel_rfl) (fun _ _ _ h => h) (Or.inl ⟨by rfl, ?_⟩) (by assumption) ?_
          rotate_left
          · (intro wS hSw; (try dsimp only at hSw); go_simp; (try with_reducible rfl))
          (try simp only [Act.put, List.setIfInBounds_toArray, List.set_cons_zero, List.set_cons_succ])
          refine wpAnyH_take (i := 4) (v := ?_) rfl (by kernel_rfl) (by kernel_rfl) (by kernel_rfl) (fun _ _ _ h => h) (Or.inl ⟨by rfl, ?_⟩) (by assumption) ?_
          rotate_left
          · (intro wS hSw; (try dsimp only at hSw); go_simp; (try with_reducible rfl))
          (try simp only [Act.put, List.setIfInBounds_toArray, List.set_cons_zero, List.set_cons_succ])
          refine wpAnyH_done (by kernel_rfl) ?_ _
          (try simp only [List.getElem_toArray, List.getElem_cons_zero, List.getElem_cons_succ, Act.put, List.setIfInBounds_toArray, List.set_cons_zero, List.set_cons_succ])
          gi_wp2
          have k1 : KeepsFrom W1.heap.size W ((W.setCell ⟨w.heap.size + 1, 0, none⟩ (.int .i64 (t : Int))).drew.setCell ⟨q + 1, 0, none⟩ (.bool true)) :=
            (keepsFrom_setCell W ⟨w.heap.size + 1, 0, none⟩ _ (show w.heap.size + 1 < W1.heap.size by omega)).trans ((keepsFrom_drew _ _).trans (keepsFrom_setCell (W.setCell ⟨w.heap.size + 1, 0, none⟩ (.int .i64 (t : Int))).drew ⟨q + 1, 0, none⟩ _ (show q + 1 < W1.heap.size by omega)))
          refine ⟨k1, ⟨rfl, e.t, by rw [HM2.out, HSN.out]⟩, ?_⟩
          (try dsimp only)
          rw [HM2.out, HSN.out]
          have hk : ∀ b, b ≠ w.heap.size + 1 → b ≠ q + 1 → ((W.setCell ⟨w.heap.size + 1, 0, none⟩ (.int .i64 (t : Int))).drew.setCell ⟨q + 1, 0, none⟩ (.bool true)).heap[b]? = W.heap[b]? := fun b h1 h2 =>
            (Below.heap_setCell (W.setCell ⟨w.heap.size + 1, 0, none⟩ (.int .i64 (t : Int))).drew ⟨q + 1, 0, none⟩ _ b h2).trans (Below.heap_setCell W ⟨w.heap.size + 1, 0, none⟩ _ b h1)
          have j3 := I3.out.set 0 (.int .i64 (t : Int))
          have j4 := (((I4.out.of_block (Below.heap_setCell W ⟨w.heap.size + 1, 0, none⟩ (.int .i64 (t : Int)) (q + 1) (show q + 1 ≠ w.heap.size + 1 by omega))).drew).set 0 (.bool true))
          refine ⟨by rw [← HGS.out]; exact I2.out.of_block (hk _ (by omega) (by omega)), ?_, j4, I5.out.of_block (hk _ (by omega) (by omega)), I6.out.of_block (hk _ (by omega) (by omega)), I7.out.of_block (hk _ (by omega) (by omega)), I8.out.of_block (hk _ (by omega) (by omega)), (hk _ (by omega) (by omega)).trans I9.out, ?_, fun D hD => (hk D (by have := HDG.out D hD; omega) (by have := HDL.out D hD; omega)).trans (I11.out D hD), Nat.le_trans i12 k1.size⟩
          · rw [show (some e.t).getD 0 = (t : Int) from HT0.out]
            exact j3.drew.of_block (Below.heap_setCell _ _ _ _ (show w.heap.size + 1 ≠ q + 1 by omega))
          · exact (I10.out.setCell (p := ⟨w.heap.size + 1, 0, none⟩) (by simp) _).drew.setCell (p := ⟨q + 1, 0, none⟩) (show w.heap.size ≤ q + 1 by omega) _
        · have t1 : (((lb.toNat : Nat) : Int) == ((c.toNat : Nat) : Int)) = false := by
            simp only [beq_eq_false_iff_ne, ne_eq, Int.natCast_inj]
            exact fun h => hcl (UInt8.toNat_inj.1 h)
          have hsn := rkGo_snoc_no (es := es) (p := p) (k := j) (e := e) i1 (fun h => hcl (hlb.trans h))
          rw [← hgsd, HT0.out] at hsn
          have hm2 : (pre ++ [(⟨e, hmem⟩ : {e : E3 // e ∈ es})]).map (fun e => e.1) = (pre.map fun e => e.1) ++ [e] := by simp
          have gy : (rowK es S p j)[t]? = some (cw es p j (t : Int)) := rowK_get htS
          have hcwb := cw_bigM (es := es) (by omega) p j (by omega) (t : Int)
          have sY : small (cw es p j (t : Int)) := cw_small (by omega) p j (by omega) _
          obtain ⟨Y, hY⟩ : ∃ Y, Y = cw es p j (t : Int) := ⟨_, rfl⟩
          rw [← hY] at gy hsn hcwb sY
          have sX : small gs := hgs.small (by
            have h1 : pre.length ≤ 1024 := by omega
            have h2 : k * 1024 ≤ 4096 * 1024 := Nat.mul_le_mul_right _ (by omega)
            omega)
          have hadd := fun w' => iadd_any (ineg gs) (ineg Y) (imag gs) (imag Y) w' sX sY
          simp only [ival_canon] at hadd
          have y0 := (I10.out.cell (p := ⟨br, orr + t * 2, none⟩) hbr).trans (HRC.out _ _ (civ_get gy).1)
          have y1 := (I10.out.cell (p := ⟨br, orr + (t * 2 + 1), none⟩) hbr).trans (HRC.out _ _ (civ_get gy).2)
          rw [← Nat.add_assoc] at y1
          have u0 := I2.out.cell (j := 0) rfl
          have u1 := I2.out.cell (j := 1) rfl
          have hix3 : (0 : Int) ≤ (t : Int) := by omega
          have hix4 : (t : Int) < (S : Int) := by omega
          have hBW : w.heap.size + 10 ≤ W.heap.size := by omega
          have hqW : q + 5 ≤ W.heap.size := by omega
          have HSN := Lib.hid hsn; clear hsn
          have HM2 := Lib.hid hm2; clear hm2
          have HGS := Lib.hid hgsd; clear hgsd
          have HADD := Lib.hid hadd; clear hadd
          clear hlb hcl i1 gy hY hcwb sY sX
          gi_wp2
          refine wpIn_round_held (S := fun w' => w'.cell? ⟨Bx, 1, none⟩ = some (.int .i64 el) ∧ w'.cell? ⟨q, 0, none⟩ = some (.int .u8 (c.toNat : Int))) (by kernel_rfl) (fun ⟨_, _, h⟩ => h) (by rfl) ?_ (fun hHeld => ?_)
          · go_keep
          refine wpAnyH_take (i := 0) (v := ?_) rfl (by kernel_rfl) (by kernel_rfl) (by kernel_rfl) (fun _ _ _ h => h) (Or.inl ⟨by rfl, ?_⟩) (by assumption) ?_
          rotate_left
          · (intro wS hSw; (try dsimp only at hSw); go_simp; (try with_reducible rfl))
          (try simp only [Act.put, List.setIfInBounds_toArray, List.set_cons_zero, List.set_cons_succ])
          refine wpAnyH_take (i := 1) (v := ?_) rfl (by kernel_rfl) (by kernel_rfl) (by kernel_rfl) (fun _ _ _ h => h) (Or.inl ⟨by rfl, ?_⟩) (by assumption) ?_
          rotate_left
          · (intro wS hSw; (try dsimp only at hSw); go_simp; (try with_reducible rfl))
          (try simp only [Act.put, List.setIfInBounds_toArray, List.set_cons_zero, List.set_cons_succ])
          refine wpAnyH_take (i := 2) (v := ?_) rfl (by kernel_rfl) (by kernel_rfl) (by kernel_rfl) (fun _ _ _ h => h) (Or.inl ⟨by rfl, ?_⟩) (by assumption) ?_
          rotate_left
          · (intro wS hSw; (try dsimp only at hSw); go_simp; (try with_reducible rfl))
          (try simp only [Act.put, List.setIfInBounds_toArray, List.set_cons_zero, List.set_cons_succ])
          refine wpAnyH_take (i := 3) (v := ?_) rfl (by kernel_rfl) (by kernel_rfl) (by kernel_rfl) (fun _ _ _ h => h) (Or.inl ⟨by rfl, ?_⟩) (by assumption) ?_
          rotate_left
          · (intro wS hSw; (try dsimp only at hSw); go_simp; (try with_reducible rfl))
          (try simp only [Act.put, List.setIfInBounds_toArray, List.set_cons_zero, List.set_cons_succ])
          refine wpAnyH_take (i := 4) (v := ?_) rfl (by kernel_rfl) (by kernel_rfl) (by kernel_rfl) (fun _ _ _ h => h) (Or.inl ⟨by rfl, ?_⟩) (by assumption) ?_
          rotate_left
          · (intro wS hSw; (try dsimp only at hSw); go_simp; (try with_reducible rfl))
          (try simp only [Act.put, List.setIfInBounds_toArray, List.set_cons_zero, List.set_cons_succ])
          refine wpAnyH_done (by kernel_rfl) ?_ _
          (try simp only [List.getElem_toArray, List.getElem_cons_zero, List.getElem_cons_succ, Act.put, List.setIfInBounds_toArray, List.set_cons_zero, List.set_cons_succ])
          clear hHeld cX1 cC
          gi_wp2
          refine wpIn_round_held (S := fun w' => w'.cell? ⟨q + 2, 0, none⟩ = some (.slice (some ⟨br, orr, none⟩) S cr) ∧ w'.cell? ⟨Bx, 2, none⟩ = some (.int .i64 (t : Int)) ∧ w'.cell? ⟨br, orr + t * 2, none⟩ = some (.bool (ineg Y)) ∧ w'.cell? ⟨br, orr + t * 2 + 1, none⟩ = some (.string (imag Y))) (by kernel_rfl) (fun ⟨_, _, h⟩ => h) (by rfl) ?_ (fun hHeld => ?_)
          · go_keep
          refine wpAnyH_take (i := 1) (v := ?_) rfl (by kernel_rfl) (by kernel_rfl) (by kernel_rfl) (fun _ _ _ h => h) (Or.inl ⟨by rfl, ?_⟩) (by assumption) ?_
          rotate_left
          · (intro wS hSw; (try dsimp only at hSw); go_simp; (try with_reducible rfl))
          (try simp only [Act.put, List.setIfInBounds_toArray, List.set_cons_zero, List.set_cons_succ])
          refine wpAnyH_take (i := 2) (v := ?_) rfl (by kernel_rfl) (by kernel_rfl) (by kernel_rfl) (fun _ _ _ h => h) (Or.inl ⟨by rfl, ?_⟩) (by assumption) ?_
          rotate_left
          · (intro wS hSw; (try dsimp only at hSw); go_simp; (try with_reducible rfl))
          (try simp only [Act.put, List.setIfInBounds_toArray, List.set_cons_zero, List.set_cons_succ])
          refine wpAnyH_take (i := 3) (v := ?_) rfl (by kernel_rfl) (by kernel_rfl) (by kernel_rfl) (fun _ _ _ h => h) (Or.inl ⟨by rfl, ?_⟩) (by assumption) ?_
          rotate_left
          · (intro wS hSw; (try dsimp only at hSw); go_simp; (try with_reducible rfl))
          (try simp only [Act.put, List.setIfInBounds_toArray, List.set_cons_zero, List.set_cons_succ])
          refine wpAnyH_take (i := 4) (v := ?_) rfl (by kernel_rfl) (by kernel_rfl) (by kernel_rfl) (fun _ _ _ h => h) (Or.inl ⟨by rfl, ?_⟩) (by assumption) ?_
          rotate_left
          · (intro wS hSw; (try dsimp only at hSw); go_simp; (try with_reducible rfl))
          (try simp only [Act.put, List.setIfInBounds_toArray, List.set_cons_zero, List.set_cons_succ])
          refine wpAnyH_take (i := 5) (v := ?_) rfl (by kernel_rfl) (by kernel_rfl) (by kernel_rfl) (fun _ _ _ h => h) (Or.inl ⟨by rfl, ?_⟩) (by assumption) ?_
          rotate_left
          · (intro wS hSw; (try dsimp only at hSw); go_simp; (try with_reducible rfl))
          (try simp only [Act.put, List.setIfInBounds_toArray, List.set_cons_zero, List.set_cons_succ])
          refine wpAnyH_ready (rs := [0]) (by kernel_rfl) (by simp) ?_
          refine AllReadyH.cons rfl (fun K hK => ?_) AllReadyH.nil
          go_simp
          refine hK.out _ _ ?_ (fun hHeld => ?_)
          · ((try dsimp only); go_keep)
          clear hK K
          (try simp only [Act.put, List.setIfInBounds_toArray, List.set_cons_zero, List.set_cons_succ])
          refine wpAnyH_ready (rs := [6]) (by kernel_rfl) (by simp) ?_
          refine AllReadyH.cons rfl (fun K hK => ?_) AllReadyH.nil
          go_simp
          go_at_call 70
          refine (HADD.out _).mono ?_
          rintro e2 w4 ⟨hq4, rfl⟩
          (try dsimp only)
          have z0 := (hq4.cell (p := ⟨q + 2, 0, none⟩) (show q + 2 < W.heap.size by omega)).trans hHeld.1
          have z1 := (hq4.cell (p := ⟨Bx, 2, none⟩) (show Bx < W.heap.size by omega)).trans hHeld.2.1
          have z2 := (hq4.cell (p := ⟨br, orr + t * 2, none⟩) (show br < W.heap.size by omega)).trans hHeld.2.2.1
          have z3 := (hq4.cell (p := ⟨br, orr + t * 2 + 1, none⟩) (show br < W.heap.size by omega)).trans hHeld.2.2.2
          refine hK.out _ _ ⟨z0, z1, z2, z3⟩ (fun hHeld2 => ?_)
          clear hK K u0 u1
          have hn2 := I2.out.drew.drew.keep hq4
          have u0 := hn2.cell (j := 0) rfl
          have u1 := hn2.cell (j := 1) rfl
          have v0 := hn2.frozen 0
          have v1 := hn2.frozen 1
          have hne1 : ¬ w.heap.size + 3 = q + 2 := by omega
          have hne2 : ¬ w.heap.size + 3 = Bx := by omega
          have hne3 : ¬ w.heap.size + 3 = br := by omega
          have HN2 := Lib.hid hn2; clear hn2
          have HQ4 := Lib.hid hq4; clear hq4
          (try simp only [Act.put, List.setIfInBounds_toArray, List.set_cons_zero, List.set_cons_succ])
          refine wpAnyH_ready (rs := [7]) (by kernel_rfl) (by simp) ?_
          refine AllReadyH.cons rfl (fun K hK => ?_) AllReadyH.nil
          go_simp
          refine hK.out _ _ ?_ (fun hHeld => ?_)
          · ((try dsimp only); go_keep)
          clear hK K
          (try simp only [Act.put, List.setIfInBounds_toArray, List.set_cons_zero, List.set_cons_succ])
          refine wpAnyH_done (by kernel_rfl) ?_ _
          (try simp only [List.getElem_toArray, List.getElem_cons_zero, List.getElem_cons_succ, Act.put, List.setIfInBounds_toArray, List.set_cons_zero, List.set_cons_succ])
          gi_wp2
          have hb4 : Below W.heap.size W w4 := (((Below.refl W.heap.size W).drew).drew).trans (HQ4.out.mono (Nat.le_refl _))
          have hk : ∀ b, b < W.heap.size → b ≠ w.heap.size + 3 → ((w4.setCell ⟨w.heap.size + 3, 0, none⟩ (.bool (ineg (gs + Y)))).setCell ⟨w.heap.size + 3, 1, none⟩ (.string (imag (gs + Y)))).heap[b]? = W.heap[b]? := fun b h1 h2 =>
            ((Below.heap_setCell _ _ _ b h2).trans (Below.heap_setCell _ _ _ b h2)).trans (hb4.block b h1)
          have k1 : KeepsFrom W1.heap.size W ((w4.setCell ⟨w.heap.size + 3, 0, none⟩ (.bool (ineg (gs + Y)))).setCell ⟨w.heap.size + 3, 1, none⟩ (.string (imag (gs + Y)))) :=
            (keepsFrom_below hb4 rfl).trans ((keepsFrom_setCell w4 ⟨w.heap.size + 3, 0, none⟩ _ (show w.heap.size + 3 < W1.heap.size by omega)).trans (keepsFrom_setCell _ ⟨w.heap.size + 3, 1, none⟩ _ (show w.heap.size + 3 < W1.heap.size by omega)))
          have hbz : ∀ {X : World}, Below w.heap.size X W → Below w.heap.size X ((w4.setCell ⟨w.heap.size + 3, 0, none⟩ (.bool (ineg (gs + Y)))).setCell ⟨w.heap.size + 3, 1, none⟩ (.string (imag (gs + Y)))) := fun hX =>
            ((hX.trans (hb4.mono (by omega))).setCell (p := ⟨w.heap.size + 3, 0, none⟩) (show w.heap.size ≤ w.heap.size + 3 by omega) _).setCell (p := ⟨w.heap.size + 3, 1, none⟩) (show w.heap.size ≤ w.heap.size + 3 by omega) _
          refine ⟨k1, ⟨hbz (Below.refl _ _), hk _ (by omega) (by omega), hk _ (by omega) (by omega)⟩, ?_⟩
          (try dsimp only)
          rw [HM2.out, HSN.out]
          refine ⟨rfl, (HN2.out.set 0 _).set 1 _, I3.out.of_block (hk _ (by omega) (by omega)), I4.out.of_block (hk _ (by omega) (by omega)), I5.out.of_block (hk _ (by omega) (by omega)), I6.out.of_block (hk _ (by omega) (by omega)), I7.out.of_block (hk _ (by omega) (by omega)), I8.out.of_block (hk _ (by omega) (by omega)), (hk _ (by omega) (by omega)).trans I9.out, hbz I10.out, fun D hD => (hk D (by have := HDL.out D hD; omega) (by have := HDG.out D hD; omega)).trans (I11.out D hD), Nat.le_trans i12 k1.size⟩
      case done =>
        rintro D ys W hDge rfl ⟨i1, i2, i3, i4, i5, i6, i7, i8, i9, i10, i11, i12⟩ hK
        have cF := i4.cell (j := 0) rfl
        have fr0 := i8.frozen 0
        have fr1 := i8.frozen 1
        have cr0 := i8.cell (j := 0) rfl
        have cr1 := i8.cell (j := 1) rfl
        have hdr := HC.out
        have hRn : R = none := by
          rw [← HRK.out, List.drop_eq_getElem_cons (show k < wd.data.toList.length by rw [bytes_size]; exact hlt), (List.getElem?_eq_some_iff.1 hdr).2, rk]
          rw [show (wd.data.toList.drop (k + 1)).length = j by rw [List.length_drop, bytes_size, HJ.out]; omega]
          rw [lvA_out] at i1
          rw [show rkGo es p j c (outE es (sk : Int)) sm = ((rkGo es p j c (outE es (sk : Int)) sm).1, none) from Prod.ext rfl i1]
        clear hdr
        have I8 := Lib.hid i8; clear i8
        have I10 := Lib.hid i10; clear i10
        have I11 := Lib.hid i11; clear i11
        have HRN := Lib.hid hRn; clear hRn
        clear i1 i2 i3 i4 i5 i6 i7 i9
        gi_wp2
        rw [HRN.out]
        have hb5 : Below w.heap.size w ((W.setCell ⟨w.heap.size + 2, 0, none⟩ (.bool false)).setCell ⟨w.heap.size + 2, 1, none⟩ (.string ⟨#[]⟩)) := (I10.out.setCell (p := ⟨w.heap.size + 2, 0, none⟩) (show w.heap.size ≤ w.heap.size + 2 by omega) _).setCell (p := ⟨w.heap.size + 2, 1, none⟩) (show w.heap.size ≤ w.heap.size + 2 by omega) _
        refine leaves_marks (w.heap.size + 5) (fun W => Below w.heap.size w W ∧ Blk W (w.heap.size + 2) 33 [.bool false, .string ⟨#[]⟩]) (fun W D hB hk hD => ⟨hk.1.grown (grownBy_putObj' W D _) (by have := hk.1.size; omega) (fun j' e' => by cases e'; omega), hk.2.of_block (World.putObj_heap_other (by omega))⟩) (fun W hk => ?hfin) (D :: Ds) _ ⟨hb5, (I8.out.set 0 _).set 1 _⟩ (fun D' h' => ?hd) ?hnd (fun D' h' => ?hge)
        case hfin =>
          have e0 := hk.2.cell (j := 0) rfl
          have e1 := hk.2.cell (j := 1) rfl
          refine ⟨_, ?_, hk.1, rfl⟩
          simp [results, Tryz.results33, go_sem, e0, e1, IntV, ineg_zero, imag_zero]
        case hd =>
          rcases List.mem_cons.1 h' with rfl | h'
          · exact ((Below.heap_setCell _ _ _ D' (by simp; omega)).trans (Below.heap_setCell _ _ _ D' (by simp; omega))).trans hK
          · exact ((Below.heap_setCell _ _ _ D' (by have := HDG.out D' h'; simp; omega)).trans (Below.heap_setCell _ _ _ D' (by have := HDG.out D' h'; simp; omega))).trans (I11.out D' h')
        case hnd =>
          rw [List.nodup_cons]
          exact ⟨fun h' => by have := HDL.out D h'; omega, HND.out⟩
        case hge =>
          rcases List.mem_cons.1 h' with rfl | h'
          · omega
          · exact HDG.out D' h'
      case stop =>
        rintro D cc pre W hDge hpre ⟨⟨rfl, t, htp⟩, i2, i3, i4, i5, i6, i7, i8, i9, i10, i11, i12⟩ hK
        have cF := i4.cell (j := 0) rfl
        have hpre2 : (pre.map fun e => e.1) <+: outE es (sk : Int) := by
          rw [← lvA_out]; exact hpre.map _
        have hfull := rkGo_prefix hpre2 htp
        obtain ⟨e1, he1, he2⟩ := rkGo_mem htp
        obtain ⟨e0, he0, rfl⟩ := List.mem_map.1 he1
        obtain ⟨-, -, ht0, ht1⟩ := HIN.out e0.1 e0.2
        obtain ⟨t', ht'⟩ : ∃ t' : Nat, t = t' := ⟨t.toNat, by omega⟩
        have hgs : SumOk ((k + 1) * 1024) (rkGo es p j c (pre.map fun e => e.1) sm).1 := by
          have h := rkGo_ok (es := es) (by omega) p j (by omega) c (pre.map fun e => e.1) (k * 1024) sm hsm
          refine h.mono ?_
          have h3 := hpre.length_le
          have h4 := lvA_length (sk : Int) es es.length
          rw [List.length_map, Nat.add_mul]
          omega
        have hdr := HC.out
        have hRn : rk es p (wd.data.toList.drop (k + 1)) (t' : Int) (rkGo es p j c (pre.map fun e => e.1) sm).1 = R := by
          rw [← HRK.out, List.drop_eq_getElem_cons (show k < wd.data.toList.length by rw [bytes_size]; exact hlt), (List.getElem?_eq_some_iff.1 hdr).2, rk]
          rw [show (wd.data.toList.drop (k + 1)).length = j by rw [List.length_drop, bytes_size, HJ.out]; omega]
          rw [hfull, ht']
        have htS : t' < S := by omega
        rw [htp, show (some t).getD 0 = (t' : Int) from ht'] at i3
        obtain ⟨gs, hgsd⟩ : ∃ gs, gs = (rkGo es p j c (pre.map fun e => e.1) sm).1 := ⟨_, rfl⟩
        rw [← hgsd] at hgs i2 hRn
        clear hdr hfull hgsd htp hpre2 he1 he0 he2
        have I2 := Lib.hid i2; clear i2
        have I3 := Lib.hid i3; clear i3
        have I7 := Lib.hid i7; clear i7
        have I8 := Lib.hid i8; clear i8
        have I9 := Lib.hid i9; clear i9
        have I10 := Lib.hid i10; clear i10
        have I11 := Lib.hid i11; clear i11
        have HRN := Lib.hid hRn; clear hRn
        clear i4 i5 i6 hpre ht'
        gi_wp2
        refine ⟨⟨k + 1, D :: Ds, _, _, _, _, _, _, _, _, _, _, _, _, _, _, _, _, _, _, _, _, _, _, _, _, _, _, _, _, _, _, _, _, _, _, _, _, _, _, _, t', gs, rfl, by omega, htS, hgs, HRN.out, I7.out, I3.out, I8.out, I2.out, I9.out, I10.out, ?_, ?_, ?_⟩, ?_⟩
        · intro D' h'
          rcases List.mem_cons.1 h' with rfl | h'
          · exact hK
          · exact I11.out D' h'
        · rw [List.nodup_cons]
          exact ⟨fun h' => by have := HDL.out D h'; omega, HND.out⟩
        · intro D' h'
          rcases List.mem_cons.1 h' with rfl | h'
          · omega
          · exact HDG.out D' h'
        · simp [intOf]; omega
    · obtain rfl : k = wd.size := by omega
      obtain ⟨rv, hrv1, hrv2⟩ := HROWS.out 0 _ (tabL_get (by omega))
      rw [rowK_length] at hrv2
      obtain ⟨ar, cr, rfl, hcr⟩ := hrv2.slice
      obtain ⟨br, orr, rfl, hbr, hrc⟩ := hrv2.at_ (by omega)
      have r0 := (hbel.cell (p := ⟨bt, ot + 0, none⟩) hbt).trans (HTC.out 0 _ hrv1)
      rw [Nat.add_zero] at r0
      have hRs : R = some (sm, (sk : Int)) := by
        rw [← hrk, List.drop_eq_nil_of_le (by rw [bytes_size]; exact Nat.le_refl _), rk]
      have gy : (rowK es S p 0)[sk]? = some (if p (sk : Int) = true then 1 else 0) := rowK_get hsk
      have hY : ∃ Y : Int, (if p (sk : Int) = true then (1 : Int) else 0) = Y ∧ (ineg Y = false) ∧ ((imag Y).data.toList = if p (sk : Int) = true then [1] else []) := by
        cases p (sk : Int) with
        | true => exact ⟨1, rfl, rfl, by decide +kernel⟩
        | false => exact ⟨0, rfl, rfl, by decide +kernel⟩
      obtain ⟨Y, hY0, hY1, hY2⟩ := hY
      rw [hY0] at gy
      have y0 := (hbel.cell (p := ⟨br, orr + sk * 2, none⟩) hbr).trans (hrc _ _ (civ_get gy).1)
      have y1 := (hbel.cell (p := ⟨br, orr + (sk * 2 + 1), none⟩) hbr).trans (hrc _ _ (civ_get gy).2)
      rw [← Nat.add_assoc] at y1
      rw [hY1] at y0
      have u0 := BM.out.cell (j := 0) rfl
      have u1 := BM.out.cell (j := 1) rfl
      have fr0 := BR.out.frozen 0
      have fr1 := BR.out.frozen 1
      have cr0 := BR.out.cell (j := 0) rfl
      have cr1 := BR.out.cell (j := 1) rfl
      have hix1 : (0 : Int) ≤ (sk : Int) := by omega
      have hix2 : (sk : Int) < (S : Int) := by omega
      have hix3 : (0 : Int) < ((wd.size + 1 : Nat) : Int) := by omega
      obtain ⟨ps, hps⟩ : ∃ ps, ps = p (sk : Int) := ⟨_, rfl⟩
      rw [← hps] at hY2
      have hneq : ∀ wx, (binOp .neq 33 (.agg #[.bool false, .string (imag Y)]) (.agg #[.bool false, .string ⟨#[]⟩])).run Tryz.prog wx = .ok (.bool ps) wx := fun wx => by
        have e : (!(false == false && imag Y == (⟨#[]⟩ : ByteArray))) = ps := by
          rw [beq_str]
          cases hpq : ps with
          | true =>
            have h : ¬ imag Y = ⟨#[]⟩ := fun h => by rw [h, hpq] at hY2; simp at hY2
            simp [h]
          | false =>
            have h : imag Y = ⟨#[]⟩ := str_ext (by rw [hY2, hpq]; rfl)
            simp [h]
        rw [run_neq_struct, eqIn_int, ← e]; rfl
      have hne1 : ¬ w.heap.size + 2 = w.heap.size + 1 := by omega
      have hne2 : ¬ w.heap.size + 2 = w.heap.size + 3 := by omega
      have hne3 : ¬ w.heap.size + 2 = bt := by omega
      have hne4 : ¬ w.heap.size + 2 = br := by omega
      have HRS := Lib.hid hRs; clear hRs
      have HPS := Lib.hid hps; clear hps
      have HBEL := Lib.hid hbel; clear hbel
      clear hrk gy hY0 hY1 hrv1 hrv2 hrc g0 g1 g2
      gi_wp2
      refine wpIn_wide.2 ?_
      refine wp_region_noPanic ?_
      refine wp_region_held_drew (S := fun w' => w'.cell? ⟨w.heap.size + 3, 0, none⟩ = some (.bool (ineg sm)) ∧ w'.cell? ⟨w.heap.size + 3, 1, none⟩ = some (.string (imag sm)) ∧ w'.cell? ⟨w.heap.size + 1, 0, none⟩ = some (.int .i64 (sk : Int)) ∧ w'.cell? ⟨bt, ot, none⟩ = some (.slice (some ⟨br, orr, none⟩) S cr) ∧ w'.cell? ⟨br, orr + sk * 2, none⟩ = some (.bool false) ∧ w'.cell? ⟨br, orr + sk * 2 + 1, none⟩ = some (.string (imag Y))) (by kernel_rfl) ?_ (fun hHeld => ?_)
      · go_keep
      refine wpAnyH_take (i := 0) (v := ?_) rfl (by kernel_rfl) (by kernel_rfl) (by kernel_rfl) (fun _ _ _ h => h) (Or.inl ⟨by rfl, ?_⟩) (by assumption) ?_
      rotate_left
      · (intro wS hSw; (try dsimp only at hSw); go_simp; (try with_reducible rfl))
      (try simp only [Act.put, List.setIfInBounds_toArray, List.set_cons_zero, List.set_cons_succ])
      refine wpAnyH_take (i := 1) (v := ?_) rfl (by kernel_rfl) (by kernel_rfl) (by kernel_rfl) (fun _ _ _ h => h) (Or.inl ⟨by rfl, ?_⟩) (by assumption) ?_
      rotate_left
      · (intro wS hSw; (try dsimp only at hSw); go_simp; (try with_reducible rfl))
      (try simp only [Act.put, List.setIfInBounds_toArray, List.set_cons_zero, List.set_cons_succ])
      refine wpAnyH_take (i := 2) (v := ?_) rfl (by kernel_rfl) (by kernel_rfl) (by kernel_rfl) (fun _ _ _ h => h) (Or.inl ⟨by rfl, ?_⟩) (by assumption) ?_
      rotate_left
      · (intro wS hSw; (try dsimp only at hSw); go_simp; (try with_reducible rfl))
      (try simp only [Act.put, List.setIfInBounds_toArray, List.set_cons_zero, List.set_cons_succ])
      refine wpAnyH_take (i := 3) (v := ?_) rfl (by kernel_rfl) (by kernel_rfl) (by kernel_rfl) (fun _ _ _ h => h) (Or.inl ⟨by rfl, ?_⟩) (by assumption) ?_
      rotate_left
      · (intro wS hSw; (try dsimp only at hSw); go_simp; (try with_reducible rfl))
      (try simp only [Act.put, List.setIfInBounds_toArray, List.set_cons_zero, List.set_cons_succ])
      refine wpAnyH_take (i := 4) (v := ?_) rfl (by kernel_rfl) (by kernel_rfl) (by kernel_rfl) (fun _ _ _ h => h) (Or.inl ⟨by rfl, ?_⟩) (by assumption) ?_
      rotate_left
      · (intro wS hSw; (try dsimp only at hSw); go_simp; (try with_reducible rfl))
      (try simp only [Act.put, List.setIfInBounds_toArray, List.set_cons_zero, List.set_cons_succ])
      refine wpAnyH_take (i := 5) (v := ?_) rfl (by kernel_rfl) (by kernel_rfl) (by kernel_rfl) (fun _ _ _ h => h) (Or.inl ⟨by rfl, ?_⟩) (by assumption) ?_
      rotate_left
      · (intro wS hSw; (try dsimp only at hSw); go_simp; (try with_reducible rfl))
      (try simp only [Act.put, List.setIfInBounds_toArray, List.set_cons_zero, List.set_cons_succ])
      refine wpAnyH_take (i := 6) (v := ?_) rfl (by kernel_rfl) (by kernel_rfl) (by kernel_rfl) (fun _ _ _ h => h) (Or.inl ⟨by rfl, ?_⟩) (by assumption) ?_
      rotate_left
      · (intro wS hSw; (try dsimp only at hSw); go_simp; (try with_reducible rfl))
      (try simp only [Act.put, List.setIfInBounds_toArray, List.set_cons_zero, List.set_cons_succ])
      refine wpAnyH_take (i := 7) (v := ?_) rfl (by kernel_rfl) (by kernel_rfl) (by kernel_rfl) (fun _ _ _ h => h) (Or.inl ⟨by rfl, ?_⟩) (by assumption) ?_
      rotate_left
      · (intro wS hSw; (try dsimp only at hSw); go_simp; (try with_reducible rfl))
      (try simp only [Act.put, List.setIfInBounds_toArray, List.set_cons_zero, List.set_cons_succ])
      refine wpAnyH_take (i := 8) (v := ?_) rfl (by kernel_rfl) (by kernel_rfl) (by kernel_rfl) (fun _ _ _ h => h) (Or.inl ⟨by rfl, ?_⟩) (by assumption) ?_
      rotate_left
      · (intro wS hSw; (try dsimp only at hSw); go_simp; (try with_reducible rfl))
      (try simp only [Act.put, List.setIfInBounds_toArray, List.set_cons_zero, List.set_cons_succ])
      refine wpAnyH_take (i := 9) (v := ?_) rfl (by kernel_rfl) (by kernel_rfl) (by kernel_rfl) (fun _ _ _ h => h) (Or.inl ⟨by rfl, ?_⟩) (by assumption) ?_
      rotate_left
      · (intro wS hSw; (try dsimp only at hSw); go_simp; (try with_reducible rfl))
      (try simp only [Act.put, List.setIfInBounds_toArray, List.set_cons_zero, List.set_cons_succ])
      refine wpAnyH_ready (rs := [10]) (by kernel_rfl) (by simp) ?_
      refine AllReadyH.cons rfl (fun K hK => ?_) AllReadyH.nil
      go_simp
      refine hK.out _ _ ?_ (fun hHeld => ?_)
      · ((try dsimp only); go_keep)
      clear hK K
      (try simp only [Act.put, List.setIfInBounds_toArray, List.set_cons_zero, List.set_cons_succ])
      refine wpAnyH_take (i := 11) (v := ?_) rfl (by kernel_rfl) (by kernel_rfl) (by kernel_rfl) (fun _ _ _ h => h) (Or.inl ⟨by rfl, ?_⟩) (by assumption) ?_
      rotate_left
      · (intro wS hSw; (try dsimp only at hSw); go_simp; (try with_reducible rfl))
      (try simp only [Act.put, List.setIfInBounds_toArray, List.set_cons_zero, List.set_cons_succ])
      refine wpAnyH_take (i := 12) (v := ?_) rfl (by kernel_rfl) (by kernel_rfl) (by kernel_rfl) (fun _ _ _ h => h) (Or.inl ⟨by rfl, ?_⟩) (by assumption) ?_
      rotate_left
      · (intro wS hSw; (try dsimp only at hSw); go_simp; (try with_reducible rfl))
      (try simp only [Act.put, List.setIfInBounds_toArray, List.set_cons_zero, List.set_cons_succ])
      refine wpAnyH_done (by kernel_rfl) ?_ _
      (try simp only [List.getElem_toArray, List.getElem_cons_zero, List.getElem_cons_succ, Act.put, List.setIfInBounds_toArray, List.set_cons_zero, List.set_cons_succ])
      refine NoPanic.normal ?_
      gi_wp2
      rw [HRS.out]
      have hb5 : Below w.heap.size w ((wr.drew.setCell ⟨w.heap.size + 2, 0, none⟩ (.bool (ineg sm))).setCell ⟨w.heap.size + 2, 1, none⟩ (.string (imag sm))) := (HBEL.out.drew.setCell (p := ⟨w.heap.size + 2, 0, none⟩) (show w.heap.size ≤ w.heap.size + 2 by omega) _).setCell (p := ⟨w.heap.size + 2, 1, none⟩) (show w.heap.size ≤ w.heap.size + 2 by omega) _
      refine leaves_marks (w.heap.size + 5) (fun W => Below w.heap.size w W ∧ Blk W (w.heap.size + 2) 33 [.bool (ineg sm), .string (imag sm)]) (fun W D hB hk hD => ⟨hk.1.grown (grownBy_putObj' W D _) (by have := hk.1.size; omega) (fun j' e' => by cases e'; omega), hk.2.of_block (World.putObj_heap_other (by omega))⟩) (fun W hk => ?hfin) Ds _ ⟨hb5, (BR.out.drew.set 0 _).set 1 _⟩ (fun D' h' => ?hd) HND.out HDG.out
      case hfin =>
        have e0 := hk.2.cell (j := 0) rfl
        have e1 := hk.2.cell (j := 1) rfl
        refine ⟨_, ?_, hk.1, rfl⟩
        simp [results, Tryz.results33, go_sem, e0, e1, IntV, HPS.out]
      case hd =>
        exact ((Below.heap_setCell _ _ _ D' (by have := HDG.out D' h'; simp; omega)).trans (Below.heap_setCell _ _ _ D' (by have := HDG.out D' h'; simp; omega))).trans (HDS.out D' h')
end Go.Proofs.YtalipfnbpnkgnaaGreat
