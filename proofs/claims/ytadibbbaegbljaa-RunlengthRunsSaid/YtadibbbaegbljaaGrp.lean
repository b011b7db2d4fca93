/- runs.grouped at bytes: the runs of a word as slices. -/
import Derived.Test.YtadibbbaegbljaaPlainX
import Derived.Test.YtadibbbaegbljaaPath
import Derived.BigQuiet
namespace Go.Proofs.Ytadibbbaegbljaa
open Go.RowKit

def totR : List (UInt8 × Nat) → Nat
  | [] => 0
  | x :: r => x.2 + totR r
/-- The slices of the runs. -/
def gv (b cap : Nat) : List (UInt8 × Nat) → Nat → List Value
  | [], _ => []
  | x :: r, o => .slice (some ⟨b, o, none⟩) x.2 (cap - o) :: gv b cap r (o + x.2)
theorem gv_length (b cap : Nat) : ∀ (l : List (UInt8 × Nat)) (o : Nat), (gv b cap l o).length = l.length
  | [], _ => rfl
  | x :: r, o => by rw [gv, List.length_cons, List.length_cons, gv_length b cap r]
theorem gv_snoc (b cap : Nat) (x : UInt8 × Nat) : ∀ (l : List (UInt8 × Nat)) (o : Nat), gv b cap (l ++ [x]) o = gv b cap l o ++ [.slice (some ⟨b, o + totR l, none⟩) x.2 (cap - (o + totR l))]
  | [], o => by simp [gv, totR]
  | y :: r, o => by rw [List.cons_append, gv, gv_snoc b cap x r, gv, totR, List.cons_append, Nat.add_assoc]
theorem totR_snoc (x : UInt8 × Nat) : ∀ (l : List (UInt8 × Nat)), totR (l ++ [x]) = totR l + x.2
  | [] => by simp [totR]
  | y :: r => by rw [List.cons_append, totR, totR_snoc x r, totR]; omega
theorem infoBytes : (Try.prog.info? 29).map (fun i => (i.zero, i.size, i.bytes)) = some (some (.slice none 0 0), 1, 24) := by kernel_rfl
/-- Bytes in a block. -/
def BytesAt (w : World) (b : Nat) (L : List UInt8) : Prop := ∀ (q : Nat) (h : q < L.length), w.cell? ⟨b, q, none⟩ = some (.int .u8 (L[q].toNat : Int))
theorem BytesAt.below {w w' : World} {b B : Nat} {L : List UInt8} (h : BytesAt w b L) (k : Below B w w') (hb : b < B) : BytesAt w' b L :=
  fun q hq => (k.cell (p := ⟨b, q, none⟩) hb).trans (h q hq)
def GrpRet (w : World) (b cap : Nat) (L : List UInt8) (e : Ending) (w' : World) : Prop := Below w.heap.size w w' ∧ ∃ v, e = .returned v ∧ Row w' v (runsOf L).length (gv b cap (runsOf L) 0)
set_option maxRecDepth 100000 in
set_option maxHeartbeats 3200000 in
theorem grouped_any (L : List UInt8) (b n cap : Nat) (w : World) (hn : n = L.length) (hcap : n ≤ cap) (hm : n ≤ 1000000) (hb : b < w.heap.size) (hL : BytesAt w b L) :
    Calls Try.prog 86 #[.slice (some ⟨b, 0, none⟩) n cap] w (GrpRet w b cap L) := by
  obtain ⟨i0, hi, hz0, hz1', hz2'⟩ := info_parts infoBytes
  have HL := Lib.hid hL; clear hL
  have HN := Lib.hid hn; clear hn
  go_enter Try.func86, Try.ntmps86
  go_wp2_with fail
  go_loopw [3, 4] (fun u i wr => ∃ (p : Nat) (d : List (UInt8 × Nat)), p ≤ n ∧ i = .int .i64 p ∧ runsOf L = d ++ runsOf (L.drop p) ∧ totR d = p ∧ d.length ≤ p ∧ wr.ownsRow w.heap.size 29 1 u d.length (gv b cap d 0) ∧ Below w.heap.size w wr) (fun _ i _ => n - (intOf i).toNat)
  case atStart => exact ⟨0, [], Nat.zero_le _, rfl, by simp, rfl, Nat.le_refl _, World.ownsRow_nil _ _ _ _, Below.refl _ _⟩
  case round =>
    obtain ⟨p, d, hp, rfl, hru, htot, hdl, hown, hbel⟩ := hrel
    obtain ⟨wo, rfl⟩ : ∃ wo : World, wo = wr := ⟨_, rfl⟩
    obtain ⟨a, cp, rfl⟩ := own_slice hown
    have hsz := hbel.size
    have HO := Lib.hid hown; clear hown
    have HB := Lib.hid hbel; clear hbel
    have HRU := Lib.hid hru; clear hru
    have HTOT := Lib.hid htot; clear htot
    by_cases hlt : p < n
    · have hpl : p < L.length := by rw [← HN.out]; exact hlt
      obtain ⟨c, hc⟩ : ∃ c, c = L[p] := ⟨_, rfl⟩
      have cp0 := (HL.out.below HB.out hb) p hpl
      rw [← hc] at cp0
      have hdp : L.drop p = List.replicate (p + 1 - p) c ++ L.drop (p + 1) := by
        rw [show p + 1 - p = 1 by omega, List.drop_eq_getElem_cons hpl, hc]; rfl
      have HDP := Lib.hid hdp; clear hdp
      go_wp2_with fail
      go_loopw [5] (fun i wr => ∃ (k : Nat), p + 1 ≤ k ∧ k ≤ n ∧ i = .int .i64 k ∧ L.drop p = List.replicate (k - p) c ++ L.drop k ∧ Below w.heap.size w wr ∧ wr.ownsRow w.heap.size 29 1 (.slice a d.length cp) d.length (gv b cap d 0)) (fun i _ => n - (intOf i).toNat)
      case atStart => exact ⟨p + 1, Nat.le_refl _, hlt, by go_num, HDP.out, HB.out, HO.out⟩
      case round =>
        obtain ⟨k, hk1, hk2, rfl, hdk, hbel, hown⟩ := hrel
        have HDK := Lib.hid hdk; clear hdk
        have hcp := (HL.out.below hbel hb) p hpl
        rw [← hc] at hcp
        clear cp0
        have hLr := HL.out.below hbel hb
        have hszr := hbel.size
        have hbw : b < wr.heap.size := by omega
        have HLR := Lib.hid hLr; clear hLr
        have HOR := Lib.hid hown; clear hown
        have HBR := Lib.hid hbel; clear hbel
        have HC := Lib.hid hc; clear hc
        by_cases hkn : k < n
        · have hkl : k < L.length := by rw [← HN.out]; exact hkn
          have ck := HLR.out k hkl
          have hd1 : decide ((k : Int) < (n : Int)) = true := by simpa using hkn
          by_cases hcc : L[k] = c
          · rw [hcc] at ck
            have hcb : ((c.toNat : Int) == (c.toNat : Int)) = true := by simp
            have hnew : L.drop p = List.replicate (k + 1 - p) c ++ L.drop (k + 1) := by
              rw [HDK.out, List.drop_eq_getElem_cons hkl, hcc, show k + 1 - p = (k - p) + 1 by omega, List.replicate_succ', List.append_assoc]; rfl
            have HNW := Lib.hid hnew; clear hnew hcc
            go_wp2_with fail
            go_quiet (fail)
            go_wp2_with fail
            go_roundw
            case rel => exact ⟨k + 1, by omega, by omega, by go_num, HNW.out, below_drewN HBR.out _, HOR.out⟩
            case measure => simp [intOf]; omega
          · have hcb : ((L[k].toNat : Int) == (c.toNat : Int)) = false := by
              rw [beq_eq_false_iff_ne]; intro h; exact hcc (UInt8.toNat_inj.1 (by omega))
            have hh : (L.drop k).head? ≠ some c := by
              rw [List.drop_eq_getElem_cons hkl]; intro h; exact hcc (Option.some.inj h)
            have hrep := runsOf_rep hh (k - p - 1)
            have hnr : runsOf L = (d ++ [(c, k - p)]) ++ runsOf (L.drop k) := by
              rw [show k - p - 1 + 1 = k - p by omega, ← HDK.out] at hrep
              rw [HRU.out, hrep, List.append_assoc]; rfl
            have hgs := gv_snoc b cap (c, k - p) d 0
            have hts := totR_snoc (c, k - p) d
            rw [HTOT.out] at hts
            rw [HTOT.out, Nat.zero_add] at hgs
            have hlen : (d ++ [(c, k - p)]).length = d.length + 1 := by simp
            have HNR := Lib.hid hnr; clear hnr hrep hh
            have HGS := Lib.hid hgs; clear hgs
            have HTS := Lib.hid hts; clear hts
            have HLEN := Lib.hid hlen; clear hlen
            go_wp2_with fail
            go_quiet (fail)
            have hod : (wr.drewN nq).ownsRow w.heap.size 29 1 (.slice a d.length cp) d.length (gv b cap d 0) := HOR.out
            have HOD := Lib.hid hod; clear hod
            go_wp2_with (at_builtin; refine wpList_append_lies _ rfl (.tmp 29) (.tmp 34) 109 rfl w.heap.size 29 i0 _ 1 24 Try.underlying109 hi hz0 hz1' hz2' rfl (by decide) _ _ _ rfl (HOD.out.alloc _) _ 1 1 [.slice (some ⟨b, p, none⟩) (k - p) (cap - p)] rfl rfl (World.news_of_block (heap_alloc_new _ _)) (by simp [Value.oneCell']) (by omega) (by unfold maxLen; omega) (by omega) (by first | (simp; omega) | (rw [World.size_alloc]; show w.heap.size ≤ wr.heap.size + 1; omega)) _ rfl ?_; intro g cap' w3 hown' hg hat hlt'; have HG := Lib.hid hg; clear hg; have HO4 := Lib.hid hown'; clear hown'; have HAT := Lib.hid hat; clear hat)
            go_roundw
            case rel => exact ⟨k, d ++ [(c, k - p)], hk2, by go_num, HNR.out, by rw [HTS.out]; show p + (k - p) = k; omega, by rw [HLEN.out]; omega, by rw [HLEN.out, HGS.out]; exact HO4.out, ((below_drewN HBR.out _).alloc (by simp; omega) _).grown HG.out (by simp; omega) (fun j hj => (HOR.out.lt j hj).1)⟩
            case measure => simp [intOf]; omega
        · have hd1 : decide ((k : Int) < (n : Int)) = false := by simpa using hkn
          have hh : (L.drop k).head? ≠ some c := by
            rw [List.drop_of_length_le (by rw [← HN.out]; omega)]; simp
          have hrep := runsOf_rep hh (k - p - 1)
          have hnr : runsOf L = (d ++ [(c, k - p)]) ++ runsOf (L.drop k) := by
            rw [show k - p - 1 + 1 = k - p by omega, ← HDK.out] at hrep
            rw [HRU.out, hrep, List.append_assoc]; rfl
          have hgs := gv_snoc b cap (c, k - p) d 0
          have hts := totR_snoc (c, k - p) d
          rw [HTOT.out] at hts
          rw [HTOT.out, Nat.zero_add] at hgs
          have hlen : (d ++ [(c, k - p)]).length = d.length + 1 := by simp
          have HNR := Lib.hid hnr; clear hnr hrep hh
          have HGS := Lib.hid hgs; clear hgs
          have HTS := Lib.hid hts; clear hts
          have HLEN := Lib.hid hlen; clear hlen
          go_wp2_with fail
          go_quiet (fail)
          have hod : (wr.drewN nq).ownsRow w.heap.size 29 1 (.slice a d.length cp) d.length (gv b cap d 0) := HOR.out
          have HOD := Lib.hid hod; clear hod
          go_wp2_with (at_builtin; refine wpList_append_lies _ rfl (.tmp 29) (.tmp 34) 109 rfl w.heap.size 29 i0 _ 1 24 Try.underlying109 hi hz0 hz1' hz2' rfl (by decide) _ _ _ rfl (HOD.out.alloc _) _ 1 1 [.slice (some ⟨b, p, none⟩) (k - p) (cap - p)] rfl rfl (World.news_of_block (heap_alloc_new _ _)) (by simp [Value.oneCell']) (by omega) (by unfold maxLen; omega) (by omega) (by first | (simp; omega) | (rw [World.size_alloc]; show w.heap.size ≤ wr.heap.size + 1; omega)) _ rfl ?_; intro g cap' w3 hown' hg hat hlt'; have HG := Lib.hid hg; clear hg; have HO4 := Lib.hid hown'; clear hown'; have HAT := Lib.hid hat; clear hat)
          go_roundw
          case rel => exact ⟨k, d ++ [(c, k - p)], hk2, by go_num, HNR.out, by rw [HTS.out]; show p + (k - p) = k; omega, by rw [HLEN.out]; omega, by rw [HLEN.out, HGS.out]; exact HO4.out, ((below_drewN HBR.out _).alloc (by simp; omega) _).grown HG.out (by simp; omega) (fun j hj => (HOR.out.lt j hj).1)⟩
          case measure => simp [intOf]; omega
    · have hpn : p = n := by omega
      have hrun : runsOf L = d := by rw [HRU.out, List.drop_of_length_le (by rw [← HN.out]; omega)]; simp [runsOf]
      have HRN := Lib.hid hrun; clear hrun
      have hrow := own_row HO.out
      have HROW := Lib.hid hrow; clear hrow
      go_wp2_with fail
      go_ret
      exact ⟨HB.out, _, rfl, by rw [HRN.out]; exact HROW.out⟩
end Go.Proofs.Ytadibbbaegbljaa
