/- strings.Builder: WriteByte at a builder that the call owns. -/
import Derived.Lib.Builder
import Derived.Lib.OthersKept
import Derived.Deep.AppendLies
import Derived.Test.YtalipfnbpnkgnaaGreatCheck
import Derived.Test.YtalipfnbpnkgnaaGreatPart10
namespace Go.Proofs.YtalipfnbpnkgnaaGreat
open Go.RowKit

theorem bldInfo : (Tryz.prog.info? 79).map (fun i => i.size) = some 2 := by kernel_rfl
theorem bldLies : liesAt Tryz.prog Tryz.prog.depth 79 (2 / Tryz.prog.cellsOf 79) 0 79 1 = true := by kernel_rfl
theorem bldPtr : Tryz.prog.underlying 76 = some (.pointer 79) := by kernel_rfl
theorem bldUns : Tryz.prog.underlying 145 = some .unsafePointer := by kernel_rfl
theorem infoByte : (Tryz.prog.info? 5).map (fun i => (i.zero, i.size, i.bytes)) = some (some (.int .u8 0), 1, 1) := by kernel_rfl
set_option maxRecDepth 100000 in
set_option maxHeartbeats 3200000 in
theorem ccheck_used (b : Nat) (w : World) (h0 : w.cell? ⟨b, 0, none⟩ = some (.pointer (some ⟨b, 0, none⟩))) :
    Calls Tryz.prog 84 #[.pointer (some ⟨b, 0, none⟩)] w fun e w' => e = .returned (.tuple #[]) ∧ w' = w := by
  obtain ⟨j, hj, -⟩ := Option.map_eq_some_iff.1 bldInfo
  go_enter Tryz.func84, Tryz.ntmps84
  go_wp2_with fail
  rw [Lib.run_neq_ptr_same w _ bldPtr hj]
  go_wp2_with fail
  go_end0
  exact ⟨rfl, rfl⟩
set_option maxRecDepth 100000 in
set_option maxHeartbeats 3200000 in
theorem ccheck_fresh (b : Nat) (w : World) (h0 : w.cell? ⟨b, 0, none⟩ = some (.pointer none)) (hsh : w.shape? b = some (79, 2)) (hfz : w.frozen? ⟨b, 0, none⟩ = false) :
    Calls Tryz.prog 84 #[.pointer (some ⟨b, 0, none⟩)] w fun e w' => e = .returned (.tuple #[]) ∧ w' = w.setCell ⟨b, 0, none⟩ (.pointer (some ⟨b, 0, none⟩)) := by
  obtain ⟨j, hj, hjs⟩ := Option.map_eq_some_iff.1 bldInfo
  go_enter Tryz.func84, Tryz.ntmps84
  go_wp2_with fail
  rw [Lib.run_to_unsafe w ⟨b, 0, none⟩ bldPtr bldUns hj (by rw [hjs]; decide) hsh (Nat.zero_lt_succ 1)]
  simp only [Result.andThen]
  rw [Oper.upon_value]
  go_wp2_with fail
  rw [run_callFunc_extern Tryz.func115 (by kernel_rfl) (by kernel_rfl) (by kernel_rfl) (e := Extern.AbiNoEscape.same) (by kernel_rfl)]
  rw [Lib.run_noEscape]
  simp only [Result.andThen]
  rw [Oper.upon_value]
  go_wp2_with fail
  rw [Lib.run_from_unsafe w ⟨b, 0, none⟩ bldUns bldPtr hj hsh bldLies]
  simp only [Result.andThen]
  rw [Oper.upon_value]
  go_wp2_with fail
  go_end0
  exact ⟨rfl, rfl⟩
abbrev BT : TypeId := 79
theorem ccheck_any (B b : Nat) (bs : List Value) (w : World) (h : Lib.IsBuilder 79 5 B b bs w) :
    Calls Tryz.prog 84 #[.pointer (some ⟨b, 0, none⟩)] w fun e w' => e = .returned (.tuple #[]) ∧ Lib.BuilderAt 79 5 B b (.pointer (some ⟨b, 0, none⟩)) bs w' ∧ Below B w w' ∧ Lib.OthersKept 5 (some b) w w' := by
  rcases h with h | h
  · refine (ccheck_fresh b w h.cell0 h.shape h.frozen0).mono ?_
    rintro e w' ⟨rfl, rfl⟩
    exact ⟨rfl, h.used _, (Below.refl B w).setCell (p := ⟨b, 0, none⟩) h.1 _, (Lib.OthersKept.refl _ _ w).setCell ⟨b, 0, none⟩ rfl _⟩
  · refine (ccheck_used b w h.cell0).mono ?_
    rintro e w' ⟨rfl, rfl⟩
    exact ⟨rfl, h, Below.refl B _, Lib.OthersKept.refl _ _ _⟩
set_option maxRecDepth 100000 in
set_option maxHeartbeats 3200000 in
theorem wbyte_any (B b : Nat) (bs : List Value) (c : Int) (w : World) (h : Lib.IsBuilder 79 5 B b bs w) (hlen : bs.length ≤ 1000000000) (hBw : B ≤ w.heap.size) :
    Calls Tryz.prog 82 #[.pointer (some ⟨b, 0, none⟩), .int .u8 c] w fun e w' => e = .returned .nilIface ∧ Lib.BuilderAt 79 5 B b (.pointer (some ⟨b, 0, none⟩)) (bs ++ [.int .u8 c]) w' ∧ Below B w w' ∧ Lib.OthersKept 5 (some b) w w' := by
  have hcc := ccheck_any B b bs w h
  obtain ⟨i0, hi, hz0, hz1, hz2⟩ := info_parts infoByte
  have HCC := Lib.hid hcc; clear hcc
  go_enter Tryz.func82, Tryz.ntmps82
  go_wp2_with fail
  refine HCC.out.mono ?_
  rintro e w1 ⟨rfl, ⟨hB, v, hbk, hown, hne⟩, hb1, hk1⟩
  have c0 : w1.cell? ⟨b, 0, none⟩ = some (.pointer (some ⟨b, 0, none⟩)) := by rw [Lib.cell_of_heap hbk]; rfl
  have c1 : w1.cell? ⟨b, 1, none⟩ = some v := by rw [Lib.cell_of_heap hbk]; rfl
  have hlt : b < w1.heap.size := (Array.getElem?_eq_some_iff.1 hbk).1
  have hown1 := hown.alloc (.cells #[.int .u8 c] 5)
  have c1' := (below_new w1 (.cells #[.int .u8 c] 5) hlt 1).trans c1
  have HOWN := Lib.hid hown1; clear hown1
  have hown0 := hown
  have HOWN0 := Lib.hid hown0; clear hown0
  have HB1 := Lib.hid hb1; clear hb1
  have HK1 := Lib.hid hk1; clear hk1
  have HBK := Lib.hid hbk; clear hbk
  clear hown
  go_wp2_with (at_builtin; refine wpList_append_lies _ rfl (.tmp 11) (.tmp 13) 77 rfl B 5 i0 (.int .u8 0) 1 1 Tryz.underlying77 hi hz0 hz1 hz2 rfl (by decide) _ _ _ rfl HOWN.out _ 1 1 [.int .u8 c] rfl rfl (World.news_of_block (heap_alloc_new _ _)) (by simp [Value.oneCell']) (by omega) (by unfold maxLen; omega) (by omega) (by have := HB1.out.size; simp; omega) _ rfl ?_; intro g' cap' w2 hown' hg hat hlt'; have HG := Lib.hid hg; clear hg; have HO4 := Lib.hid hown'; clear hown'; have HAT := Lib.hid hat; clear hat; have hbk2 := (HG.out.block b (by simp; omega) (fun e => hne e.symm)).trans ((Below.heap_alloc w1 (.cells #[.int .u8 c] 5) b hlt).trans HBK.out); have d0 : w2.cell? ⟨b, 0, none⟩ = some (.pointer (some ⟨b, 0, none⟩)) := by {rw [Lib.cell_of_heap hbk2]; rfl}; have d1 : w2.cell? ⟨b, 1, none⟩ = some v := by {rw [Lib.cell_of_heap hbk2]; rfl}; have f1 : w2.frozen? ⟨b, 1, none⟩ = false := Lib.frozen_of_heap hbk2 1; have HBK2 := Lib.hid hbk2; clear hbk2)
  go_ret
  have hb2 : Below B w w2 := (HB1.out.alloc (by have := HB1.out.size; omega) (.cells #[.int .u8 c] 5)).grown HG.out (by have := HB1.out.size; simp; omega) (fun k hk => (HOWN0.out.lt k hk).1)
  refine ⟨rfl, ?_, hb2.setCell (p := ⟨b, 1, none⟩) hB _, ?_⟩
  · exact Lib.BuilderAt.put (T := 79) (e := 5) hB HBK2.out (bs' := bs ++ [.int .u8 c]) (by simpa using HO4.out) (by decide)
  · refine Lib.OthersKept.setCell ((HK1.out.alloc _).grown HG.out (fun g hgo => ?_)) ⟨b, 1, none⟩ rfl _
    rcases HOWN.out.2 with ⟨hv, _⟩ | ⟨g2, c2, cur, hv, _, hgg, _⟩
    · rw [hv] at hgo; cases hgo
    · rw [hv] at hgo
      obtain rfl : g2 = g := Option.some.inj hgo
      exact ⟨_, _, hgg⟩
end Go.Proofs.YtalipfnbpnkgnaaGreat
