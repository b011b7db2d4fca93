/- groovelaw05.SturmKnown is true (printed by gen_lkno.py). -/
import Derived.Test.YtjpalbonclgflaaPart20
import Derived.Test.YtjpalbonclgflaaPMul
import Derived.Test.YtjpalbonclgflaaPart19
import Derived.Test.YtjpalbonclgflaaPart1
namespace Go.Proofs.Ytjpalbonclgflaa
open Go.RowKit

theorem infoRatQ : (Try.prog.info? 35).map (fun i => (i.zero, i.size, i.bytes)) = some (some (.agg #[.bool false, .string ⟨#[]⟩, .bool false, .string ⟨#[]⟩]), 4, 48) := by kernel_rfl
def knR (l : List (Int × Int)) : List (Int × Int) := l.map fun x => (x.1, 1 + x.2 % 4)
theorem and3 : ∀ k : Fin 256, bits BinOp.and IntKind.i64 ((k.val : Int) - 128) 3 = ((k.val : Int) - 128) % 4 := by decide +kernel
theorem and3_i8 {x : Int} (h : -128 ≤ x ∧ x ≤ 127) : bits BinOp.and IntKind.i64 x 3 = x % 4 := by
 have h1 := and3 ⟨(x + 128).toNat, by omega⟩
 have h2 : ((x + 128).toNat : Int) - 128 = x := by omega
 simp only [h2] at h1
 exact h1
theorem half_le {x y : Int} (h : x ≤ y) : Rat.divInt x 2 ≤ Rat.divInt y 2 := by
 rw [Rat.divInt_eq_div, Rat.divInt_eq_div]
 have h1 : (x : Rat) ≤ (y : Rat) := Rat.intCast_le_intCast.2 h
 show (x : Rat) / (2 : Rat) ≤ (y : Rat) / (2 : Rat)
 grind
theorem cmpq_ge {a b : Rat} (h : b ≤ a) : decide (cmpq a b < 0) = false := by
 unfold cmpq
 rw [if_neg (Rat.not_lt.2 h)]
 split <;> decide
theorem cmpq_gt2 {a b : Rat} (h : b < a) : decide (cmpq a b ≤ 0) = false := by
 unfold cmpq
 rw [if_neg (Rat.not_lt.2 (Rat.le_of_lt h)), if_neg (fun e => absurd h (by rw [e]; exact Rat.lt_irrefl))]; decide
def wnt (L : List Rat) (lo hi : Rat) (j : Nat) : Nat := ((L.take j).filter fun r => decide (lo < r) && decide (r ≤ hi)).length
theorem wnt_step {L : List Rat} {lo hi r : Rat} {j : Nat} (h : L[j]? = some r) : wnt L lo hi (j + 1) = wnt L lo hi j + if lo < r ∧ r ≤ hi then 1 else 0 := by
 unfold wnt
 rw [List.take_add_one, h, List.filter_append, List.length_append]
 congr 1
 by_cases h1 : lo < r ∧ r ≤ hi
 ·
  simp [h1]
 ·
  rw [if_neg h1]
  by_cases h2 : lo < r
  ·
   have h3 : ¬ r ≤ hi := fun h3 => h1 ⟨h2, h3⟩
   simp [h3]
  ·
   simp [h2]
theorem wnt_le (L : List Rat) (lo hi : Rat) (j : Nat) : wnt L lo hi j ≤ j := by
 unfold wnt
 exact Nat.le_trans (List.length_filter_le _ _) (by rw [List.length_take]; omega)
theorem knM_le : ∀ {n : Nat}, n ≤ 5 → T.knM n ≤ 21 := fun {n} hn => by
 rcases n with _ | _ | _ | _ | _ | _ | n <;> first | decide | omega
set_option maxRecDepth 100000 in
set_option maxHeartbeats 12800000 in
theorem lknown_true (l : List (Int × Int)) (v : Value) (a b : Int) (w : World) (hr : Row w v l.length (cpr l)) (hb : ∀ x ∈ l, (-128 ≤ x.1 ∧ x.1 ≤ 127) ∧ -128 ≤ x.2 ∧ x.2 ≤ 127) (ha1 : -128 ≤ a) (ha2 : a ≤ 127) (hb1 : -128 ≤ b) (hb2 : b ≤ 127) :
  Calls Try.prog 3 #[v, .int .i8 a, .int .i8 b] w (Ret w (.bool true)) := by
 obtain ⟨va, vc, rfl, hle⟩ := hr.slice
 obtain ⟨n, hn⟩ : ∃ n, n = l.length := ⟨_, rfl⟩
 rw [← hn] at hr ⊢
 by_cases h5 : 5 < n
 ·
  have h5d : decide (5 < (n : Int)) = true := decide_eq_true (by omega)
  clear hr hb hn
  go_enter Try.func3, Try.ntmps3
  go_wp2_with fail
  refine (awake5_true _).mono ?_
  rintro e wx ⟨hq, rfl⟩
  dsimp only
  have sx := hq
  have SX := zh sx; clear sx
  clear hq
  go_wp2_with fail
  go_ret
  exact ⟨SX.out, rfl⟩
 have h5d : decide (5 < (n : Int)) = false := decide_eq_false (by omega)
 have hbR : ∀ y ∈ knR l, -128 ≤ y.1 ∧ y.1 ≤ 127 ∧ 0 < y.2 ∧ y.2 ≤ 4 := fun y hy => by
  obtain ⟨z, hz, rfl⟩ := List.mem_map.1 hy
  have := hb z hz
  dsimp only
  omega
 have hlR : (knR l).length = n := by rw [hn]; simp [knR]
 have hkn := fun k => T.kn_ok ((knR l).take k) (fun y hy => hbR y (List.mem_of_mem_take hy))
 have hpo0 := poly_any [1] (.slice (some ⟨w.heap.size, 0, none⟩) 1 1) (w.alloc (.cells #[.int .i64 1] 3)) (Row.ofBlk (Blk.new w 3 [.int .i64 1]) (m := 1) (cap := 1) (Nat.le_refl _) (by unfold maxLen; omega) 1) (by decide) (by simp)
 unfold PolyRet at hpo0
 have hal0 : Below w.heap.size w (w.alloc (.cells #[.int .i64 1] 3)) := (Below.refl _ _).alloc (Nat.le_refl _) _
 obtain ⟨i0, hi0, hz0, hz1', hz2'⟩ := info_parts infoRatQ
 have HPO0 := zh hpo0; clear hpo0
 have HAL0 := zh hal0; clear hal0
 have HR := zh hr; clear hr
 have HN := zh hn; clear hn
 have HBD := zh hb; clear hb
 have HBR := zh hbR; clear hbR
 have HLR := zh hlR; clear hlR
 have HKN := zh hkn; clear hkn
 go_enter Try.func3, Try.ntmps3
 go_wp2_with fail
 refine (HPO0.out).mono ?_
 rintro e0 w1 ⟨hq, v1, rfl, hv1⟩
 dsimp only
 have s1 := HAL0.out.trans (hq.mono HAL0.out.size)
 replace hv1 : Row w1 v1 1 (civ [1]) := hv1
 obtain ⟨a1, c1, rfl, -⟩ := hv1.slice
 have S1 := zh s1; clear s1
 have HV1 := zh hv1; clear hv1
 clear hq HPO0 HAL0
 go_wp2_with fail
 go_loopw [7, 8, 10, 11, 12, 13, 14, 15, 33] (fun vp u _ _ _ _ _ _ i wr => ∃ k : Nat, k ≤ n ∧ i = .int .i64 k ∧ Row wr vp (T.knP ((knR l).take k)).length (civ (T.knP ((knR l).take k))) ∧ wr.ownsRow w.heap.size 35 4 u (T.knL ((knR l).take k)).length (crq (T.knL ((knR l).take k))) ∧ Below w.heap.size w wr) (fun _ _ _ _ _ _ _ _ i _ => n - (intOf i).toNat)
 case atStart => exact ⟨0, Nat.zero_le _, rfl, HV1.out, World.ownsRow_nil _ _ _ _, S1.out⟩
 case round =>
  clear HV1 S1
  obtain ⟨k, hk, rfl, hp, hown, tl⟩ := hrel
  obtain ⟨wo, rfl⟩ : ∃ wo : World, wo = wr := ⟨_, rfl⟩
  have K := HKN.out k
  have hsz : w.heap.size ≤ wo.heap.size := tl.size
  obtain ⟨ua, uc, rfl⟩ := own_slice hown
  obtain ⟨pa, pc, rfl, -⟩ := hp.slice
  by_cases hkn : k < n
  ·
   have hkl : k < l.length := by have := HN.out; omega
   have hget : l[k]? = some (l[k]'hkl) := List.getElem?_eq_getElem _
   obtain ⟨xx, hxx⟩ : ∃ xx, xx = l[k]'hkl := ⟨_, rfl⟩
   have hbx := HBD.out _ (List.getElem_mem hkl)
   rw [← hxx] at hget hbx
   obtain ⟨nx, mx⟩ := xx
   dsimp only at hbx
   have hgR : (knR l)[k]? = some (nx, 1 + mx % 4) := by unfold knR; rw [List.getElem?_map, hget]; rfl
   have htk : (knR l).take (k + 1) = (knR l).take k ++ [(nx, 1 + mx % 4)] := by rw [List.take_add_one, hgR]; rfl
   have hpn : T.knP ((knR l).take (k + 1)) = mulL (T.knP ((knR l).take k)) [-nx, 1 + mx % 4] := by rw [htk, T.knP_snoc]; rfl
   have hln : T.knL ((knR l).take (k + 1)) = if Rat.divInt nx (1 + mx % 4) ∈ T.knL ((knR l).take k) then T.knL ((knR l).take k) else T.knL ((knR l).take k) ++ [Rat.divInt nx (1 + mx % 4)] := by rw [htk, T.knL_snoc]
   obtain ⟨b1, o1, rfl, hb1, hbc⟩ := HR.out.at_ (by omega)
   have hcg := cpr_get hget
   have p0 := (tl.cell (p := ⟨b1, o1 + k * 2, none⟩) hb1).trans (hbc _ _ hcg.1)
   have p1 := (tl.cell (p := ⟨b1, o1 + k * 2 + 1, none⟩) hb1).trans (hbc _ _ hcg.2)
   have hand := and3_i8 hbx.2
   obtain ⟨dd, hdd⟩ : ∃ d, d = mx % 4 := ⟨_, rfl⟩
   rw [← hdd] at hand hpn hln
   have hdb : 0 ≤ dd ∧ dd ≤ 3 := by omega
   obtain ⟨d, hd⟩ : ∃ d, d = 1 + dd := ⟨_, rfl⟩
   rw [← hd] at hpn hln
   have hdr : 1 ≤ d ∧ d ≤ 4 := by omega
   have hw1 : IntKind.i64.wrap nx = nx := IntWalk.i64_in _ (by omega)
   have hw2 : IntKind.i64.wrap mx = mx := IntWalk.i64_in _ (by omega)
   have hw3 : IntKind.i64.wrap (1 + dd) = d := by rw [← hd]; exact IntWalk.i64_in _ (by omega)
   have hw4 : IntKind.i64.wrap (-nx) = -nx := IntWalk.i64_in _ (by omega)
   have hend := T.linP_ends (x := (nx, d)) (by show 0 < d; omega)
   have hlen5 := K.len
   rw [List.length_take, HLR.out] at hlen5
   have hle5 := K.le
   rw [List.length_take, HLR.out] at hle5
   have hszk := K.sz
   rw [List.length_take, HLR.out] at hszk
   have hkM := knM_le (n := min k n) (by omega)
   have hpo := fun (vz : Value) (wz : World) h => poly_any [-nx, d] vz wz h (by simp) (by simp; omega)
   unfold PolyRet at hpo
   have hmu := fun vq w' h1 h2 => pMul_fresh (T.knP ((knR l).take k)) [-nx, d] (.slice pa (T.knP ((knR l).take k)).length pc) vq w' (T.knM (min k n)) 1 h1 h2 (by omega) (by simp) K.pos (by simp) hszk (fun z hz => by
    simp at hz
    show z.natAbs < 256 ^ 1
    omega) (by omega) K.ends hend
   unfold PolRetEF at hmu
   rw [← hpn] at hmu
   have hra := fun w' => lratio_any nx d w' (by omega) (by omega) (by omega) (by omega) (by omega)
   obtain ⟨q, hq⟩ : ∃ q, q = Rat.divInt nx d := ⟨_, rfl⟩
   rw [← hq] at hra hln
   have hcn := fun w' h => contR_any (T.knL ((knR l).take k)) (.slice ua (T.knL ((knR l).take k)).length uc) q w' h
   obtain ⟨P, hP⟩ : ∃ P, P = T.knP ((knR l).take k) := ⟨_, rfl⟩
   obtain ⟨P', hP'⟩ : ∃ P, P = T.knP ((knR l).take (k + 1)) := ⟨_, rfl⟩
   obtain ⟨L, hL⟩ : ∃ L, L = T.knL ((knR l).take k) := ⟨_, rfl⟩
   obtain ⟨L', hL'⟩ : ∃ L, L = T.knL ((knR l).take (k + 1)) := ⟨_, rfl⟩
   rw [← hL', ← hL] at hln
   simp only [← hL] at hcn
   rw [← hL] at hown hle5 ⊢
   rw [← hP'] at hmu
   simp only [← hP] at hmu
   rw [← hP] at hp hlen5 ⊢
   have hix1 : (0 : Int) ≤ (k : Int) := by omega
   have hix2 : (k : Int) < (n : Int) := by omega
   have HPO := zh hpo; clear hpo
   have HMU := zh hmu; clear hmu
   have HRA := zh hra; clear hra
   have HCN := zh hcn; clear hcn
   have HLN := zh hln; clear hln
   have HPE := zh hP'; clear hP'
   have HLE := zh hL'; clear hL'
   have HP := zh hp; clear hp
   have HO := zh hown; clear hown
   have HBL := zh tl; clear tl
   clear hget hxx hgR htk hpn hcg hbc K hdd hd hend hszk hq hP hL hkl
   have hal : Below wo.heap.size wo (wo.alloc (.cells #[.int .i8 nx, .int .i8 mx] 28)) := (Below.refl _ _).alloc (Nat.le_refl _) _
   have k_x : Blk (wo.alloc (.cells #[.int .i8 nx, .int .i8 mx] 28)) wo.heap.size 28 [.int .i8 nx, .int .i8 mx] := Blk.new wo _ _
   obtain ⟨bx, hbxe⟩ : ∃ b, b = wo.heap.size := ⟨_, rfl⟩
   rw [← hbxe] at k_x
   have hp2 := HP.out.below hal (Nat.le_refl _)
   have ho2 := own_below HO.out hal
   have tl := HBL.out.trans (hal.mono HBL.out.size)
   obtain ⟨wE, hwE⟩ : ∃ w, w = wo.alloc (.cells #[.int .i8 nx, .int .i8 mx] 28) := ⟨_, rfl⟩
   rw [← hwE] at k_x hp2 ho2 tl
   have x0 := k_x.c 0 rfl
   have x1 := k_x.c 1 rfl
   clear HP HO HBL hal
   have HX := zh k_x; clear k_x
   have HP := zh hp2; clear hp2
   have HO := zh ho2; clear ho2
   have HBL := zh tl; clear tl
   go_wp2_with fail
   (try rw [← hwE])
   (try rw [← hbxe])
   clear hwE
   have HBXE := zh hbxe; clear hbxe
   have HBLE := zh HBL.out
   have HX := zh HX.out.drew
   have HBL := zh HBL.out.drew
   refine wp_region_held_drew (S := fun w' => w'.cell? ⟨bx, 0, none⟩ = some (.int .i8 nx) ∧ w'.cell? ⟨bx, 1, none⟩ = some (.int .i8 mx)) (by kernel_rfl) ?_ (fun hHeld0 => ?_)
   ·
    go_keep
   refine zT 0 (h := ?_)
   (try simp only [Act.put, zA, zB, zC])
   refine zT 1 (h := ?_)
   (try simp only [Act.put, zA, zB, zC])
   refine zT 2 (h := ?_)
   (try simp only [Act.put, zA, zB, zC])
   refine zT 3 (h := ?_)
   (try simp only [Act.put, zA, zB, zC])
   refine zT 4 (h := ?_)
   (try simp only [Act.put, zA, zB, zC])
   refine zT 5 (h := ?_)
   (try simp only [Act.put, zA, zB, zC])
   refine zT 6 (h := ?_)
   (try simp only [Act.put, zA, zB, zC])
   refine zT 7 (h := ?_)
   (try simp only [Act.put, zA, zB, zC])
   refine zT 8 (h := ?_)
   (try simp only [Act.put, zA, zB, zC])
   refine zT 9 (h := ?_)
   (try simp only [Act.put, zA, zB, zC])
   refine wpAnyH_done (by kernel_rfl) ?_ _
   (try simp only [List.getElem_toArray, List.getElem_cons_zero, List.getElem_cons_succ, Act.put, zA, zB, zC])
   have hrow := Row.ofBlk (Blk.new wE 3 [.int .i64 (-nx), .int .i64 d]).drew (m := 2) (cap := 2) (Nat.le_refl _) (by unfold maxLen; omega) 2
   have hpo := HPO.out _ _ hrow
   have hal : Below wE.heap.size wE (wE.alloc (.cells #[.int .i64 (-nx), .int .i64 d] 3)).drew := ((Below.refl _ _).alloc (Nat.le_refl _) _).drew
   have hblE := HBLE.out
   have HPO1 := zh hpo; clear hpo
   have HAL := zh hal; clear hal
   clear hrow HBL
   have HBL := zh hblE; clear hblE
   go_wp2_with fail
   refine (HPO1.out).mono ?_
   rintro e1 w2 ⟨hq, vq, rfl, hvq⟩
   dsimp only
   have s2 := HAL.out.trans (hq.mono HAL.out.size)
   have hp2 := HP.out.below s2 (Nat.le_refl _)
   have ho2 := own_below HO.out s2
   have tl := HBL.out.trans (s2.mono HBL.out.size)
   have hmu := HMU.out vq _ hp2 hvq
   clear HP HO HBL hq s2 HAL HPO1 HX
   have HO := zh ho2; clear ho2
   have HBL := zh tl; clear tl
   have HMU1 := zh hmu; clear hmu
   go_wp2_with fail
   refine (HMU1.out).mono ?_
   rintro e2 w3 ⟨hq, vp, rfl, hvp, hfr⟩
   dsimp only
   have ho3 := own_below HO.out hq
   have tl := HBL.out.trans (hq.mono HBL.out.size)
   obtain ⟨D, hD⟩ : ∃ D, D = w2.heap.size := ⟨_, rfl⟩
   have hgD : ∀ g, (Value.slice ua L.length uc).ownBlock = some g → g < D := fun g hg => by rw [hD]; exact (HO.out.lt g hg).2
   have hfr : ∀ b, vp.ownBlock = some b → D ≤ b := fun b hb => by rw [hD]; exact hfr b hb
   have hD3 : D ≤ w3.heap.size := by rw [hD]; exact hq.size
   clear HO HBL hq HMU1 hD
   have HD3 := zh hD3; clear hD3
   have HO := zh ho3; clear ho3
   have HBL := zh tl; clear tl
   have HVP := zh hvp; clear hvp
   have HFR := zh hfr; clear hfr
   have HGD := zh hgD; clear hgD
   go_wp2_with fail
   refine (HRA.out _).mono ?_
   rintro e3 w4 ⟨hq, rfl⟩
   dsimp only
   have ho4 := own_below HO.out hq
   have tl := HBL.out.trans (hq.mono HBL.out.size)
   have hvp := HVP.out.below hq (Nat.le_refl _)
   have hD4 : D ≤ w4.heap.size := Nat.le_trans HD3.out hq.size
   clear HO HBL HVP hq
   have HO := zh ho4; clear ho4
   have HBL := zh tl; clear tl
   have HVP := zh hvp; clear hvp
   have HD4 := zh hD4; clear hD4
   have hal : Below w4.heap.size w4 (w4.alloc (.cells #[.bool (ineg q.num), .string (imag q.num), .bool (ineg (q.den : Int)), .string (imag (q.den : Int))] 35)) := (Below.refl _ _).alloc (Nat.le_refl _) _
   have k_q : Blk (w4.alloc (.cells #[.bool (ineg q.num), .string (imag q.num), .bool (ineg (q.den : Int)), .string (imag (q.den : Int))] 35)) w4.heap.size 35 [.bool (ineg q.num), .string (imag q.num), .bool (ineg (q.den : Int)), .string (imag (q.den : Int))] := Blk.new w4 _ _
   have ho5 := own_below HO.out hal
   have hvp := HVP.out.below hal (Nat.le_refl _)
   have tl := HBL.out.trans (hal.mono HBL.out.size)
   have hD4 : D ≤ w4.heap.size := HD4.out
   have hcn := HCN.out _ (own_row ho5)
   obtain ⟨bq, hbqe⟩ : ∃ b, b = w4.heap.size := ⟨_, rfl⟩
   rw [← hbqe] at k_q
   clear HO HBL HVP hal
   have HO := zh ho5; clear ho5
   have HBL := zh tl; clear tl
   have HVP := zh hvp; clear hvp
   have HCN1 := zh hcn; clear hcn
   have HQ := zh k_q; clear k_q
   have HD5 := zh hD4; clear hD4
   go_wp2_with fail
   (try rw [← hbqe])
   have HBQE := zh hbqe; clear hbqe
   refine (HCN1.out).mono ?_
   rintro e4 w5 ⟨hq, rfl⟩
   dsimp only
   have ho6 := own_below HO.out hq
   have tl := HBL.out.trans (hq.mono HBL.out.size)
   have hvp := HVP.out.below hq (Nat.le_refl _)
   have k_q := HQ.out.keep hq
   have hsz5 : w.heap.size ≤ w5.heap.size := tl.size
   clear HO HBL HVP hq HQ HCN1
   have c0 := k_q.c 0 rfl
   have c1 := k_q.c 1 rfl
   have c2 := k_q.c 2 rfl
   have c3 := k_q.c 3 rfl
   have HO := zh ho6; clear ho6
   have HBL := zh tl; clear tl
   have HVP := zh hvp; clear hvp
   have HQ := zh k_q; clear k_q
   by_cases hin : q ∈ L
   ·
    have hd9 : decide (q ∈ L) = true := decide_eq_true hin
    have hLL := HLN.out
    rw [if_pos hin] at hLL
    have HLL := zh hLL; clear hLL
    rw [hd9]
    clear hin hd9
    go_wp2_with fail
    go_roundw
    case rel =>
     refine ⟨k + 1, by omega, by go_num, ?_, ?_, HBL.out⟩
     ·
      rw [← HPE.out]; exact HVP.out
     ·
      rw [← HLE.out, HLL.out]; exact HO.out
    case measure => simp [intOf]; omega
   ·
    have hd9 : decide (q ∈ L) = false := decide_eq_false hin
    have hLL := HLN.out
    rw [if_neg hin] at hLL
    have hz2 : crq L' = crq L ++ [.bool (ineg q.num), .string (imag q.num), .bool (ineg (q.den : Int)), .string (imag (q.den : Int))] := by rw [hLL, crq_snoc]; rfl
    have hl2 : L'.length = L.length + 1 := by rw [hLL]; simp
    have HZ2 := zh hz2; clear hz2
    have HL2 := zh hl2; clear hl2
    rw [hd9]
    clear hin hd9 hLL
    go_wp2_with (at_builtin; refine wpList_append_lies _ rfl (.tmp 65) (.tmp 67) 27 rfl w.heap.size 35 i0 _ 4 48 Try.underlying27 hi0 hz0 hz1' hz2' rfl (by decide) _ _ _ rfl (HO.out.alloc _) _ 1 1 [.bool (ineg q.num), .string (imag q.num), .bool (ineg (q.den : Int)), .string (imag (q.den : Int))] rfl rfl (World.news_of_block (heap_alloc_new _ _)) (by simp [Value.oneCell']) (by omega) (by unfold maxLen; omega) (by omega) (by simp; omega) _ rfl ?_; intro g cap' w6 hown' hg hat hlt'; have HG := zh hg; clear hg; have HO4 := zh hown'; clear hown'; have HAT := zh hat; clear hat)
    go_roundw
    case rel =>
     refine ⟨k + 1, by omega, by go_num, ?_, ?_, (HBL.out.alloc hsz5 _).grown HG.out (by simp; omega) (fun j hj => (HO.out.lt j hj).1)⟩
     ·
      rw [← HPE.out]
      exact Row.far (Only.grown (c := fun b _ => b < D) HG.out (fun g o hr _ => HGD.out g hr)) (fun b o h => h) (HVP.out.below ((Below.refl _ _).alloc (Nat.le_refl _) _) (Nat.le_refl _)) HFR.out
     ·
      rw [← HLE.out, HZ2.out, HL2.out]; exact HO4.out
    case measure => simp [intOf]; omega
  ·
   obtain rfl : k = n := by omega
   have htn : (knR l).take k = knR l := List.take_of_length_le (by rw [HLR.out]; exact Nat.le_refl _)
   rw [htn] at K hp hown ⊢
   have hkc : (knR l).length ≤ 5 := by rw [HLR.out]; omega
   obtain ⟨lo, hlo⟩ : ∃ q, q = Rat.divInt (min a b) 2 := ⟨_, rfl⟩
   obtain ⟨hh, hhi⟩ : ∃ q, q = Rat.divInt (max a b) 2 := ⟨_, rfl⟩
   have hlh : lo ≤ hh := by rw [hlo, hhi]; exact half_le (by omega)
   have hlz : rs 1 lo := by rw [hlo]; exact divInt_sized (by show (min a b).natAbs < 256 ^ 1; omega) (zs_nat 2 1 (by decide)) (by decide)
   have hhz : rs 1 hh := by rw [hhi]; exact divInt_sized (by show (max a b).natAbs < 256 ^ 1; omega) (zs_nat 2 1 (by decide)) (by decide)
   have hrr : ∀ r ∈ T.knL (knR l), rs 1 r := fun r hr => by
    obtain ⟨y, hy, e⟩ := K.mem r hr
    have hb9 := HBR.out y hy
    rw [e]
    refine divInt_sized ?_ ?_ (by decide)
    ·
     show y.1.natAbs < 256 ^ 1; omega
    ·
     show y.2.natAbs < 256 ^ 1; omega
   have hra := fun w' => lratio_any (min a b) 2 w' (by omega) (by omega) (by decide) (by decide) (by decide)
   have hrb := fun w' => lratio_any (max a b) 2 w' (by omega) (by omega) (by decide) (by decide) (by decide)
   rw [← hlo] at hra
   rw [← hhi] at hrb
   have hfin := T.kn_fine HBR.out hkc
   have hKC := T.known_count HBR.out hkc hlh
   have hKR := T.known_roots HBR.out hkc
   have hct := fun v' w' h => count_ok (T.knP (knR l)) v' lo hh w' 40000000 1 h hfin (by decide) hlz hhz hlh
   have hrt := fun v' w' h => sRoots_any (T.knP (knR l)) v' w' 40000000 h hfin
   have hqe : Rat.divInt (bnd (T.knP (knR l)) : Int) 1 = (bnd (T.knP (knR l)) : Rat) := by rw [T.divInt_one, Rat.intCast_natCast]
   have hnn : (chg (stmA (T.knP (knR l))) (-(Rat.divInt (bnd (T.knP (knR l)) : Int) 1)) : Int) - (chg (stmA (T.knP (knR l))) (Rat.divInt (bnd (T.knP (knR l)) : Int) 1) : Int) = ((T.knL (knR l)).length : Int) := by
    rw [hqe]; exact hKR
   rw [hnn] at hrt
   have hle5 := K.le
   rw [HLR.out] at hle5
   obtain ⟨P, hP⟩ : ∃ P, P = T.knP (knR l) := ⟨_, rfl⟩
   obtain ⟨L, hL⟩ : ∃ L, L = T.knL (knR l) := ⟨_, rfl⟩
   rw [← hL] at hown hle5 hrr hKC hrt ⊢
   rw [← hP] at hp hct hrt hKC ⊢
   obtain ⟨m, hm⟩ : ∃ m, m = L.length := ⟨_, rfl⟩
   have hwm : T.Nn P lo hh = (wnt L lo hh m : Int) := by rw [hKC]; unfold wnt; rw [hm, List.take_of_length_le (Nat.le_refl _)]
   rw [hwm] at hct
   rw [← hm] at hown hrt hle5 ⊢
   have hcm := fun a b w' ha hb => qcmp_ok a b w' 1 (by decide) ha hb
   have hmin : ∀ (w : World) (ts : Array TypeId) (t : TypeId), (Builtin.min_ ts t #[.int .i8 a, .int .i8 b]).run Try.prog w = .ok (.int .i8 (min a b)) w := fun w ts t => by
    have e : (if b < a then b else a) = min a b := by rw [Int.min_def]; split <;> split <;> omega
    simp [Builtin.min_, Builtin.min2, e]
   have hmax : ∀ (w : World) (ts : Array TypeId) (t : TypeId), (Builtin.max_ ts t #[.int .i8 a, .int .i8 b]).run Try.prog w = .ok (.int .i8 (max a b)) w := fun w ts t => by
    have e : (if a < b then b else a) = max a b := by rw [Int.max_def]; split <;> split <;> omega
    simp [Builtin.max_, Builtin.max2, e]
   obtain ⟨mi, hmi⟩ : ∃ m, m = min a b := ⟨_, rfl⟩
   obtain ⟨ma, hma⟩ : ∃ m, m = max a b := ⟨_, rfl⟩
   rw [← hmi] at hra
   simp only [← hmi] at hmin
   rw [← hma] at hrb
   simp only [← hma] at hmax
   have hwmi : IntKind.i64.wrap mi = mi := IntWalk.i64_in _ (by omega)
   have hwma : IntKind.i64.wrap ma = ma := IntWalk.i64_in _ (by omega)
   have hkn2 : ¬ (k : Int) < (k : Int) := by omega
   have HRA := zh hra; clear hra
   have HRB := zh hrb; clear hrb
   have HCT := zh hct; clear hct
   have HRT := zh hrt; clear hrt
   have HCM := zh hcm; clear hcm
   have HRR := zh hrr; clear hrr
   have HM := zh hm; clear hm
   have HLZ := zh hlz; clear hlz
   have HHZ := zh hhz; clear hhz
   have HP := zh hp; clear hp
   have HO := zh hown; clear hown
   have HBL := zh tl; clear tl
   clear K htn hkc hlo hhi hlh hfin hKC hKR hqe hnn hP hL hwm hmi hma hkn HKN HBD HBR
   go_wp2_with fail
   refine (HRA.out _).mono ?_
   rintro e1 w21 ⟨hq, rfl⟩
   dsimp only
   have hp := HP.out.below hq (Nat.le_refl _)
   have ho := own_below HO.out hq
   have tl := HBL.out.trans (hq.mono HBL.out.size)
   clear HP HO HBL hq
   have HP := zh hp; clear hp
   have HO := zh ho; clear ho
   have HBL := zh tl; clear tl
   go_wp2_with fail
   refine (HRB.out _).mono ?_
   rintro e2 w22 ⟨hq, rfl⟩
   dsimp only
   have hp := HP.out.below hq (Nat.le_refl _)
   have ho := own_below HO.out hq
   have tl := HBL.out.trans (hq.mono HBL.out.size)
   clear HP HO HBL hq
   obtain ⟨wB, hwB⟩ : ∃ x, x = (w22.alloc (.cells #[.bool (ineg lo.num), .string (imag lo.num), .bool (ineg (lo.den : Int)), .string (imag (lo.den : Int))] 35)).alloc (.cells #[.bool (ineg hh.num), .string (imag hh.num), .bool (ineg (hh.den : Int)), .string (imag (hh.den : Int))] 35) := ⟨_, rfl⟩
   obtain ⟨bl, hbl⟩ : ∃ b, b = w22.heap.size := ⟨_, rfl⟩
   have hsB : wB.heap.size = bl + 2 := by rw [hwB, hbl]; simp only [World.size_alloc]
   have hal : Below w22.heap.size w22 wB := by rw [hwB]; exact ((Below.refl _ _).alloc (Nat.le_refl _) _).alloc (by simp) _
   have k_l : Blk wB bl 35 [.bool (ineg lo.num), .string (imag lo.num), .bool (ineg (lo.den : Int)), .string (imag (lo.den : Int))] := by rw [hwB, hbl]; exact (Blk.new w22 _ _).alloc _
   have k_h : Blk wB (bl + 1) 35 [.bool (ineg hh.num), .string (imag hh.num), .bool (ineg (hh.den : Int)), .string (imag (hh.den : Int))] := by
    rw [hwB, hbl]
    have h := Blk.new (w22.alloc (.cells #[.bool (ineg lo.num), .string (imag lo.num), .bool (ineg (lo.den : Int)), .string (imag (lo.den : Int))] 35)) 35 [.bool (ineg hh.num), .string (imag hh.num), .bool (ineg (hh.den : Int)), .string (imag (hh.den : Int))]
    (try simp only [World.size_alloc, Nat.add_assoc, Nat.reduceAdd] at h)
    exact h
   have hp := hp.below hal (Nat.le_refl _)
   have hrow := own_row (own_below ho hal)
   have tl := tl.trans (hal.mono tl.size)
   have HTB := zh tl; clear tl
   have HL := zh k_l; clear k_l
   have HH := zh k_h; clear k_h
   have HP := zh hp; clear hp
   have HROW := zh hrow; clear hrow
   clear ho hal
   go_wp2_with fail
   (try rw [← hwB])
   (try rw [← hbl])
   (try simp only [← hbl])
   clear hwB
   have HBLE2 := zh hbl; clear hbl
   go_loopw [18, 20, 82] (fun wn _ i wr => ∃ j : Nat, j ≤ m ∧ i = .int .i64 j ∧ wn = .int .i64 (wnt L lo hh j : Int) ∧ Below wB.heap.size wB wr) (fun _ _ i _ => m - (intOf i).toNat)
   case atStart => exact ⟨0, Nat.zero_le _, rfl, by first | rfl | simp [wnt], Below.refl _ _⟩
   case round =>
    obtain ⟨jj, hj, rfl, rfl, hbel⟩ := hrel
    obtain ⟨wo2, rfl⟩ : ∃ wo2 : World, wo2 = wr := ⟨_, rfl⟩
    by_cases hjm : jj < m
    ·
     have hjl : jj < L.length := by have := HM.out; omega
     have hget : L[jj]? = some (L[jj]'hjl) := List.getElem?_eq_getElem _
     have hrz := HRR.out _ (List.getElem_mem hjl)
     obtain ⟨r, hr9⟩ : ∃ r, r = L[jj]'hjl := ⟨_, rfl⟩
     rw [← hr9] at hget hrz
     have hst := wnt_step (lo := lo) (hi := hh) hget
     have hwb := wnt_le L lo hh jj
     obtain ⟨W, hW⟩ : ∃ W, W = wnt L lo hh jj := ⟨_, rfl⟩
     obtain ⟨W', hW'⟩ : ∃ W, W = wnt L lo hh (jj + 1) := ⟨_, rfl⟩
     rw [← hW] at hst hwb ⊢
     rw [← hW'] at hst
     obtain ⟨b2, o2, rfl, hb2, hbc⟩ := HROW.out.at_ (by omega)
     have hcl := crq_cell hbc hbel hb2 hget
     have p0 := hcl 0 _ rfl
     have p1 := hcl 1 _ rfl
     have p2 := hcl 2 _ rfl
     have p3 := hcl 3 _ rfl
     rw [Nat.add_zero] at p0
     have hm1 := fun w' => HCM.out lo r w' HLZ.out hrz
     have hm2 := fun w' => HCM.out r hh w' hrz HHZ.out
     have hix1 : (0 : Int) ≤ (jj : Int) := by omega
     have hix2 : (jj : Int) < (m : Int) := by omega
     have tl := hbel
     have k_l := HL.out.below hbel (by omega)
     have k_h := HH.out.below hbel (by omega)
     have HM1 := zh hm1; clear hm1
     have HM2 := zh hm2; clear hm2
     have HST := zh hst; clear hst
     have HWE := zh hW'; clear hW'
     clear hcl hbc hget hr9 hrz hW hbel hjl HL HH
     obtain ⟨l_0, l_f0, l_1, l_f1, l_2, l_f2, l_3, l_f3⟩ := k_l.f4
     have HL := zh k_l; clear k_l
     obtain ⟨h_0, h_f0, h_1, h_f1, h_2, h_f2, h_3, h_f3⟩ := k_h.f4
     have HH := zh k_h; clear k_h
     have HBL := zh tl; clear tl
     have hlt_l := HL.out.lt
     have hlt_h := HH.out.lt
     obtain ⟨b_r, hb_r⟩ : ∃ b, b = wo2.heap.size := ⟨_, rfl⟩
     have hal : Below wo2.heap.size wo2 (wo2.alloc (.cells #[.bool (ineg r.num), .string (imag r.num), .bool (ineg (r.den : Int)), .string (imag (r.den : Int))] 35)) := (Below.refl _ _).alloc (Nat.le_refl _) _
     have k_r : Blk (wo2.alloc (.cells #[.bool (ineg r.num), .string (imag r.num), .bool (ineg (r.den : Int)), .string (imag (r.den : Int))] 35)) b_r 35 [.bool (ineg r.num), .string (imag r.num), .bool (ineg (r.den : Int)), .string (imag (r.den : Int))] := by rw [hb_r]; exact Blk.new wo2 _ _
     have hge_r : wB.heap.size ≤ b_r := by rw [hb_r]; exact HBL.out.size
     have far_l_r : bl < b_r := by rw [hb_r]; exact hlt_l
     clear hlt_l
     have far_h_r : bl + 1 < b_r := by rw [hb_r]; exact hlt_h
     clear hlt_h
     have k_l := HL.out.keep hal
     have k_h := HH.out.keep hal
     have tl := HBL.out.trans ((hal).mono HBL.out.size)
     clear HBL HL HH
     clear l_0 l_f0 l_1 l_f1 l_2 l_f2 l_3 l_f3
     obtain ⟨l_0, l_f0, l_1, l_f1, l_2, l_f2, l_3, l_f3⟩ := k_l.f4
     have HL := zh k_l; clear k_l
     clear h_0 h_f0 h_1 h_f1 h_2 h_f2 h_3 h_f3
     obtain ⟨h_0, h_f0, h_1, h_f1, h_2, h_f2, h_3, h_f3⟩ := k_h.f4
     have HH := zh k_h; clear k_h
     have HBL := zh tl; clear tl
     clear hal
     obtain ⟨r_0, r_f0, r_1, r_f1, r_2, r_f2, r_3, r_f3⟩ := k_r.f4
     have HR := zh k_r; clear k_r
     go_wp2_with fail
     (try rw [← hb_r])
     have HB_r := zh hb_r; clear hb_r
     obtain ⟨c1, hc1⟩ : ∃ c, c = cmpq lo r := ⟨_, rfl⟩
     obtain ⟨c2, hc2⟩ : ∃ c, c = cmpq r hh := ⟨_, rfl⟩
     have hm1 := HM1.out
     have hm2 := HM2.out
     simp only [← hc1] at hm1
     simp only [← hc2] at hm2
     clear HM1 HM2
     have HM1 := zh hm1; clear hm1
     have HM2 := zh hm2; clear hm2
     refine (HM1.out _).mono ?_
     rintro e w81 ⟨hq, rfl⟩
     dsimp only
     have k_l := HL.out.keep hq
     have k_h := HH.out.keep hq
     have k_r := HR.out.keep hq
     have tl := HBL.out.trans ((hq).mono HBL.out.size)
     clear HBL HL HH HR
     clear l_0 l_f0 l_1 l_f1 l_2 l_f2 l_3 l_f3
     obtain ⟨l_0, l_f0, l_1, l_f1, l_2, l_f2, l_3, l_f3⟩ := k_l.f4
     have HL := zh k_l; clear k_l
     clear h_0 h_f0 h_1 h_f1 h_2 h_f2 h_3 h_f3
     obtain ⟨h_0, h_f0, h_1, h_f1, h_2, h_f2, h_3, h_f3⟩ := k_h.f4
     have HH := zh k_h; clear k_h
     clear r_0 r_f0 r_1 r_f1 r_2 r_f2 r_3 r_f3
     obtain ⟨r_0, r_f0, r_1, r_f1, r_2, r_f2, r_3, r_f3⟩ := k_r.f4
     have HR := zh k_r; clear k_r
     have HBL := zh tl; clear tl
     clear hq
     by_cases h1 : lo < r
     ·
      have d1 := (cmpq_lt h1).2
      rw [← hc1] at d1
      have HC1 := zh hc1; clear hc1
      go_wp2_with fail
      refine (HM2.out _).mono ?_
      rintro e w82 ⟨hq, rfl⟩
      dsimp only
      have k_l := HL.out.keep hq
      have k_h := HH.out.keep hq
      have k_r := HR.out.keep hq
      have tl := HBL.out.trans ((hq).mono HBL.out.size)
      clear HBL HL HH HR
      clear l_0 l_f0 l_1 l_f1 l_2 l_f2 l_3 l_f3
      obtain ⟨l_0, l_f0, l_1, l_f1, l_2, l_f2, l_3, l_f3⟩ := k_l.f4
      have HL := zh k_l; clear k_l
      clear h_0 h_f0 h_1 h_f1 h_2 h_f2 h_3 h_f3
      obtain ⟨h_0, h_f0, h_1, h_f1, h_2, h_f2, h_3, h_f3⟩ := k_h.f4
      have HH := zh k_h; clear k_h
      clear r_0 r_f0 r_1 r_f1 r_2 r_f2 r_3 r_f3
      obtain ⟨r_0, r_f0, r_1, r_f1, r_2, r_f2, r_3, r_f3⟩ := k_r.f4
      have HR := zh k_r; clear k_r
      have HBL := zh tl; clear tl
      clear hq
      by_cases h2 : r ≤ hh
      ·
       have d2 := (cmpq_le h2).2
       rw [← hc2] at d2
       have hs := HST.out
       rw [if_pos ⟨h1, h2⟩] at hs
       have HS9 := zh hs; clear hs
       have HC2 := zh hc2; clear hc2
       clear h1 h2
       go_wp2_with fail
       go_roundw
       case rel => exact ⟨jj + 1, by omega, by go_num, by rw [← HWE.out, HS9.out]; go_num, HBL.out⟩
       case measure => simp [intOf]; omega
      ·
       have d2 := cmpq_gt2 (Rat.not_le.1 h2)
       rw [← hc2] at d2
       have hs := HST.out
       rw [if_neg (fun h => h2 h.2), Nat.add_zero] at hs
       have HS9 := zh hs; clear hs
       have HC2 := zh hc2; clear hc2
       clear h1 h2
       go_wp2_with fail
       go_roundw
       case rel => exact ⟨jj + 1, by omega, by go_num, by rw [← HWE.out, HS9.out], HBL.out⟩
       case measure => simp [intOf]; omega
     ·
      have d1 := cmpq_ge (Rat.not_lt.1 h1)
      rw [← hc1] at d1
      have hs := HST.out
      rw [if_neg (fun h => h1 h.1), Nat.add_zero] at hs
      have HS9 := zh hs; clear hs
      have HC1 := zh hc1; clear hc1
      have HC2 := zh hc2; clear hc2
      clear h1
      go_wp2_with fail
      go_roundw
      case rel => exact ⟨jj + 1, by omega, by go_num, by rw [← HWE.out, HS9.out], HBL.out⟩
      case measure => simp [intOf]; omega
    ·
     obtain rfl : jj = m := by omega
     have tl := hbel
     have k_l := HL.out.below hbel (by omega)
     have k_h := HH.out.below hbel (by omega)
     have hct := fun w' (h : Below wB.heap.size wB w') => HCT.out _ w' (HP.out.below h (Nat.le_refl _))
     have hrt := fun w' (h : Below wB.heap.size wB w') => HRT.out _ w' (HP.out.below h (Nat.le_refl _))
     obtain ⟨W, hW⟩ : ∃ W, W = wnt L lo hh jj := ⟨_, rfl⟩
     rw [← hW] at hct ⊢
     have e1 : ((W : Int) == (W : Int)) = true := by simp
     have e2 : ((jj : Int) == (jj : Int)) = true := by simp
     have hct2 := hct _ hbel
     have hjn : ¬ (jj : Int) < (jj : Int) := by omega
     have HCT2 := zh hct2; clear hct2
     have HRT2 := zh hrt; clear hrt
     clear hct hW hbel hjm HL HH
     obtain ⟨l_0, l_f0, l_1, l_f1, l_2, l_f2, l_3, l_f3⟩ := k_l.f4
     have HL := zh k_l; clear k_l
     obtain ⟨h_0, h_f0, h_1, h_f1, h_2, h_f2, h_3, h_f3⟩ := k_h.f4
     have HH := zh k_h; clear k_h
     have HBL := zh tl; clear tl
     go_wp2_with fail
     refine (HCT2.out).mono ?_
     rintro e w121 ⟨hq, rfl⟩
     dsimp only
     have k_l := HL.out.keep hq
     have k_h := HH.out.keep hq
     have tl := HBL.out.trans ((hq).mono HBL.out.size)
     clear HBL HL HH
     clear l_0 l_f0 l_1 l_f1 l_2 l_f2 l_3 l_f3
     obtain ⟨l_0, l_f0, l_1, l_f1, l_2, l_f2, l_3, l_f3⟩ := k_l.f4
     have HL := zh k_l; clear k_l
     clear h_0 h_f0 h_1 h_f1 h_2 h_f2 h_3 h_f3
     obtain ⟨h_0, h_f0, h_1, h_f1, h_2, h_f2, h_3, h_f3⟩ := k_h.f4
     have HH := zh k_h; clear k_h
     have HBL := zh tl; clear tl
     clear hq
     have hrt3 := HRT2.out _ HBL.out
     have HRT3 := zh hrt3; clear hrt3
     go_wp2_with fail
     refine (HRT3.out).mono ?_
     rintro e w122 ⟨hq, rfl⟩
     dsimp only
     have k_l := HL.out.keep hq
     have k_h := HH.out.keep hq
     have tl := HBL.out.trans ((hq).mono HBL.out.size)
     clear HBL HL HH
     clear l_0 l_f0 l_1 l_f1 l_2 l_f2 l_3 l_f3
     obtain ⟨l_0, l_f0, l_1, l_f1, l_2, l_f2, l_3, l_f3⟩ := k_l.f4
     have HL := zh k_l; clear k_l
     clear h_0 h_f0 h_1 h_f1 h_2 h_f2 h_3 h_f3
     obtain ⟨h_0, h_f0, h_1, h_f1, h_2, h_f2, h_3, h_f3⟩ := k_h.f4
     have HH := zh k_h; clear k_h
     have HBL := zh tl; clear tl
     clear hq
     go_wp2_with fail
     refine (awake5_true _).mono ?_
     rintro e w123 ⟨hq, rfl⟩
     dsimp only
     have k_l := HL.out.keep hq
     have k_h := HH.out.keep hq
     have tl := HBL.out.trans ((hq).mono HBL.out.size)
     clear HBL HL HH
     clear l_0 l_f0 l_1 l_f1 l_2 l_f2 l_3 l_f3
     obtain ⟨l_0, l_f0, l_1, l_f1, l_2, l_f2, l_3, l_f3⟩ := k_l.f4
     have HL := zh k_l; clear k_l
     clear h_0 h_f0 h_1 h_f1 h_2 h_f2 h_3 h_f3
     obtain ⟨h_0, h_f0, h_1, h_f1, h_2, h_f2, h_3, h_f3⟩ := k_h.f4
     have HH := zh k_h; clear k_h
     have HBL := zh tl; clear tl
     clear hq
     go_wp2_with fail
     go_ret
     exact ⟨HTB.out.trans (HBL.out.mono HTB.out.size), rfl⟩
end Go.Proofs.Ytjpalbonclgflaa
