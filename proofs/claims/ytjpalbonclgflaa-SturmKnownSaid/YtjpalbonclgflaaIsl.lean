/- sturm.Isolate (printed by gen_isl.py). -/
import Derived.Test.YtjpalbonclgflaaIso
namespace Go.Proofs.Ytjpalbonclgflaa
open Go.RowKit

def IsoRet (res : List Ivl) (w : World) (e : Ending) (w' : World) : Prop := Below w.heap.size w w' ∧ ∃ v, e = .returned (.tuple #[v, .int .i64 0]) ∧ Row w' v res.length (cis res)
theorem chn_len : ∀ (f : Nat) (p q : List Int) (L : Nat), q.length ≤ L → ∀ r ∈ chn f p q, r.length ≤ L
 | 0, _, _, _, _ => fun r hr => absurd hr (by simp [chn])
 | f + 1, p, q, L, hq =>
  fun r hr => by
  by_cases h : q.length = 0
  ·
   rw [chn_nil h] at hr; simp at hr
  ·
   rw [chn_step h] at hr
   rcases List.mem_cons.1 hr with rfl | hr
   ·
    exact hq
   ·
    exact chn_len f q _ L (Nat.le_trans (Nat.le_of_lt (chn_less _ h)) hq) r hr
theorem stmA_len {l : List Int} {M : Nat} (hf : AFine l M) : ∀ r ∈ stmA l, r.length ≤ 65 := by
 intro r hr
 have h0 := Nat.le_trans (sqf_len hf.pos) hf.len
 unfold stmA stm at hr
 rcases List.mem_cons.1 hr with rfl | hr
 ·
  exact h0
 ·
  split at hr
  ·
   simp at hr
  ·
   refine chn_len _ _ _ 65 (Nat.le_trans (red_len _ _) ?_) r hr
   rw [der_length]; omega
set_option maxRecDepth 100000 in
set_option maxHeartbeats 6400000 in
theorem sIsolate_any (l : List Int) (v : Value) (w : World) (M K : Nat) (res : List Ivl) (hr : Row w v l.length (civ l)) (hf : AFine l M) (hK : K ≤ 1000000000) (hres : res.length ≤ 1000)
  (hiso : Iso (stmA l) K (-(Rat.divInt (bnd l : Int) 1)) (Rat.divInt (bnd l : Int) 1) res) :
  Calls Try.prog 14 #[v] w (IsoRet res w) := by
 have hck := scheck_nil l v w hr hf
 have hal := fun w' h => sall_any l v w' M h hf
 have hbo := fun w' h => sbound_any l v w' M h hf.pos (by have := hf.len; omega) hf.ends hf.z (by have := hf.hM; omega)
 have hbz := bnd_zs hf.ends hf.pos hf.z (Nat.le_refl (bndK l))
 have hbb : (((2 : Nat) ^ bndK l : Nat) : Int) = (bnd l : Int) := rfl
 rw [hbb] at hbz
 obtain ⟨B, hB⟩ : ∃ B : Int, B = (bnd l : Int) := ⟨_, rfl⟩
 rw [← hB] at hbo hbz hiso
 have hM1 : M + 1 ≤ 100000000 := by have := hf.hM; omega
 have hof := fun w' => qof_any (ineg B) (imag B) w' (Nat.le_trans hbz.size (by omega))
 simp only [ival_canon] at hof
 have hz1 : zs (M + 1) (1 : Int) := zs_nat 1 (M + 1) (Nat.one_lt_pow (by omega) (by decide))
 have hqs := divInt_sized hbz hz1 (by omega)
 obtain ⟨q, hq'⟩ : ∃ q, q = Rat.divInt B 1 := ⟨_, rfl⟩
 rw [← hq'] at hof hqs hiso
 have hng := fun w' => qneg_any (ineg q.num) (ineg (q.den : Int)) (imag q.num) (imag (q.den : Int)) w' (Nat.le_trans hqs.1.size (by omega)) (Nat.le_trans hqs.2.size (by omega))
 simp only [ival_canon, Rat.num_divInt_den] at hng
 have hrz : ∀ p ∈ stmA l, p.length ≤ 65 ∧ ∀ x ∈ p, zs M x := fun p hp => ⟨stmA_len hf p hp, hf.c p hp⟩
 have hrl := hf.sl
 have hM2 : M ≤ 1000000000 := by have := hf.hM; omega
 obtain ⟨rows, hrows⟩ : ∃ R, R = stmA l := ⟨_, rfl⟩
 rw [← hrows] at hal hiso hrz hrl
 obtain ⟨va, vc, rfl, -⟩ := hr.slice
 obtain ⟨n, hn⟩ : ∃ n, n = l.length := ⟨_, rfl⟩
 rw [← hn] at hr hck hal hbo ⊢
 unfold AllRet at hal
 have hent : ∀ args w, (callFunc 32 args).run Try.prog w = .ok (.enter 32 args) w := fun args w => enters_of Try.func32 (by kernel_rfl) rfl args w
 have HRW := zh hr; clear hr
 have HCK := zh hck; clear hck
 have HAL := zh hal; clear hal
 have HBO := zh hbo; clear hbo
 have HOF := zh hof; clear hof
 have HNG := zh hng; clear hng
 have HISO := zh hiso; clear hiso
 have HRZ := zh hrz; clear hrz
 clear hf hrows hn hB hq' hqs hbz hbb hz1
 go_enter Try.func14, Try.ntmps14
 go_wp2_with fail
 refine (HCK.out).mono ?_
 rintro e1 w1 ⟨hq1, rfl⟩
 dsimp only
 have hr1 := HRW.out.below hq1 (Nat.le_refl _)
 have ha := HAL.out _ hr1
 have HR1 := zh hr1; clear hr1
 have HA := zh ha; clear ha
 have S1 := zh hq1; clear hq1
 go_wp2_with fail
 refine (HA.out).mono ?_
 rintro e2 w2 ⟨hq2, v2, rfl, hv2⟩
 dsimp only
 have s2 := S1.out.trans (hq2.mono S1.out.size)
 have hr2 := HR1.out.below hq2 (Nat.le_refl _)
 obtain ⟨m2, hm2⟩ : ∃ n, n = rows.length := ⟨_, rfl⟩
 obtain ⟨va2, vc2, rfl⟩ : ∃ a c, v2 = .slice a m2 c := by
  obtain ⟨rvs, -, hrow, -⟩ := id hv2
  obtain ⟨a, c, h, -⟩ := hrow.slice
  exact ⟨a, c, by rw [hm2]; exact h⟩
 have S2 := zh s2; clear s2
 have HR2 := zh hr2; clear hr2
 have HV2 := zh hv2; clear hv2
 clear hq2 hm2
 obtain ⟨bl, hbl⟩ : ∃ b, b = w2.heap.size := ⟨_, rfl⟩
 obtain ⟨w21, hw_⟩ : ∃ x, x = (((w2.alloc (.cells #[.slice va2 m2 vc2] 43)).alloc (.cells #[.slice none 0 0] 48)).alloc (.cells #[.func (.func 32) #[] #[.pointer (some ⟨bl, 0, none⟩), .pointer (some ⟨bl + 1, 0, none⟩), .pointer (some ⟨bl + 2, 0, none⟩)]] 70)) := ⟨_, rfl⟩
 have tl : Below w2.heap.size w2 w21 := by rw [hw_]; exact (((Below.refl _ _).alloc (Nat.le_refl _) _).alloc (by simp) _).alloc (by simp <;> omega) _
 have k_l : Blk w21 bl 43 [.slice va2 m2 vc2] := by rw [hw_, hbl]; exact ((Blk.new w2 _ _).alloc _).alloc _
 have k_o : Blk w21 (bl + 1) 48 [.slice none 0 0] := by
  have h := (Blk.new (w2.alloc (.cells #[.slice va2 m2 vc2] 43)) 48 [.slice none 0 0]).alloc (.cells #[.func (.func 32) #[] #[.pointer (some ⟨bl, 0, none⟩), .pointer (some ⟨bl + 1, 0, none⟩), .pointer (some ⟨bl + 2, 0, none⟩)]] 70)
  rw [World.size_alloc, ← hbl] at h
  rw [hw_]; exact h
 have k_h : Blk w21 (bl + 2) 70 [.func (.func 32) #[] #[.pointer (some ⟨bl, 0, none⟩), .pointer (some ⟨bl + 1, 0, none⟩), .pointer (some ⟨bl + 2, 0, none⟩)]] := by
  have h := Blk.new ((w2.alloc (.cells #[.slice va2 m2 vc2] 43)).alloc (.cells #[.slice none 0 0] 48)) 70 [.func (.func 32) #[] #[.pointer (some ⟨bl, 0, none⟩), .pointer (some ⟨bl + 1, 0, none⟩), .pointer (some ⟨bl + 2, 0, none⟩)]]
  rw [World.size_alloc, World.size_alloc, ← hbl] at h
  rw [hw_]; exact h
 have HBLE := zh hbl; clear hbl
 have HW := zh hw_; clear hw_
 go_wp2_with fail
 (try simp only [World.size_alloc, Nat.add_assoc, Nat.reduceAdd])
 (try rw [← HBLE.out])
 (try rw [← HW.out])
 clear HW
 obtain ⟨l_0, l_f0⟩ := k_l.f1
 have HL := zh k_l; clear k_l
 obtain ⟨o_0, o_f0⟩ := k_o.f1
 have HO := zh k_o; clear k_o
 obtain ⟨h_0, h_f0⟩ := k_h.f1
 have HH := zh k_h; clear k_h
 have HBL := zh tl; clear tl
 have hbo := HBO.out _ (HR2.out.below HBL.out (Nat.le_refl _))
 have HBO1 := zh hbo; clear hbo
 refine (HBO1.out).mono ?_
 rintro e w22 ⟨hq, rfl⟩
 dsimp only
 have k_l := HL.out.keep hq
 have k_o := HO.out.keep hq
 have k_h := HH.out.keep hq
 have tl := HBL.out.trans ((hq).mono HBL.out.size)
 clear HBL HL HO HH
 clear l_0 l_f0
 obtain ⟨l_0, l_f0⟩ := k_l.f1
 have HL := zh k_l; clear k_l
 clear o_0 o_f0
 obtain ⟨o_0, o_f0⟩ := k_o.f1
 have HO := zh k_o; clear k_o
 clear h_0 h_f0
 obtain ⟨h_0, h_f0⟩ := k_h.f1
 have HH := zh k_h; clear k_h
 have HBL := zh tl; clear tl
 clear hq
 go_wp2_with fail
 refine (HOF.out _).mono ?_
 rintro e w23 ⟨hq, rfl⟩
 dsimp only
 have k_l := HL.out.keep hq
 have k_o := HO.out.keep hq
 have k_h := HH.out.keep hq
 have tl := HBL.out.trans ((hq).mono HBL.out.size)
 clear HBL HL HO HH
 clear l_0 l_f0
 obtain ⟨l_0, l_f0⟩ := k_l.f1
 have HL := zh k_l; clear k_l
 clear o_0 o_f0
 obtain ⟨o_0, o_f0⟩ := k_o.f1
 have HO := zh k_o; clear k_o
 clear h_0 h_f0
 obtain ⟨h_0, h_f0⟩ := k_h.f1
 have HH := zh k_h; clear k_h
 have HBL := zh tl; clear tl
 clear hq
 have hlt_h := HH.out.lt
 obtain ⟨b_q, hb_q⟩ : ∃ b, b = w23.heap.size := ⟨_, rfl⟩
 have hal : Below w23.heap.size w23 (w23.alloc (.cells #[.bool (ineg q.num), .string (imag q.num), .bool (ineg (q.den : Int)), .string (imag (q.den : Int))] 35)) := (Below.refl _ _).alloc (Nat.le_refl _) _
 have k_q : Blk (w23.alloc (.cells #[.bool (ineg q.num), .string (imag q.num), .bool (ineg (q.den : Int)), .string (imag (q.den : Int))] 35)) b_q 35 [.bool (ineg q.num), .string (imag q.num), .bool (ineg (q.den : Int)), .string (imag (q.den : Int))] := by rw [hb_q]; exact Blk.new w23 _ _
 have hge_q : w2.heap.size ≤ b_q := by rw [hb_q]; exact HBL.out.size
 have far_h_q : bl + 2 < b_q := by rw [hb_q]; exact hlt_h
 clear hlt_h
 have k_l := HL.out.keep hal
 have k_o := HO.out.keep hal
 have k_h := HH.out.keep hal
 have tl := HBL.out.trans ((hal).mono HBL.out.size)
 clear HBL HL HO HH
 clear l_0 l_f0
 obtain ⟨l_0, l_f0⟩ := k_l.f1
 have HL := zh k_l; clear k_l
 clear o_0 o_f0
 obtain ⟨o_0, o_f0⟩ := k_o.f1
 have HO := zh k_o; clear k_o
 clear h_0 h_f0
 obtain ⟨h_0, h_f0⟩ := k_h.f1
 have HH := zh k_h; clear k_h
 have HBL := zh tl; clear tl
 clear hal
 obtain ⟨q_0, q_f0, q_1, q_f1, q_2, q_f2, q_3, q_f3⟩ := k_q.f4
 have HQ := zh k_q; clear k_q
 go_wp2_with fail
 (try rw [← hb_q])
 have HB_q := zh hb_q; clear hb_q
 have hsz2 : bl + 3 ≤ (w23.alloc (.cells #[.bool (ineg q.num), .string (imag q.num), .bool (ineg (q.den : Int)), .string (imag (q.den : Int))] 35)).heap.size := by have := HH.out.lt; omega
 have HL := zh HL.out.drew
 have HO := zh HO.out.drew
 have HH := zh HH.out.drew
 have HQ := zh HQ.out.drew
 have HBL := zh HBL.out.drew
 refine wp_region_held_drew (S := fun w' => w'.cell? ⟨bl + 2, 0, none⟩ = some (.func (.func 32) #[] #[.pointer (some ⟨bl, 0, none⟩), .pointer (some ⟨bl + 1, 0, none⟩), .pointer (some ⟨bl + 2, 0, none⟩)]) ∧ w'.cell? ⟨b_q, 0, none⟩ = some (.bool (ineg q.num)) ∧ w'.cell? ⟨b_q, 1, none⟩ = some (.string (imag q.num)) ∧ w'.cell? ⟨b_q, 2, none⟩ = some (.bool (ineg (q.den : Int))) ∧ w'.cell? ⟨b_q, 3, none⟩ = some (.string (imag (q.den : Int)))) (by kernel_rfl) ?_ (fun hHeld0 => ?_)
 ·
  go_keep
 refine zT 0 (h := ?_)
 (try simp only [Act.put, zA, zB, zC])
 refine zT 1 (h := ?_)
 (try simp only [Act.put, zA, zB, zC])
 refine zT 3 (h := ?_)
 (try simp only [Act.put, zA, zB, zC])
 refine zR 2 (h := fun K hK => ?_)
 go_simp
 go_at_call 31
 refine (HNG.out _).mono ?_
 rintro e w24 ⟨hq, rfl⟩
 dsimp only
 have z0 := zK hq HH.out.lt hHeld0.1
 have z1 := zK hq HQ.out.lt hHeld0.2.1
 have z2 := zK hq HQ.out.lt hHeld0.2.2.1
 have z3 := zK hq HQ.out.lt hHeld0.2.2.2.1
 have z4 := zK hq HQ.out.lt hHeld0.2.2.2.2
 refine hK.out _ _ ⟨z0, z1, z2, z3, z4⟩ (fun hHeld1 => ?_)
 clear hK K hHeld0 z0 z1 z2 z3 z4
 (try simp only [Act.put, zA, zB, zC])
 have k_l := HL.out.keep hq
 have k_o := HO.out.keep hq
 have k_h := HH.out.keep hq
 have k_q := HQ.out.keep hq
 have tl := HBL.out.trans ((hq).mono HBL.out.size)
 clear HBL HL HO HH HQ
 clear l_0 l_f0
 obtain ⟨l_0, l_f0⟩ := k_l.f1
 have HL := zh k_l; clear k_l
 clear o_0 o_f0
 obtain ⟨o_0, o_f0⟩ := k_o.f1
 have HO := zh k_o; clear k_o
 clear h_0 h_f0
 obtain ⟨h_0, h_f0⟩ := k_h.f1
 have HH := zh k_h; clear k_h
 clear q_0 q_f0 q_1 q_f1 q_2 q_f2 q_3 q_f3
 obtain ⟨q_0, q_f0, q_1, q_f1, q_2, q_f2, q_3, q_f3⟩ := k_q.f4
 have HQ := zh k_q; clear k_q
 have HBL := zh tl; clear tl
 clear hq
 have hi := halve_any rows K M va2 m2 vc2 bl (bl + 1) (bl + 2) (bl + 3) w2 HV2.out hrl HRZ.out hM2 hK (by have := HBLE.out; omega) (by omega) (by omega) (by omega) HISO.out w24 _ [] (by rw [List.nil_append]; exact hres) HL.out HO.out HH.out (World.ownsRow_nil _ _ _ _) HBL.out (by have := HH.out.lt; omega)
 have HI := zh hi; clear hi
 refine zR 4 (h := fun K hK => ?_)
 go_simp
 refine (HI.out).mono ?_
 rintro e w30 ⟨⟨v30, rfl⟩, vo1, ho1, hbo1, hown1, hat1⟩
 dsimp only
 have hnb : ∀ b, b ≠ bl + 1 → ∀ o : Obj, ¬ (b = bl + 1 ∨ (Value.slice none 0 0).ownBlock = some b) := by
  rintro b h1 o (h | h)
  ·
   exact h1 h
  ·
   simp [Value.ownBlock] at h
 have k_h := ho1.blk HH.out (hnb _ (by omega))
 have k_q := ho1.blk HQ.out (hnb _ (by omega))
 refine hK.out _ _ ⟨k_h.c 0 rfl, k_q.c 0 rfl, k_q.c 1 rfl, k_q.c 2 rfl, k_q.c 3 rfl⟩ (fun hHeld9 => ?_)
 clear hK K
 (try simp only [Act.put, zA, zB, zC])
 have hbel := ho1.below (S2.out.trans (HBL.out.mono S2.out.size)) (by have := S2.out.size; have := HBL.out.size; omega) (fun k o hk h => hnb k (by have := HBLE.out; have := S2.out.size; omega) o h)
 have oc := hbo1.c 0 rfl
 have hrow := own_row hown1
 rw [List.nil_append] at hrow
 have HBEL := zh hbel; clear hbel
 have HROW := zh hrow; clear hrow
 clear ho1 hbo1 hown1 hat1 hnb k_h k_q HBL HL HO HH HQ HI l_0 l_f0 o_0 o_f0 h_0 h_f0 q_0 q_f0 q_1 q_f1 q_2 q_f2 q_3 q_f3
 refine wpAnyH_done (by kernel_rfl) ?_ _
 (try simp only [List.getElem_toArray, List.getElem_cons_zero, List.getElem_cons_succ, Act.put, zA, zB, zC])
 go_wp2_with fail
 refine bodyPost_ret (v := .tuple #[vo1, .int .i64 0]) (by simp [results, Try.results14, go_sem]) rfl ⟨HBEL.out, vo1, rfl, HROW.out⟩
end Go.Proofs.Ytjpalbonclgflaa
