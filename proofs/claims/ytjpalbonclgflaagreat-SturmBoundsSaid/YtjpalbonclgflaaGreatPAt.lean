/- polynomial.At (printed by gen_pat.py). -/
import Derived.Test.YtjpalbonclgflaaGreatPart3
import Derived.Test.YtjpalbonclgflaaGreatChn
import Derived.Test.YtjpalbonclgflaaGreatPart13
import Derived.Test.YtjpalbonclgflaaGreatPart11
import Derived.Test.YtjpalbonclgflaaGreatRatD
namespace Go.Proofs.YtjpalbonclgflaaGreat
open Go.RowKit Go.Shelf

attribute [local go_sem] Oper.semAt_some

def evL (q : Rat) (l : List Int) : Rat := l.foldl (fun s c => s * q + Rat.divInt c 1) (Rat.divInt 0 1)
theorem evL_snoc (q : Rat) (l : List Int) (c : Int) : evL q (l ++ [c]) = evL q l * q + Rat.divInt c 1 := by simp [evL]
theorem Row.apart {c : Nat → Obj → Prop} {A B : World} (h : Only c A B) {t : Nat} (hc : ∀ b o, c b o → b = t ∨ o.isCells = false) {v : Value} {n : Nat} {xs : List Value} (hr : Row A v n xs) (hf : ∀ b, v.ownBlock = some b → b ≠ t) : Row B v n xs := by
 rcases hr with hr | ⟨b, off, cap, hv, h1, h2, h3, h4⟩
 ·
  exact .inl hr
 ·
  refine .inr ⟨b, off, cap, hv, h1, h2, Nat.lt_of_lt_of_le h3 h.size, fun j u hu => ?_⟩
  have hD : b ≠ t := hf b (by rw [hv]; rfl)
  have hcell := h4 j u hu
  obtain ⟨o, ho⟩ : ∃ o, A.heap[b]? = some o := ⟨_, Array.getElem?_eq_getElem h3⟩
  have hn : ¬ c b o := by
   intro e
   rcases hc b o e with e | e
   ·
    exact hD e
   ·
    unfold World.cell? at hcell
    simp only [ho] at hcell
    cases o <;> first | (cases e; done) | (simp at hcell; done) | cases hcell
  have hB := h.same b o ho hn
  rw [World.cell?_of_block (a := ⟨b, off + j, none⟩) (w := A) (w' := B) (hB.trans ho.symm)]
  exact hcell
def atC (t : Nat) : Nat → Obj → Prop := fun k o => k = t ∨ o.isCells = false
theorem blk_only {A : World} {b : Nat} {t : TypeId} {xs : List Value} (h : Blk A b t xs) (j : Nat) (v : Value) : Only (fun k o => atC b k o ∧ o.isCells = true) A (A.setCell ⟨b, j, none⟩ v) :=
 Only.setCell v (fun o ho => by
  have e : A.heap[b]? = some (.cells xs.toArray t (0, 0)) := h
  have h6 : A.heap[b]? = some o := ho
  rw [e] at h6
  rw [← Option.some.inj h6]
  exact ⟨Or.inl rfl, rfl⟩)
def atY (l : List Int) (pre : List (Int × Int)) (x : Int × Int) : Prop := (pre ++ [x]).map Prod.snd <+: l.reverse
set_option maxHeartbeats 1000000 in
theorem desc_any (a : Option Addr) (n c : Nat) (w : World) :
  Calls Tryz.prog 92 #[.slice a n c] w fun e w' => e = .returned (.func (.func 137) #[] #[.pointer (some ⟨w.heap.size, 0, none⟩)]) ∧ w' = w.alloc (.cells #[.slice a n c] 22) := by
 go_enter Tryz.func92, Tryz.ntmps92
 go_wp2_with fail
 go_ret
 exact ⟨rfl, rfl⟩
set_option maxRecDepth 100000 in
set_option maxHeartbeats 8000000 in
theorem desc_seq (n : Nat) (hn : 1 ≤ n) (l : List Int) (hl : l.length ≤ 1000) (b t : Nat) (hbt : b ≠ t) (w : World) (v : Value) (hb : Blk w b 22 [v]) (hr : Row w v l.length (civ l)) (hf : ∀ k, v.ownBlock = some k → k ≠ t) :
  SeqY (atY l) Fence.wide n Tryz.prog 137 #[.pointer (some ⟨b, 0, none⟩)] (fun x : Int × Int => #[.int .i64 x.1, .agg #[.bool (ineg x.2), .string (imag x.2)]]) (fun _ _ => False) (atC t) (fun xs _ => xs.map Prod.snd = l.reverse) w := by
 intro lp J W hW hlw hJ hYd h0
 have hb : Blk W b 22 [v] := hW.same _ _ hb (fun h => h)
 have hr : Row W v l.length (civ l) := Row.only hW (fun _ _ h => h.elim) hr (civ_not_slice _)
 clear hW
 obtain ⟨m, hm⟩ : ∃ m, m = l.length := ⟨_, rfl⟩
 rw [← hm] at hr hl
 obtain ⟨va, vc, rfl, -⟩ := hr.slice
 have cx := hb.c 0 rfl
 have HB0 := Lib.hid hb; clear hb
 have HR0 := Lib.hid hr; clear hr
 have HM := Lib.hid hm; clear hm
 refine callsIn_of_wp Tryz.func137 rfl trivial ?_ rfl
 simp only [Tryz.ntmps137, List.size_toArray, List.length_cons, List.length_nil, Nat.reduceAdd, Nat.reduceSub, Array.replicate_succ, Array.replicate_zero, List.push_toArray, List.append_toArray, List.nil_append, List.cons_append]
 have hmw : IntKind.i64.wrap ((m : Int) - 1) = (m : Int) - 1 := IntWalk.i64_in _ (by omega)
 gi_wp2
 gi_loopw [3] (fun i wr => ∃ (pre : List (Int × Int)) (k : Nat), k ≤ m ∧ i = .int .i64 ((k : Int) - 1) ∧ J pre wr ∧ pre.map Prod.snd = (l.drop k).reverse ∧ Blk wr b 22 [.slice va m vc] ∧ Row wr (.slice va m vc) m (civ l)) (fun i _ => (intOf i + 1).toNat)
 case atStart => exact ⟨[], m, Nat.le_refl _, by (try rfl), h0, by rw [HM.out, List.drop_length]; rfl, HB0.out, HR0.out⟩
 case round =>
  clear HB0 HR0 cx
  obtain ⟨pre, k, hk, rfl, hJ0, hpre, hb, hr⟩ := hrel
  obtain ⟨i, hi⟩ : ∃ i : Int, i = (k : Int) - 1 := ⟨_, rfl⟩
  rw [← hi]
  rcases k with _ | k
  ·
   have e1 : decide (0 ≤ i) = false := decide_eq_false (by omega)
   have e2 : ¬ 0 ≤ i := by omega
   rw [List.drop_zero] at hpre
   have HPRE := Lib.hid hpre; clear hpre
   have HJ0 := Lib.hid hJ0; clear hJ0
   clear hb hr hi
   gi_wp2
   go_end0
   exact ⟨⟨_, rfl⟩, _, HPRE.out, HJ0.out⟩
  ·
   have hik : i = (k : Int) := by omega
   subst hik
   have e1 : decide (0 ≤ (k : Int)) = true := decide_eq_true (by omega)
   have e2 : (0 : Int) ≤ (k : Int) := by omega
   have hkm : (k : Int) < (m : Int) := by omega
   have hkl : k < l.length := by rw [← HM.out]; omega
   have hget : l[k]? = some (l[k]'hkl) := List.getElem?_eq_getElem _
   obtain ⟨x, hx⟩ : ∃ x, x = l[k]'hkl := ⟨_, rfl⟩
   rw [← hx] at hget
   have hdr : l.drop k = x :: l.drop (k + 1) := by rw [List.drop_eq_getElem_cons hkl, hx]
   have hpre2 : (pre ++ [((k : Int), x)]).map Prod.snd = (l.drop k).reverse := by rw [List.map_append, hpre, hdr, List.reverse_cons]; rfl
   have hY : atY l pre ((k : Int), x) := by
    unfold atY
    rw [hpre2]
    exact ⟨(l.take k).reverse, by rw [← List.reverse_append, List.take_append_drop]⟩
   obtain ⟨b1, o1, rfl, hb1, hbc⟩ := hr.at_ (by omega)
   obtain ⟨c0, c1⟩ := int_cells hbc (Below.refl wr.heap.size wr) hb1 hget
   have cx := hb.c 0 rfl
   obtain ⟨fn, tmps, assign, body, hy, hR⟩ := hYd pre ((k : Int), x) _ hY hJ0
   dsimp only at hy
   have HB := Lib.hid hb; clear hb
   have HRR := Lib.hid hr; clear hr
   have HPRE := Lib.hid hpre2; clear hpre2
   clear hget hkl hx hdr hpre hY hbc hi
   gi_wp2
   refine hR.mono ?_
   rintro e' W3 ⟨rfl, hJ3, hk3⟩
   have hb3 : Blk W3 b 22 [.slice (some ⟨b1, o1, none⟩) m vc] := hk3.same _ _ HB.out (fun e => by
    rcases e with e | e
    ·
     exact hbt e
    ·
     cases e)
   have hr3 := Row.apart hk3 (fun _ _ h => h) HRR.out hf
   have hkw : IntKind.i64.wrap ((k : Int) - 1) = (k : Int) - 1 := IntWalk.i64_in _ (by omega)
   have HB3 := Lib.hid hb3; clear hb3
   have HR3 := Lib.hid hr3; clear hr3
   have HJ3 := Lib.hid hJ3; clear hJ3
   clear hk3 hR hy cx c0 c1
   gi_wp2
   go_roundw
   case rel => exact ⟨_, k, by omega, by (try rfl), HJ3.out, HPRE.out, HB3.out, HR3.out⟩
   case measure => simp [intOf]; (try omega)
set_option maxRecDepth 100000 in
set_option maxHeartbeats 8000000 in
theorem at_in (l : List Int) (v : Value) (q : Rat) (w : World) (m0 K : Nat) (hr : Row w v l.length (civ l)) (hl : l.length ≤ 65) (hs : ∀ x ∈ l, zs m0 x) (hm0 : m0 ≤ 1000000000) (he : Ends l) (hq : rs K q) (hK : K ≤ 5000000000) (hev : ∀ p, p <+: l.reverse → rs K (evL q p)) :
  CallsIn Fence.wide 8 Tryz.prog 46 #[v, RatV q] w (Ret w (.tuple #[RatV (evL q l.reverse), .int .i64 0])) := by
 have hcn := fun w' h => canon_any l v w' h (by omega) (fun x hx => by unfold small; exact Nat.le_trans (hs x hx).size (by omega))
 unfold CanRet at hcn
 simp only [tzI_id he] at hcn
 obtain ⟨m, hm⟩ : ∃ m, m = l.length := ⟨_, rfl⟩
 have hfr : ∀ p, p <+: l.reverse → rs K (evL q p) := hev
 rw [← hm] at hcn hr hl
 obtain ⟨va, vc, rfl, -⟩ := hr.slice
 have h64 : decide (64 < (m : Int) - 1) = false := decide_eq_false (by omega)
 have hlg := fun x c w' => large_any x m c w' (by omega)
 rw [h64] at hlg
 have hof := fun w' => qof_any false ⟨#[]⟩ w' (by decide)
 rw [ival_nil] at hof
 show CallsIn Fence.wide 8 Tryz.prog 46 #[.slice va m vc, .agg #[.bool (ineg (q).num), .string (imag (q).num), .bool (ineg ((q).den : Int)), .string (imag ((q).den : Int))]] w _
 obtain ⟨E0, hE0⟩ : ∃ E, E = Rat.divInt 0 1 := ⟨_, rfl⟩
 rw [← hE0] at hof
 have HE0 := Lib.hid hE0; clear hE0
 have HCN := Lib.hid hcn; clear hcn
 have HLG := Lib.hid hlg; clear hlg
 have HOF := Lib.hid hof; clear hof
 have HM := Lib.hid hm; clear hm
 have HR0 := Lib.hid hr; clear hr
 clear h64 hev
 obtain ⟨w4, hw4⟩ : ∃ w4, w4 = (w.alloc (.cells #[.bool (ineg (q).num), .string (imag (q).num), .bool (ineg ((q).den : Int)), .string (imag ((q).den : Int))] 27)).alloc (.cells #[.bool false, .string ⟨#[]⟩, .bool false, .string ⟨#[]⟩] 27) := ⟨_, rfl⟩
 have k_r : Blk w4 (w.heap.size) 27 [.bool (ineg (q).num), .string (imag (q).num), .bool (ineg ((q).den : Int)), .string (imag ((q).den : Int))] := by
  rw [hw4]
  have h := ((Blk.new (w) 27 [.bool (ineg (q).num), .string (imag (q).num), .bool (ineg ((q).den : Int)), .string (imag ((q).den : Int))]).alloc (.cells #[.bool false, .string ⟨#[]⟩, .bool false, .string ⟨#[]⟩] 27))
  (try simp only [World.size_alloc, Nat.add_assoc, Nat.reduceAdd] at h)
  exact h
 have k_o : Blk w4 (w.heap.size + 1) 27 [.bool false, .string ⟨#[]⟩, .bool false, .string ⟨#[]⟩] := by
  rw [hw4]
  have h := (Blk.new (w.alloc (.cells #[.bool (ineg (q).num), .string (imag (q).num), .bool (ineg ((q).den : Int)), .string (imag ((q).den : Int))] 27)) 27 [.bool false, .string ⟨#[]⟩, .bool false, .string ⟨#[]⟩])
  (try simp only [World.size_alloc, Nat.add_assoc, Nat.reduceAdd] at h)
  exact h
 have tl : Below w.heap.size w w4 := by
  rw [hw4]
  exact (((Below.refl w.heap.size w).alloc (by simp <;> omega) (.cells #[.bool (ineg (q).num), .string (imag (q).num), .bool (ineg ((q).den : Int)), .string (imag ((q).den : Int))] 27)).alloc (by simp <;> omega) (.cells #[.bool false, .string ⟨#[]⟩, .bool false, .string ⟨#[]⟩] 27))
 have hs4 : w4.heap.size = w.heap.size + 2 := by rw [hw4]; simp only [World.size_alloc]
 have r_0 := k_r.c 0 rfl
 have r_f0 := k_r.frozen 0
 have r_1 := k_r.c 1 rfl
 have r_f1 := k_r.frozen 1
 have r_2 := k_r.c 2 rfl
 have r_f2 := k_r.frozen 2
 have r_3 := k_r.c 3 rfl
 have r_f3 := k_r.frozen 3
 have HR := Lib.hid k_r; clear k_r
 have o_0 := k_o.c 0 rfl
 have o_f0 := k_o.frozen 0
 have o_1 := k_o.c 1 rfl
 have o_f1 := k_o.frozen 1
 have o_2 := k_o.c 2 rfl
 have o_f2 := k_o.frozen 2
 have o_3 := k_o.c 3 rfl
 have o_f3 := k_o.frozen 3
 have HO := Lib.hid k_o; clear k_o
 have HBL := Lib.hid tl; clear tl
 refine callsIn_of_wp_marks Tryz.func46 rfl trivial ?_ rfl
 simp only [Tryz.ntmps46, List.size_toArray, List.length_cons, List.length_nil, Nat.reduceAdd, Nat.reduceSub, Array.replicate_succ, Array.replicate_zero, List.push_toArray, List.append_toArray, List.nil_append, List.cons_append]
 gi_wp2
 (try rw [← hw4])
 clear hw4
 (try simp only [Nat.add_assoc, Nat.reduceAdd])
 refine ⟨trivial, (callsIn_wide (n := 7)).2 ((HCN.out _ (HR0.out.below HBL.out (Nat.le_refl _))).mono ?_)⟩
 rintro e w5 ⟨hq, v5, rfl, hv5⟩
 dsimp only
 have k_r := HR.out.keep hq
 have k_o := HO.out.keep hq
 have tl := HBL.out.trans ((hq).mono HBL.out.size)
 clear HBL HR HO
 clear r_0 r_f0 r_1 r_f1 r_2 r_f2 r_3 r_f3
 have r_0 := k_r.c 0 rfl
 have r_f0 := k_r.frozen 0
 have r_1 := k_r.c 1 rfl
 have r_f1 := k_r.frozen 1
 have r_2 := k_r.c 2 rfl
 have r_f2 := k_r.frozen 2
 have r_3 := k_r.c 3 rfl
 have r_f3 := k_r.frozen 3
 have HR := Lib.hid k_r; clear k_r
 clear o_0 o_f0 o_1 o_f1 o_2 o_f2 o_3 o_f3
 have o_0 := k_o.c 0 rfl
 have o_f0 := k_o.frozen 0
 have o_1 := k_o.c 1 rfl
 have o_f1 := k_o.frozen 1
 have o_2 := k_o.c 2 rfl
 have o_f2 := k_o.frozen 2
 have o_3 := k_o.c 3 rfl
 have o_f3 := k_o.frozen 3
 have HO := Lib.hid k_o; clear k_o
 have HBL := Lib.hid tl; clear tl
 clear hq
 obtain ⟨a5, c5, rfl, -⟩ := hv5.slice
 have hlt5 : ∀ b, (Value.slice a5 m c5).ownBlock = some b → b < w5.heap.size := fun b e => by
  rcases hv5 with ⟨h, -⟩ | ⟨b', off, cap, h, -, -, h3, -⟩
  ·
   cases h; cases e
  ·
   cases h; cases e; exact h3
 have HV5 := Lib.hid hv5; clear hv5
 gi_wp2
 refine ⟨trivial, (callsIn_wide (n := 7)).2 ((HLG.out _ _ _).mono ?_)⟩
 rintro e w6 ⟨hq, rfl⟩
 dsimp only
 have k_r := HR.out.keep hq
 have k_o := HO.out.keep hq
 have tl := HBL.out.trans ((hq).mono HBL.out.size)
 clear HBL HR HO
 clear r_0 r_f0 r_1 r_f1 r_2 r_f2 r_3 r_f3
 have r_0 := k_r.c 0 rfl
 have r_f0 := k_r.frozen 0
 have r_1 := k_r.c 1 rfl
 have r_f1 := k_r.frozen 1
 have r_2 := k_r.c 2 rfl
 have r_f2 := k_r.frozen 2
 have r_3 := k_r.c 3 rfl
 have r_f3 := k_r.frozen 3
 have HR := Lib.hid k_r; clear k_r
 clear o_0 o_f0 o_1 o_f1 o_2 o_f2 o_3 o_f3
 have o_0 := k_o.c 0 rfl
 have o_f0 := k_o.frozen 0
 have o_1 := k_o.c 1 rfl
 have o_f1 := k_o.frozen 1
 have o_2 := k_o.c 2 rfl
 have o_f2 := k_o.frozen 2
 have o_3 := k_o.c 3 rfl
 have o_f3 := k_o.frozen 3
 have HO := Lib.hid k_o; clear k_o
 have HBL := Lib.hid tl; clear tl
 have hv6 := HV5.out.below hq (Nat.le_refl _)
 have hs6 := hq.size
 clear HV5 hq
 have HV6 := Lib.hid hv6; clear hv6
 gi_wp2
 refine ⟨trivial, (callsIn_wide (n := 7)).2 ((HOF.out _).mono ?_)⟩
 rintro e w7 ⟨hq, rfl⟩
 dsimp only
 have k_r := HR.out.keep hq
 have k_o := HO.out.keep hq
 have tl := HBL.out.trans ((hq).mono HBL.out.size)
 clear HBL HR HO
 clear r_0 r_f0 r_1 r_f1 r_2 r_f2 r_3 r_f3
 have r_0 := k_r.c 0 rfl
 have r_f0 := k_r.frozen 0
 have r_1 := k_r.c 1 rfl
 have r_f1 := k_r.frozen 1
 have r_2 := k_r.c 2 rfl
 have r_f2 := k_r.frozen 2
 have r_3 := k_r.c 3 rfl
 have r_f3 := k_r.frozen 3
 have HR := Lib.hid k_r; clear k_r
 clear o_0 o_f0 o_1 o_f1 o_2 o_f2 o_3 o_f3
 have o_0 := k_o.c 0 rfl
 have o_f0 := k_o.frozen 0
 have o_1 := k_o.c 1 rfl
 have o_f1 := k_o.frozen 1
 have o_2 := k_o.c 2 rfl
 have o_f2 := k_o.frozen 2
 have o_3 := k_o.c 3 rfl
 have o_f3 := k_o.frozen 3
 have HO := Lib.hid k_o; clear k_o
 have HBL := Lib.hid tl; clear tl
 have hv7 := HV6.out.below hq (Nat.le_refl _)
 have hs7 := hq.size
 clear HV6 hq
 have HV7 := Lib.hid hv7; clear hv7
 have hlt_o := HO.out.lt
 obtain ⟨b_s, hb_s⟩ : ∃ b, b = w7.heap.size := ⟨_, rfl⟩
 have hal : Below w7.heap.size w7 (w7.alloc (.cells #[.bool (ineg (E0).num), .string (imag (E0).num), .bool (ineg ((E0).den : Int)), .string (imag ((E0).den : Int))] 27)) := (Below.refl _ _).alloc (Nat.le_refl _) _
 have k_s : Blk (w7.alloc (.cells #[.bool (ineg (E0).num), .string (imag (E0).num), .bool (ineg ((E0).den : Int)), .string (imag ((E0).den : Int))] 27)) b_s 27 [.bool (ineg (E0).num), .string (imag (E0).num), .bool (ineg ((E0).den : Int)), .string (imag ((E0).den : Int))] := by rw [hb_s]; exact Blk.new w7 _ _
 have hge_s : w.heap.size ≤ b_s := by rw [hb_s]; exact HBL.out.size
 have far_o_s : w.heap.size + 1 < b_s := by rw [hb_s]; exact hlt_o
 clear hlt_o
 have k_r := HR.out.keep hal
 have k_o := HO.out.keep hal
 have tl := HBL.out.trans ((hal).mono HBL.out.size)
 clear HBL HR HO
 clear r_0 r_f0 r_1 r_f1 r_2 r_f2 r_3 r_f3
 have r_0 := k_r.c 0 rfl
 have r_f0 := k_r.frozen 0
 have r_1 := k_r.c 1 rfl
 have r_f1 := k_r.frozen 1
 have r_2 := k_r.c 2 rfl
 have r_f2 := k_r.frozen 2
 have r_3 := k_r.c 3 rfl
 have r_f3 := k_r.frozen 3
 have HR := Lib.hid k_r; clear k_r
 clear o_0 o_f0 o_1 o_f1 o_2 o_f2 o_3 o_f3
 have o_0 := k_o.c 0 rfl
 have o_f0 := k_o.frozen 0
 have o_1 := k_o.c 1 rfl
 have o_f1 := k_o.frozen 1
 have o_2 := k_o.c 2 rfl
 have o_f2 := k_o.frozen 2
 have o_3 := k_o.c 3 rfl
 have o_f3 := k_o.frozen 3
 have HO := Lib.hid k_o; clear k_o
 have HBL := Lib.hid tl; clear tl
 clear hal
 have s_0 := k_s.c 0 rfl
 have s_f0 := k_s.frozen 0
 have s_1 := k_s.c 1 rfl
 have s_f1 := k_s.frozen 1
 have s_2 := k_s.c 2 rfl
 have s_f2 := k_s.frozen 2
 have s_3 := k_s.c 3 rfl
 have s_f3 := k_s.frozen 3
 have HS := Lib.hid k_s; clear k_s
 obtain ⟨w8, hw8⟩ : ∃ x, x = (w7.alloc (.cells #[.bool (ineg (E0).num), .string (imag (E0).num), .bool (ineg ((E0).den : Int)), .string (imag ((E0).den : Int))] 27)) := ⟨_, rfl⟩
 rw [← hw8] at HR
 rw [← hw8] at HO
 rw [← hw8] at HS
 rw [← hw8] at HBL
 rw [← hw8] at r_0 r_f0 r_1 r_f1 r_2 r_f2 r_3 r_f3 o_0 o_f0 o_1 o_f1 o_2 o_f2 o_3 o_f3 s_0 s_f0 s_1 s_f1 s_2 s_f2 s_3 s_f3
 have hal8 : Below w7.heap.size w7 w8 := by rw [hw8]; exact (Below.refl _ _).alloc (Nat.le_refl _) _
 have hv8 := HV7.out.below hal8 (Nat.le_refl _)
 have hs8 : w8.heap.size = b_s + 1 := by rw [hw8, hb_s]; simp
 have HV8 := Lib.hid hv8; clear hv8
 have HW8 := Lib.hid hw8; clear hw8
 clear HV7 hal8
 have hb_s2 : w7.heap.size = b_s := hb_s.symm
 have HB_s := Lib.hid hb_s; clear hb_s
 have hlt7 : w5.heap.size ≤ b_s := by omega
 clear hb_s2 hs6 hs7
 gi_wp2
 (try rw [← HB_s.out])
 (try rw [← HW8.out])
 refine ⟨trivial, (callsIn_wide (n := 7)).2 ((desc_any _ _ _ _).mono ?_)⟩
 rintro e w9' ⟨rfl, rfl⟩
 dsimp only
 obtain ⟨w9, hw9⟩ : ∃ x, x = w8.alloc (.cells #[.slice a5 m c5] 22) := ⟨_, rfl⟩
 have hal9 : Below w8.heap.size w8 w9 := by rw [hw9]; exact (Below.refl _ _).alloc (Nat.le_refl _) _
 have k_r := HR.out.keep hal9
 have k_o := HO.out.keep hal9
 have k_s := HS.out.keep hal9
 have tl := HBL.out.trans ((hal9).mono HBL.out.size)
 clear HBL HR HO HS
 clear r_0 r_f0 r_1 r_f1 r_2 r_f2 r_3 r_f3
 have r_0 := k_r.c 0 rfl
 have r_f0 := k_r.frozen 0
 have r_1 := k_r.c 1 rfl
 have r_f1 := k_r.frozen 1
 have r_2 := k_r.c 2 rfl
 have r_f2 := k_r.frozen 2
 have r_3 := k_r.c 3 rfl
 have r_f3 := k_r.frozen 3
 have HR := Lib.hid k_r; clear k_r
 clear o_0 o_f0 o_1 o_f1 o_2 o_f2 o_3 o_f3
 have o_0 := k_o.c 0 rfl
 have o_f0 := k_o.frozen 0
 have o_1 := k_o.c 1 rfl
 have o_f1 := k_o.frozen 1
 have o_2 := k_o.c 2 rfl
 have o_f2 := k_o.frozen 2
 have o_3 := k_o.c 3 rfl
 have o_f3 := k_o.frozen 3
 have HO := Lib.hid k_o; clear k_o
 clear s_0 s_f0 s_1 s_f1 s_2 s_f2 s_3 s_f3
 have s_0 := k_s.c 0 rfl
 have s_f0 := k_s.frozen 0
 have s_1 := k_s.c 1 rfl
 have s_f1 := k_s.frozen 1
 have s_2 := k_s.c 2 rfl
 have s_f2 := k_s.frozen 2
 have s_3 := k_s.c 3 rfl
 have s_f3 := k_s.frozen 3
 have HS := Lib.hid k_s; clear k_s
 have HBL := Lib.hid tl; clear tl
 have hv9 := HV8.out.below hal9 (Nat.le_refl _)
 have hbd : Blk w9 w8.heap.size 22 [.slice a5 m c5] := by rw [hw9]; exact Blk.new _ _ _
 have hs9 : w9.heap.size = w8.heap.size + 1 := by rw [hw9]; simp
 rw [← hw9]
 have HV9 := Lib.hid hv9; clear hv9
 clear HV8 hal9 hw9
 obtain ⟨bd, hbd9⟩ : ∃ b, b = w8.heap.size := ⟨_, rfl⟩
 rw [← hbd9] at hbd hs9 ⊢
 have hbs : bd = b_s + 1 := by omega
 have HBD9 := Lib.hid hbd9; clear hbd9
 have HBD := Lib.hid hbd; clear hbd
 have HBS9 := Lib.hid hbs; clear hbs
 have hbs1 : b_s + 1 ≤ bd := by have := HBS9.out; omega
 gi_wp2
 refine range_y (n := 8) (α := Int × Int) (Y := atY l) (encs := fun x : Int × Int => #[.int .i64 x.1, .agg #[.bool (ineg x.2), .string (imag x.2)]]) (cI := fun _ _ => False) (cC := atC b_s) (S := fun xs _ => xs.map Prod.snd = l.reverse) rfl (by decide) (gf := 137) (lb := #[.pointer (some ⟨bd, 0, none⟩)]) rfl trivial (enters_of Tryz.func137 (by kernel_rfl) rfl)
  (desc_seq 7 (by decide) l (by rw [← HM.out]; omega) bd b_s (by omega) w9 _ HBD.out (by rw [← HM.out]; exact HV9.out) (fun k e => by have := hlt5 k e; omega))
  (fun _ _ h => h.elim) (fun _ _ h => Or.inr h) (fun _ => rfl)
  (fun pre W => Below w.heap.size w W ∧ w9.heap.size ≤ W.heap.size ∧ Blk W w.heap.size 27 [.bool (ineg (q).num), .string (imag (q).num), .bool (ineg ((q).den : Int)), .string (imag ((q).den : Int))] ∧ Blk W (w.heap.size + 1) 27 [.bool false, .string ⟨#[]⟩, .bool false, .string ⟨#[]⟩] ∧ Blk W b_s 27 [.bool (ineg ((evL q (pre.map Prod.snd))).num), .string (imag ((evL q (pre.map Prod.snd))).num), .bool (ineg (((evL q (pre.map Prod.snd))).den : Int)), .string (imag (((evL q (pre.map Prod.snd))).den : Int))]) ?hI ?h0 ?hS (fun x => .cells #[.bool (ineg x.2), .string (imag x.2)] 25 (0, 0)) ?a1 ?assign ?body ?done
 case h0 => exact ⟨HBL.out, Nat.le_refl _, HR.out, HO.out, by rw [show evL q (([] : List (Int × Int)).map Prod.snd) = E0 from HE0.out.symm]; exact HS.out⟩
 case hI =>
  rintro s A B ⟨i1, i2, i3, i4, i5⟩ ho
  have hn : ∀ k, k < w9.heap.size → ∀ o : Obj, ¬ (False ∨ (o.isCells = false ∧ w9.heap.size ≤ k)) := by
   rintro k hk o (h | ⟨-, h⟩)
   ·
    exact h
   ·
    omega
  exact ⟨ho.below i1 (by omega) (fun k o hk => hn k (by omega) o), Nat.le_trans i2 ho.size, ho.blk i3 (hn _ (by omega)), ho.blk i4 (hn _ (by omega)), ho.blk i5 (hn _ (by omega))⟩
 case hS => exact fun _ _ _ h _ => h
 case assign =>
  intro l' x W K b hb hK
  gi_wp2
  rw [← hb]
  exact hK
 case body =>
  clear HBL HR HO HS r_0 r_f0 r_1 r_f1 r_2 r_f2 r_3 r_f3 o_0 o_f0 o_1 o_f1 o_2 o_f2 o_3 o_f3 s_0 s_f0 s_1 s_f1 s_2 s_f2 s_3 s_f3
  rintro l' pre ⟨i, c⟩ b W hY ⟨i1, i2, k_r, k_o, k_s⟩ hob hbw
  unfold atY at hY
  rw [List.map_append] at hY
  have hs1 := hfr _ ((List.prefix_append _ _).trans hY)
  have hev1 : evL q ((pre ++ [(i, c)]).map Prod.snd) = evL q (pre.map Prod.snd) * q + Rat.divInt c 1 := by rw [List.map_append]; exact evL_snoc _ _ _
  have hcm : c ∈ l := by
   have h2 := hY.subset (a := c) (by simp)
   exact List.mem_reverse.1 h2
  have hcz := hs c hcm
  obtain ⟨s, hs0⟩ : ∃ s, s = evL q (pre.map Prod.snd) := ⟨_, rfl⟩
  rw [← hs0] at k_s hs1 hev1
  have k_x : Blk W b 25 [.bool (ineg c), .string (imag c)] := hob
  have hmu := fun w' => rmul_anyQ (ineg s.num) (ineg (s.den : Int)) (imag s.num) (imag (s.den : Int)) (ineg q.num) (ineg (q.den : Int)) (imag q.num) (imag (q.den : Int)) w' (Nat.le_trans hs1.1.size (by omega)) (Nat.le_trans hs1.2.size (by omega)) (Nat.le_trans hq.1.size (by omega)) (Nat.le_trans hq.2.size (by omega))
  simp only [ival_canon, Rat.num_divInt_den] at hmu
  have hqf := fun w' => qof_any (ineg c) (imag c) w' (Nat.le_trans hcz.size (by omega))
  simp only [ival_canon] at hqf
  have hmz : rs (K + K + 1) (s * q) := by rw [← rat_mul]; exact divInt_sized ((hs1.1.mul hq.1).mono (by omega)) ((hs1.2.mul hq.2).mono (by omega)) (by omega)
  have hcq : rs (m0 + 1) (Rat.divInt c 1) := divInt_sized (hcz.mono (by omega)) (by have h9 := zs_nat 1 (m0 + 1) (Nat.one_lt_pow (by omega) (by decide)); exact h9) (by omega)
  obtain ⟨p, hp⟩ : ∃ p, p = s * q := ⟨_, rfl⟩
  obtain ⟨r, hr⟩ : ∃ r, r = Rat.divInt c 1 := ⟨_, rfl⟩
  rw [← hp] at hmu hmz hev1
  rw [← hr] at hqf hcq hev1
  have had := fun w' => radd_anyQ (ineg p.num) (ineg (p.den : Int)) (imag p.num) (imag (p.den : Int)) (ineg r.num) (ineg (r.den : Int)) (imag r.num) (imag (r.den : Int)) w' (Nat.le_trans hmz.1.size (by omega)) (Nat.le_trans hmz.2.size (by omega)) (Nat.le_trans hcq.1.size (by omega)) (Nat.le_trans hcq.2.size (by omega))
  simp only [ival_canon, Rat.num_divInt_den] at had
  obtain ⟨E, hE⟩ : ∃ E, E = p + r := ⟨_, rfl⟩
  rw [← hE] at had hev1
  have tl := Below.refl W.heap.size W
  have hn1 : ¬ b = b_s := by omega
  have hn2 : ¬ b_s = b := by omega
  have hn3 : ¬ w.heap.size = b_s := by omega
  have hn4 : ¬ b_s = w.heap.size := by omega
  have HMU := Lib.hid hmu; clear hmu
  have HQF := Lib.hid hqf; clear hqf
  have HAD := Lib.hid had; clear had
  have HEV := Lib.hid hev1; clear hev1
  have I1 := Lib.hid i1; clear i1
  clear hY hs1 hcm hcz hs0 hob hmz hcq hp hr hE
  have r_0 := k_r.c 0 rfl
  have r_f0 := k_r.frozen 0
  have r_1 := k_r.c 1 rfl
  have r_f1 := k_r.frozen 1
  have r_2 := k_r.c 2 rfl
  have r_f2 := k_r.frozen 2
  have r_3 := k_r.c 3 rfl
  have r_f3 := k_r.frozen 3
  have HR := Lib.hid k_r; clear k_r
  have o_0 := k_o.c 0 rfl
  have o_f0 := k_o.frozen 0
  have o_1 := k_o.c 1 rfl
  have o_f1 := k_o.frozen 1
  have o_2 := k_o.c 2 rfl
  have o_f2 := k_o.frozen 2
  have o_3 := k_o.c 3 rfl
  have o_f3 := k_o.frozen 3
  have HO := Lib.hid k_o; clear k_o
  have s_0 := k_s.c 0 rfl
  have s_f0 := k_s.frozen 0
  have s_1 := k_s.c 1 rfl
  have s_f1 := k_s.frozen 1
  have s_2 := k_s.c 2 rfl
  have s_f2 := k_s.frozen 2
  have s_3 := k_s.c 3 rfl
  have s_f3 := k_s.frozen 3
  have HS := Lib.hid k_s; clear k_s
  have x_0 := k_x.c 0 rfl
  have x_f0 := k_x.frozen 0
  have x_1 := k_x.c 1 rfl
  have x_f1 := k_x.frozen 1
  have HX := Lib.hid k_x; clear k_x
  have HBL := Lib.hid tl; clear tl
  gi_wp2
  have HR := Lib.hid HR.out.drew
  have HO := Lib.hid HO.out.drew
  have HS := Lib.hid HS.out.drew
  have HX := Lib.hid HX.out.drew
  have HBL := Lib.hid HBL.out.drew
  refine wpIn_round_held (S := fun w' => w'.cell? ⟨w.heap.size, 0, none⟩ = some (.bool (ineg (q).num)) ∧ w'.cell? ⟨w.heap.size, 1, none⟩ = some (.string (imag (q).num)) ∧ w'.cell? ⟨w.heap.size, 2, none⟩ = some (.bool (ineg ((q).den : Int))) ∧ w'.cell? ⟨w.heap.size, 3, none⟩ = some (.string (imag ((q).den : Int))) ∧ w'.cell? ⟨b, 0, none⟩ = some (.bool (ineg c)) ∧ w'.cell? ⟨b, 1, none⟩ = some (.string (imag c))) (by kernel_rfl) (fun ⟨_, _, h⟩ => by first | exact h | (cases h.1)) (by rfl) ?_ (fun hHeld0 => ?_)
  ·
   go_keep
  refine zT 1 (h := ?_)
  (try simp only [Act.put, zA, zB, zC])
  refine zT 3 (h := ?_)
  (try simp only [Act.put, zA, zB, zC])
  refine zR 0 (h := fun K hK => ?_)
  go_simp
  refine hK.out _ _ ?_ (fun hHeld1 => ?_)
  ·
   ((try dsimp only); go_keep)
  clear hK K
  (try simp only [Act.put, zA, zB, zC])
  refine zR 2 (h := fun K hK => ?_)
  go_simp
  go_at_call 93
  refine (HMU.out _).mono ?_
  rintro e w51 ⟨hq, rfl⟩
  dsimp only
  have z0 := (hq.cell (p := ⟨w.heap.size, 0, none⟩) HR.out.lt).trans hHeld1.1
  have z1 := (hq.cell (p := ⟨w.heap.size, 1, none⟩) HR.out.lt).trans hHeld1.2.1
  have z2 := (hq.cell (p := ⟨w.heap.size, 2, none⟩) HR.out.lt).trans hHeld1.2.2.1
  have z3 := (hq.cell (p := ⟨w.heap.size, 3, none⟩) HR.out.lt).trans hHeld1.2.2.2.1
  have z4 := (hq.cell (p := ⟨b, 0, none⟩) HX.out.lt).trans hHeld1.2.2.2.2.1
  have z5 := (hq.cell (p := ⟨b, 1, none⟩) HX.out.lt).trans hHeld1.2.2.2.2.2
  refine hK.out _ _ ⟨z0, z1, z2, z3, z4, z5⟩ (fun hHeld2 => ?_)
  clear hK K hHeld1 z0 z1 z2 z3 z4 z5
  (try simp only [Act.put, zA, zB, zC])
  have k_r := HR.out.keep hq
  have k_o := HO.out.keep hq
  have k_s := HS.out.keep hq
  have k_x := HX.out.keep hq
  have tl := HBL.out.trans ((hq).mono HBL.out.size)
  clear HBL HR HO HS HX
  clear r_0 r_f0 r_1 r_f1 r_2 r_f2 r_3 r_f3
  have r_0 := k_r.c 0 rfl
  have r_f0 := k_r.frozen 0
  have r_1 := k_r.c 1 rfl
  have r_f1 := k_r.frozen 1
  have r_2 := k_r.c 2 rfl
  have r_f2 := k_r.frozen 2
  have r_3 := k_r.c 3 rfl
  have r_f3 := k_r.frozen 3
  have HR := Lib.hid k_r; clear k_r
  clear o_0 o_f0 o_1 o_f1 o_2 o_f2 o_3 o_f3
  have o_0 := k_o.c 0 rfl
  have o_f0 := k_o.frozen 0
  have o_1 := k_o.c 1 rfl
  have o_f1 := k_o.frozen 1
  have o_2 := k_o.c 2 rfl
  have o_f2 := k_o.frozen 2
  have o_3 := k_o.c 3 rfl
  have o_f3 := k_o.frozen 3
  have HO := Lib.hid k_o; clear k_o
  clear s_0 s_f0 s_1 s_f1 s_2 s_f2 s_3 s_f3
  have s_0 := k_s.c 0 rfl
  have s_f0 := k_s.frozen 0
  have s_1 := k_s.c 1 rfl
  have s_f1 := k_s.frozen 1
  have s_2 := k_s.c 2 rfl
  have s_f2 := k_s.frozen 2
  have s_3 := k_s.c 3 rfl
  have s_f3 := k_s.frozen 3
  have HS := Lib.hid k_s; clear k_s
  clear x_0 x_f0 x_1 x_f1
  have x_0 := k_x.c 0 rfl
  have x_f0 := k_x.frozen 0
  have x_1 := k_x.c 1 rfl
  have x_f1 := k_x.frozen 1
  have HX := Lib.hid k_x; clear k_x
  have HBL := Lib.hid tl; clear tl
  clear hq
  refine zR 4 (h := fun K hK => ?_)
  go_simp
  go_at_call 39
  refine (HQF.out _).mono ?_
  rintro e w52 ⟨hq, rfl⟩
  dsimp only
  have z0 := (hq.cell (p := ⟨w.heap.size, 0, none⟩) HR.out.lt).trans hHeld2.1
  have z1 := (hq.cell (p := ⟨w.heap.size, 1, none⟩) HR.out.lt).trans hHeld2.2.1
  have z2 := (hq.cell (p := ⟨w.heap.size, 2, none⟩) HR.out.lt).trans hHeld2.2.2.1
  have z3 := (hq.cell (p := ⟨w.heap.size, 3, none⟩) HR.out.lt).trans hHeld2.2.2.2.1
  have z4 := (hq.cell (p := ⟨b, 0, none⟩) HX.out.lt).trans hHeld2.2.2.2.2.1
  have z5 := (hq.cell (p := ⟨b, 1, none⟩) HX.out.lt).trans hHeld2.2.2.2.2.2
  refine hK.out _ _ ⟨z0, z1, z2, z3, z4, z5⟩ (fun hHeld3 => ?_)
  clear hK K hHeld2 z0 z1 z2 z3 z4 z5
  (try simp only [Act.put, zA, zB, zC])
  have k_r := HR.out.keep hq
  have k_o := HO.out.keep hq
  have k_s := HS.out.keep hq
  have k_x := HX.out.keep hq
  have tl := HBL.out.trans ((hq).mono HBL.out.size)
  clear HBL HR HO HS HX
  clear r_0 r_f0 r_1 r_f1 r_2 r_f2 r_3 r_f3
  have r_0 := k_r.c 0 rfl
  have r_f0 := k_r.frozen 0
  have r_1 := k_r.c 1 rfl
  have r_f1 := k_r.frozen 1
  have r_2 := k_r.c 2 rfl
  have r_f2 := k_r.frozen 2
  have r_3 := k_r.c 3 rfl
  have r_f3 := k_r.frozen 3
  have HR := Lib.hid k_r; clear k_r
  clear o_0 o_f0 o_1 o_f1 o_2 o_f2 o_3 o_f3
  have o_0 := k_o.c 0 rfl
  have o_f0 := k_o.frozen 0
  have o_1 := k_o.c 1 rfl
  have o_f1 := k_o.frozen 1
  have o_2 := k_o.c 2 rfl
  have o_f2 := k_o.frozen 2
  have o_3 := k_o.c 3 rfl
  have o_f3 := k_o.frozen 3
  have HO := Lib.hid k_o; clear k_o
  clear s_0 s_f0 s_1 s_f1 s_2 s_f2 s_3 s_f3
  have s_0 := k_s.c 0 rfl
  have s_f0 := k_s.frozen 0
  have s_1 := k_s.c 1 rfl
  have s_f1 := k_s.frozen 1
  have s_2 := k_s.c 2 rfl
  have s_f2 := k_s.frozen 2
  have s_3 := k_s.c 3 rfl
  have s_f3 := k_s.frozen 3
  have HS := Lib.hid k_s; clear k_s
  clear x_0 x_f0 x_1 x_f1
  have x_0 := k_x.c 0 rfl
  have x_f0 := k_x.frozen 0
  have x_1 := k_x.c 1 rfl
  have x_f1 := k_x.frozen 1
  have HX := Lib.hid k_x; clear k_x
  have HBL := Lib.hid tl; clear tl
  clear hq
  refine zR 5 (h := fun K hK => ?_)
  go_simp
  go_at_call 32
  refine (HAD.out _).mono ?_
  rintro e w53 ⟨hq, rfl⟩
  dsimp only
  have z0 := (hq.cell (p := ⟨w.heap.size, 0, none⟩) HR.out.lt).trans hHeld3.1
  have z1 := (hq.cell (p := ⟨w.heap.size, 1, none⟩) HR.out.lt).trans hHeld3.2.1
  have z2 := (hq.cell (p := ⟨w.heap.size, 2, none⟩) HR.out.lt).trans hHeld3.2.2.1
  have z3 := (hq.cell (p := ⟨w.heap.size, 3, none⟩) HR.out.lt).trans hHeld3.2.2.2.1
  have z4 := (hq.cell (p := ⟨b, 0, none⟩) HX.out.lt).trans hHeld3.2.2.2.2.1
  have z5 := (hq.cell (p := ⟨b, 1, none⟩) HX.out.lt).trans hHeld3.2.2.2.2.2
  refine hK.out _ _ ⟨z0, z1, z2, z3, z4, z5⟩ (fun hHeld4 => ?_)
  clear hK K hHeld3 z0 z1 z2 z3 z4 z5
  (try simp only [Act.put, zA, zB, zC])
  have k_r := HR.out.keep hq
  have k_o := HO.out.keep hq
  have k_s := HS.out.keep hq
  have k_x := HX.out.keep hq
  have tl := HBL.out.trans ((hq).mono HBL.out.size)
  clear HBL HR HO HS HX
  clear r_0 r_f0 r_1 r_f1 r_2 r_f2 r_3 r_f3
  have r_0 := k_r.c 0 rfl
  have r_f0 := k_r.frozen 0
  have r_1 := k_r.c 1 rfl
  have r_f1 := k_r.frozen 1
  have r_2 := k_r.c 2 rfl
  have r_f2 := k_r.frozen 2
  have r_3 := k_r.c 3 rfl
  have r_f3 := k_r.frozen 3
  have HR := Lib.hid k_r; clear k_r
  clear o_0 o_f0 o_1 o_f1 o_2 o_f2 o_3 o_f3
  have o_0 := k_o.c 0 rfl
  have o_f0 := k_o.frozen 0
  have o_1 := k_o.c 1 rfl
  have o_f1 := k_o.frozen 1
  have o_2 := k_o.c 2 rfl
  have o_f2 := k_o.frozen 2
  have o_3 := k_o.c 3 rfl
  have o_f3 := k_o.frozen 3
  have HO := Lib.hid k_o; clear k_o
  clear s_0 s_f0 s_1 s_f1 s_2 s_f2 s_3 s_f3
  have s_0 := k_s.c 0 rfl
  have s_f0 := k_s.frozen 0
  have s_1 := k_s.c 1 rfl
  have s_f1 := k_s.frozen 1
  have s_2 := k_s.c 2 rfl
  have s_f2 := k_s.frozen 2
  have s_3 := k_s.c 3 rfl
  have s_f3 := k_s.frozen 3
  have HS := Lib.hid k_s; clear k_s
  clear x_0 x_f0 x_1 x_f1
  have x_0 := k_x.c 0 rfl
  have x_f0 := k_x.frozen 0
  have x_1 := k_x.c 1 rfl
  have x_f1 := k_x.frozen 1
  have HX := Lib.hid k_x; clear k_x
  have HBL := Lib.hid tl; clear tl
  clear hq
  refine zR 6 (h := fun K hK => ?_)
  go_simp
  refine hK.out _ _ ?_ (fun hHeld5 => ?_)
  ·
   ((try dsimp only); go_keep)
  clear hK K
  (try simp only [Act.put, zA, zB, zC])
  refine wpAnyH_done (by kernel_rfl) ?_ _
  (try simp only [List.getElem_toArray, List.getElem_cons_zero, List.getElem_cons_succ, Act.put, zA, zB, zC])
  have on := (((((Only.ofBelow _ HBL.out).trans (blk_only HS.out 0 (.bool (ineg (E).num)))).trans (blk_only (HS.out.set 0 (.bool (ineg (E).num))) 1 (.string (imag (E).num)))).trans (blk_only ((HS.out.set 0 (.bool (ineg (E).num))).set 1 (.string (imag (E).num))) 2 (.bool (ineg ((E).den : Int))))).trans (blk_only (((HS.out.set 0 (.bool (ineg (E).num))).set 1 (.string (imag (E).num))).set 2 (.bool (ineg ((E).den : Int)))) 3 (.string (imag ((E).den : Int)))))
  have hszE := on.size
  refine ⟨rfl, on, (((((I1.out.trans (HBL.out.mono I1.out.size)).setCell (p := ⟨b_s, 0, none⟩) (by show w.heap.size ≤ b_s; omega) (.bool (ineg (E).num))).setCell (p := ⟨b_s, 1, none⟩) (by show w.heap.size ≤ b_s; omega) (.string (imag (E).num))).setCell (p := ⟨b_s, 2, none⟩) (by show w.heap.size ≤ b_s; omega) (.bool (ineg ((E).den : Int)))).setCell (p := ⟨b_s, 3, none⟩) (by show w.heap.size ≤ b_s; omega) (.string (imag ((E).den : Int)))), Nat.le_trans i2 hszE, ((((HR.out.setOther (a := ⟨b_s, 0, none⟩) (by show b_s ≠ w.heap.size; omega) (.bool (ineg (E).num))).setOther (a := ⟨b_s, 1, none⟩) (by show b_s ≠ w.heap.size; omega) (.string (imag (E).num))).setOther (a := ⟨b_s, 2, none⟩) (by show b_s ≠ w.heap.size; omega) (.bool (ineg ((E).den : Int)))).setOther (a := ⟨b_s, 3, none⟩) (by show b_s ≠ w.heap.size; omega) (.string (imag ((E).den : Int)))), ((((HO.out.setOther (a := ⟨b_s, 0, none⟩) (by show b_s ≠ w.heap.size + 1; omega) (.bool (ineg (E).num))).setOther (a := ⟨b_s, 1, none⟩) (by show b_s ≠ w.heap.size + 1; omega) (.string (imag (E).num))).setOther (a := ⟨b_s, 2, none⟩) (by show b_s ≠ w.heap.size + 1; omega) (.bool (ineg ((E).den : Int)))).setOther (a := ⟨b_s, 3, none⟩) (by show b_s ≠ w.heap.size + 1; omega) (.string (imag ((E).den : Int)))), ?_⟩
  rw [HEV.out]
  exact ((((HS.out.set 0 (.bool (ineg (E).num))).set 1 (.string (imag (E).num))).set 2 (.bool (ineg ((E).den : Int)))).set 3 (.string (imag ((E).den : Int))))
 case done =>
  clear HBL HR HO HS r_0 r_f0 r_1 r_f1 r_2 r_f2 r_3 r_f3 o_0 o_f0 o_1 o_f1 o_2 o_f2 o_3 o_f3 s_0 s_f0 s_1 s_f1 s_2 s_f2 s_3 s_f3
  rintro D' xs W hD' hS ⟨i1, i2, k_r, k_o, k_s⟩ hdef
  rw [hS] at k_s
  obtain ⟨E, hE⟩ : ∃ E, E = evL q l.reverse := ⟨_, rfl⟩
  rw [← hE] at k_s
  have HEE := Lib.hid hE; clear hE
  have I1 := Lib.hid i1; clear i1
  clear hS k_r
  have s_0 := k_s.c 0 rfl
  have o_0 := k_o.c 0 rfl
  have o_f0 := k_o.frozen 0
  have s_1 := k_s.c 1 rfl
  have o_1 := k_o.c 1 rfl
  have o_f1 := k_o.frozen 1
  have s_2 := k_s.c 2 rfl
  have o_2 := k_o.c 2 rfl
  have o_f2 := k_o.frozen 2
  have s_3 := k_s.c 3 rfl
  have o_3 := k_o.c 3 rfl
  have o_f3 := k_o.frozen 3
  have k2f := ((((k_o.set 0 (.bool (ineg (E).num))).set 1 (.string (imag (E).num))).set 2 (.bool (ineg ((E).den : Int)))).set 3 (.string (imag ((E).den : Int))))
  have K2F := Lib.hid k2f; clear k2f
  have KO := Lib.hid k_o; clear k_o
  have KS := Lib.hid k_s; clear k_s
  have hb9 := ((((I1.out.setCell (p := ⟨w.heap.size + 1, 0, none⟩) (by show w.heap.size ≤ w.heap.size + 1; omega) (.bool (ineg (E).num))).setCell (p := ⟨w.heap.size + 1, 1, none⟩) (by show w.heap.size ≤ w.heap.size + 1; omega) (.string (imag (E).num))).setCell (p := ⟨w.heap.size + 1, 2, none⟩) (by show w.heap.size ≤ w.heap.size + 1; omega) (.bool (ineg ((E).den : Int)))).setCell (p := ⟨w.heap.size + 1, 3, none⟩) (by show w.heap.size ≤ w.heap.size + 1; omega) (.string (imag ((E).den : Int))))
  have HB9 := Lib.hid hb9; clear hb9
  have hgeo : w.heap.size + 1 < w9.heap.size := by omega
  gi_wp2
  refine leaves_marks w9.heap.size (fun W => Below w.heap.size w W ∧ Blk W (w.heap.size + 1) 27 [.bool (ineg (E).num), .string (imag (E).num), .bool (ineg ((E).den : Int)), .string (imag ((E).den : Int))]) (fun W D hB hk hD => ⟨hk.1.grown (grownBy_putObj' W D _) hk.1.size (fun j' e' => by cases e'; omega), hk.2.of_block (World.putObj_heap_other (by omega))⟩) (fun W hk => ?hfin) [D'] _ ⟨HB9.out, K2F.out⟩ (fun D'' h' => ?hd) (List.nodup_cons.2 ⟨by simp, List.nodup_nil⟩) (fun D'' h' => ?hge)
  case hfin =>
   have e0 := hk.2.c 0 rfl
   have e1 := hk.2.c 1 rfl
   have e2 := hk.2.c 2 rfl
   have e3 := hk.2.c 3 rfl
   refine ⟨.tuple #[RatV E, .int .i64 0], ?_, hk.1, by rw [HEE.out]⟩
   simp [results, Tryz.results46, go_sem, e0, e1, e2, e3]
  case hd =>
   obtain rfl : D'' = D' := by simpa using h'
   exact ((((Below.heap_setCell _ _ _ D'' (by show D'' ≠ w.heap.size + 1; omega)).trans (Below.heap_setCell _ _ _ D'' (by show D'' ≠ w.heap.size + 1; omega))).trans (Below.heap_setCell _ _ _ D'' (by show D'' ≠ w.heap.size + 1; omega))).trans (Below.heap_setCell _ _ _ D'' (by show D'' ≠ w.heap.size + 1; omega))).trans hdef
  case hge =>
   obtain rfl : D'' = D' := by simpa using h'
   exact hD'
end Go.Proofs.YtjpalbonclgflaaGreat
