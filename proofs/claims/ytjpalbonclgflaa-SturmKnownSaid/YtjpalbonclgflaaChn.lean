/- sturm.chain as an iterator (printed by gen_chn.py). -/
import Derived.Test.YtjpalbonclgflaaRed
import Derived.Test.YtjpalbonclgflaaPart8
import Derived.Test.YtjpalbonclgflaaPart7
namespace Go.Proofs.Ytjpalbonclgflaa
open Go.RowKit Go.Shelf

attribute [local go_sem] Oper.semAt_some

theorem civ_not_slice (l : List Int) : ∀ x ∈ civ l, ∀ a n m, x ≠ .slice a n m := by
  intro x hx a n m e
  unfold civ at hx
  obtain ⟨z, -, hz⟩ := List.mem_flatMap.1 hx
  simp at hz
  rcases hz with rfl | rfl <;> cases e
def Rws (B : Nat) (W : World) (xs : List Hdr) (rows : List (List Int)) : Prop := xs.length = rows.length ∧ ∀ (i : Nat) (x : Hdr) (r : List Int), xs[i]? = some x → rows[i]? = some r → Row W (hv x) r.length (civ r) ∧ ∀ b, (hv x).ownBlock = some b → B ≤ b
theorem Rws.nil (B : Nat) (W : World) : Rws B W [] [] := ⟨rfl, fun i x r h => by simp at h⟩
theorem Rws.only {c : Nat → Obj → Prop} {D : Nat} {A B : World} {xs : List Hdr} {rows : List (List Int)} (h : Rws D A xs rows) (ho : Only c A B) (hc : ∀ b o, c b o → Slices o) : Rws D B xs rows :=
  ⟨h.1, fun i x r hx hr => ⟨Row.only ho hc (h.2 i x r hx hr).1 (civ_not_slice _), (h.2 i x r hx hr).2⟩⟩
theorem Rws.below {D : Nat} {A B : World} {xs : List Hdr} {rows : List (List Int)} (h : Rws D A xs rows) (ho : Below A.heap.size A B) : Rws D B xs rows :=
  ⟨h.1, fun i x r hx hr => ⟨Row.below (h.2 i x r hx hr).1 ho (Nat.le_refl _), (h.2 i x r hx hr).2⟩⟩
theorem Rws.snoc {D : Nat} {W : World} {xs : List Hdr} {rows : List (List Int)} (h : Rws D W xs rows) {x : Hdr} {r : List Int} (hr : Row W (hv x) r.length (civ r) ∧ ∀ b, (hv x).ownBlock = some b → D ≤ b) : Rws D W (xs ++ [x]) (rows ++ [r]) := by
  refine ⟨by simp [h.1], fun i y s hy hs => ?_⟩
  rcases Nat.lt_trichotomy i xs.length with hi | hi | hi
  · rw [List.getElem?_append_left hi] at hy
    rw [List.getElem?_append_left (by rw [← h.1]; exact hi)] at hs
    exact h.2 i y s hy hs
  · rw [List.getElem?_append_right (by omega), hi, Nat.sub_self] at hy
    rw [List.getElem?_append_right (by rw [← h.1]; omega), ← h.1, hi, Nat.sub_self] at hs
    simp at hy hs
    subst hy hs
    exact hr
  · rw [List.getElem?_eq_none (by simp; omega)] at hy
    cases hy
def chI (b : Nat) : Nat → Obj → Prop := fun k o => k = b ∧ o.isCells = true ∧ Slices o
def chC (t : Nat) : Nat → Obj → Prop := fun k o => Slices o ∧ (t ≤ k ∨ o.isCells = false)
theorem chC_blk {t : Nat} {A B : World} (h : Only (chC t) A B) {b : Nat} {ty : TypeId} {xs : List Value} (hb : Blk A b ty xs) (hn : b < t) : Blk B b ty xs :=
  h.same b _ hb (fun e => by
    rcases e.2 with e | e
    · omega
    · cases e)
theorem chI_set {b : Nat} {A : World} {ty : TypeId} {a : Option Addr} {n m : Nat} (h : Blk A b ty [.slice a n m]) (v : Value) : Only (chI b) A (A.setCell ⟨b, 0, none⟩ v) :=
  Only.setCell v (fun o ho => by
    have e : A.heap[b]? = some (.cells #[.slice a n m] ty (0, 0)) := h
    have e2 : o = .cells #[.slice a n m] ty (0, 0) := by
      have : A.heap[b]? = some o := ho
      rw [e] at this
      exact (Option.some.inj this).symm
    subst e2
    exact ⟨rfl, rfl, Slices.one _ _ _ _⟩)

set_option maxRecDepth 100000 in
set_option maxHeartbeats 8000000 in
theorem chain_seq (n : Nat) (hn : 1 ≤ n) (p : List Int) (M : Nat) (hp0 : 0 < p.length) (hpl : p.length ≤ 65) (hpe : Ends p) (hps : ∀ r ∈ stm p, ∀ x ∈ r, zs M x) (hM : M ≤ 90000000) (b t : Nat) (hbt : b < t) (w : World) (vp : Value)
    (hb : Blk w b 25 [vp]) (hr : Row w vp p.length (civ p)) (B : Nat) (hB : B ≤ w.heap.size) (hpf : ∀ b, vp.ownBlock = some b → B ≤ b) :
    SeqB (stm p).length Fence.wide n Try.prog 70 #[.pointer (some ⟨b, 0, none⟩)] (fun x : Hdr => #[hv x]) (chI b) (chC t) (fun xs W => Rws B W xs (stm p)) w := by
  intro l J W hW hl hJ hYd h0
  have hb : Blk W b 25 [vp] := hW.same _ _ hb (fun h => h)
  have hr : Row W vp p.length (civ p) := Row.only hW (fun _ _ h => h.elim) hr (civ_not_slice _)
  have hBW : B ≤ W.heap.size := Nat.le_trans hB hW.size
  clear hW hB
  have hpz : ∀ x ∈ p, zs M x := hps p (by simp [stm])
  obtain ⟨lp, hlp⟩ : ∃ n, n = p.length := ⟨_, rfl⟩
  rw [← hlp] at hr hp0 hpl
  obtain ⟨ap, mp, rfl, -⟩ := hr.slice
  have cx := hb.c 0 rfl
  obtain ⟨fn, tmps, assign, body, hy, hR⟩ := hYd [] (ap, lp, mp) _ (by simp [stm]) h0
  simp only [hv] at hy
  rw [List.nil_append] at hR
  have hstm : stm p = p :: if lp < 2 then [] else chn lp p (red (der p) 1) := by rw [hlp]; rfl
  have HB0 := zh hb; clear hb
  have HR0 := zh hr; clear hr
  have HLP := zh hlp; clear hlp
  refine callsIn_of_wp Try.func70 rfl trivial ?_ rfl
  simp only [Try.ntmps70, List.size_toArray, List.length_cons, List.length_nil, Nat.reduceAdd, Nat.reduceSub, Array.replicate_succ, Array.replicate_zero, List.push_toArray, List.append_toArray, List.nil_append, List.cons_append]
  gi_wp2
  refine hR.mono ?_
  rintro e' W3 ⟨rfl, hJ3, hk3⟩
  have hb3 := chC_blk hk3 HB0.out hbt
  have hr3 : Row W3 (.slice ap lp mp) lp (civ p) := Row.only hk3 (fun _ _ h => h.1) HR0.out (civ_not_slice _)
  have cx := hb3.c 0 rfl
  have hB3 : B ≤ W3.heap.size := Nat.le_trans hBW hk3.size
  have hrw3 : Rws B W3 [(ap, lp, mp)] [p] := (Rws.nil B W3).snoc (x := (ap, lp, mp)) ⟨by rw [← HLP.out]; exact hr3, hpf⟩
  by_cases h2 : lp < 2
  · have h2' : decide ((lp : Int) < 2) = true := decide_eq_true (by omega)
    rw [if_pos h2] at hstm
    have HSTM := zh hstm; clear hstm
    have HRW3 := zh hrw3; clear hrw3
    have HJ3 := zh hJ3; clear hJ3
    clear hb3 hk3 hR hy hr3 h2
    gi_wp2
    refine bodyPost_ret (results_none Try.results70 _ _ _) rfl ?_
    refine ⟨⟨_, rfl⟩, _, ?_, HJ3.out⟩
    rw [HSTM.out]
    exact HRW3.out
  · have h2' : decide ((lp : Int) < 2) = false := decide_eq_false (by omega)
    rw [if_neg h2] at hstm
    have hdv := Derivative_any p (.slice ap lp mp) W3 M (by rw [← HLP.out]; exact hr3) (by rw [← HLP.out]; omega) hpz (by omega)
    rw [tzI_id hpe, tzI_id (der_ends hpe)] at hdv
    have hdz := der_sized (l := p) (m := M) (by rw [← HLP.out]; omega) hpz
    have hdl : (der p).length = lp - 1 := by rw [der_length, ← HLP.out]
    have hrd := fun v w' h => reduced_fresh (der p) v 1 w' (M + 2) h (by omega) hdz (by omega) (der_ends hpe)
    have hql := red_len (der p) 1
    rw [hdl] at hql
    obtain ⟨Q0, hQ0⟩ : ∃ q, q = red (der p) 1 := ⟨_, rfl⟩
    have hqe : Ends Q0 := by rw [hQ0]; exact red_ends _ _
    rw [← hQ0] at hstm hrd hql
    unfold PolRet at hdv
    unfold PolRetF at hrd
    obtain ⟨E, hE⟩ : ∃ e, e = der p := ⟨_, rfl⟩
    rw [← hE] at hdv hrd
    have HDV := zh hdv; clear hdv
    have HRD0 := zh hrd; clear hrd
    have HSTM := zh hstm; clear hstm
    have HRW3 := zh hrw3; clear hrw3
    have HJ3 := zh hJ3; clear hJ3
    have HB3 := zh hb3; clear hb3
    have HR3 := zh hr3; clear hr3
    clear hk3 hR hy h2 hdz hdl hQ0 hE
    gi_wp2
    refine ⟨trivial, (callsIn_wide (n := n - 1)).2 ((HDV.out).mono ?_)⟩
    rintro e w4 ⟨hq4, v4, rfl, hv4⟩
    dsimp only
    have hJ4 := hJ _ _ _ HJ3.out (Only.ofBelow _ hq4)
    have hb4 := HB3.out.keep hq4
    have hr4 : Row w4 (.slice ap lp mp) lp (civ p) := Row.below HR3.out hq4 (Nat.le_refl _)
    have hrs4 := HRW3.out.below hq4
    have hB4 : B ≤ w4.heap.size := Nat.le_trans hB3 hq4.size
    have hrd := HRD0.out _ _ hv4
    have HJ4 := zh hJ4; clear hJ4
    have HB4 := zh hb4; clear hb4
    have HR4 := zh hr4; clear hr4
    have HRS4 := zh hrs4; clear hrs4
    have HRD := zh hrd; clear hrd
    clear HB3 HR3 HRW3 HJ3 hq4 hv4 HRD0 cx
    gi_wp2
    refine ⟨trivial, (callsIn_wide (n := n - 1)).2 ((HRD.out).mono ?_)⟩
    rintro e w5 ⟨hq5, v5, rfl, hv5, hf5⟩
    dsimp only
    have hB5 : B ≤ w5.heap.size := Nat.le_trans hB4 hq5.size
    have hf6 : ∀ b, v5.ownBlock = some b → B ≤ b := fun b e => Nat.le_trans hB4 (hf5 b e)
    have HF6 := zh hf6; clear hf6
    clear hf5
    have hJ5 := hJ _ _ _ HJ4.out (Only.ofBelow _ hq5)
    have hb5 := HB4.out.keep hq5
    have hr5 : Row w5 (.slice ap lp mp) lp (civ p) := Row.below HR4.out hq5 (Nat.le_refl _)
    have hrs5 := HRS4.out.below hq5
    have HJ5 := zh hJ5; clear hJ5
    have HB5 := zh hb5; clear hb5
    have HR5 := zh hr5; clear hr5
    have HRS5 := zh hrs5; clear hrs5
    have HV5 := zh hv5; clear hv5
    clear HB4 HR4 HRS4 HJ4 hq5 HRD
    gi_wp2
    gi_loopw [3] (fun v wr => ∃ (pre : List Hdr) (dn : List (List Int)) (P Q : List Int) (f : Nat) (vp' : Value), J pre wr ∧ Rws B wr pre dn ∧ stm p = dn ++ chn f P Q ∧ Q.length ≤ f ∧ Ends P ∧ Ends Q ∧ Q.length < P.length ∧ Blk wr b 25 [vp'] ∧ Row wr vp' P.length (civ P) ∧ Row wr v Q.length (civ Q) ∧ ((∀ x ∈ P, zs M x) ∧ P.length ≤ 65) ∧ ((∀ b, v.ownBlock = some b → B ≤ b) ∧ B ≤ wr.heap.size))
      (fun v _ => slLen v)
    case atStart => exact ⟨_, [p], p, Q0, lp, _, HJ5.out, HRS5.out, HSTM.out, by omega, hpe, hqe, by rw [← HLP.out]; omega, HB5.out, by rw [← HLP.out]; exact HR5.out, HV5.out, ⟨hpz, by rw [← HLP.out]; exact hpl⟩, HF6.out, hB5⟩
    case round =>
      clear HJ5 HRS5 HSTM HB5 HR5 HV5
      obtain ⟨pre, dn, P, Q, f, vp', hJ0, hrs, hst, hf, heP, heQ, hlt, hb, hrP, hrQ, ⟨hzP, hlP⟩, hfQ, hBr⟩ := hrel
      clear HF6
      obtain ⟨lP, hLP⟩ : ∃ n, n = P.length := ⟨_, rfl⟩
      obtain ⟨lq, hLQ⟩ : ∃ n, n = Q.length := ⟨_, rfl⟩
      rw [← hLP] at hrP hlt hlP
      rw [← hLQ] at hrQ hlt hf
      obtain ⟨aP, mP, rfl, -⟩ := hrP.slice
      obtain ⟨aq, mq, rfl, -⟩ := hrQ.slice
      have cx := hb.c 0 rfl
      by_cases h0 : lq = 0
      · have hl0 : ¬ (0 : Int) < (lq : Int) := by omega
        rw [chn_nil (by omega), List.append_nil] at hst
        subst h0
        have HST := zh hst; clear hst
        have HRS := zh hrs; clear hrs
        have HJ0 := zh hJ0; clear hJ0
        clear hb hrP hrQ hzP hLP hLQ
        gi_wp2
        refine ⟨fun f h => (by cases h), ?_⟩
        gi_wp2
        go_end0
        refine ⟨⟨_, rfl⟩, _, ?_, HJ0.out⟩
        rw [HST.out]
        exact HRS.out
      · have hl0 : (0 : Int) < (lq : Int) := by omega
        obtain ⟨f, rfl⟩ : ∃ g, f = g + 1 := ⟨f - 1, by omega⟩
        rw [chn_step (by omega)] at hst
        have hzQ : ∀ x ∈ Q, zs M x := hps Q (by rw [hst]; simp)
        obtain ⟨fn, tmps, assign, body, hy, hR⟩ := hYd pre (aq, lq, mq) _ (by rw [hrs.1, hst]; simp) hJ0
        simp only [hv] at hy
        have HFQ := zh hfQ; clear hfQ
        have HB := zh hb; clear hb
        have HRP := zh hrP; clear hrP
        have HRQ := zh hrQ; clear hrQ
        have HRS := zh hrs; clear hrs
        have HLP2 := zh hLP; clear hLP
        have HLQ := zh hLQ; clear hLQ
        gi_wp2
        refine hR.mono ?_
        rintro e' W3 ⟨rfl, hJ3, hk3⟩
        have hLP := HLP2.out
        have hLQ := HLQ.out
        have hb3 := chC_blk hk3 HB.out hbt
        have hP3 : Row W3 (.slice aP lP mP) lP (civ P) := Row.only hk3 (fun _ _ h => h.1) HRP.out (civ_not_slice _)
        have hQ3 : Row W3 (.slice aq lq mq) lq (civ Q) := Row.only hk3 (fun _ _ h => h.1) HRQ.out (civ_not_slice _)
        have hrs3 := (HRS.out.only hk3 (fun _ _ h => h.1)).snoc (x := (aq, lq, mq)) (r := Q) ⟨by rw [← hLQ]; exact hQ3, HFQ.out⟩
        have hB3' : B ≤ W3.heap.size := Nat.le_trans hBr hk3.size
        have cx := hb3.c 0 rfl
        have hdv := Divide_any P Q _ _ W3 M M (by rw [← hLP]; exact hP3) (by rw [← hLQ]; exact hQ3) (by omega) (by omega) (by omega) hzP hzQ (by omega) heP heQ
        have hrz := (pdv_zs hzP hzQ).2
        have hre := pdv_ends Q heP
        have hrl := pdv_len (a := P) (b := Q) (by omega)
        have hmu : (P.length - Q.length + 1) * (M + 1) ≤ 66 * (90000000 + 1) := Nat.mul_le_mul (by omega) (by omega)
        have hrd := fun v s w' h => reduced_fresh (pdv P Q).2 v s w' _ h (by omega) hrz (by omega) hre
        have hless := fun s => chn_less (p := P) (q := Q) s (by omega)
        rw [← hLQ] at hless
        obtain ⟨R, hR'⟩ : ∃ r, r = (pdv P Q).2 := ⟨_, rfl⟩
        obtain ⟨R1, hR1⟩ : ∃ r, r = (pdv P Q).1 := ⟨_, rfl⟩
        rw [← hR'] at hst hdv hrd
        simp only [← hR'] at hless
        rw [← hR1] at hdv
        unfold PdRet3 at hdv
        unfold PolRetF at hrd
        obtain ⟨S, hS⟩ : ∃ s, s = sgS P Q := ⟨_, rfl⟩
        rw [← hS] at hst
        have hSd : S = if Q.getLast?.getD 0 < 0 ∧ (lP - lq + 1) % 2 = 1 then 1 else -1 := by rw [hS, hLP, hLQ]; rfl
        have hless := hless S
        obtain ⟨c, hc⟩ : ∃ c, c = Q.getLast?.getD 0 := ⟨_, rfl⟩
        have hcg : Q[lq - 1]? = some c := by
          have h9 : Q.getLast? = some (Q.getLast?.getD 0) := by
            rcases List.eq_nil_or_concat Q with rfl | ⟨q0, y, rfl⟩
            · simp at hLQ; omega
            · simp
          rw [List.getLast?_eq_getElem?, ← hLQ] at h9
          rw [h9, hc, List.getLast?_eq_getElem?, ← hLQ]
        have hcz : zs M c := hzQ c (List.mem_of_getElem? hcg)
        have hc0 : c ≠ 0 := by
          rcases List.eq_nil_or_concat Q with rfl | ⟨q0, y, rfl⟩
          · simp at hLQ; omega
          · rw [List.concat_eq_append] at *
            have := heQ _ _ rfl
            rw [hc]; simp; exact this
        rw [← hc] at hSd
        have hsg := fun w' => ssign_any (ineg c) (imag c) w' (Nat.le_trans hcz.size (by omega))
        simp only [ival_canon] at hsg
        obtain ⟨d, hd⟩ : ∃ d, d = lP - lq := ⟨_, rfl⟩
        have hd1 : (lP : Int) - (lq : Int) = (d : Int) := by omega
        have hd64 : d ≤ 65 := by omega
        rw [← hd] at hSd
        have hrd := fun v w' h => hrd v S w' h
        have HDV := zh hdv; clear hdv
        have HRD1 := zh hrd; clear hrd
        have HLESS := zh hless; clear hless
        have HST := zh hst; clear hst
        have HRS3 := zh hrs3; clear hrs3
        have HJ3 := zh hJ3; clear hJ3
        have HB3 := zh hb3; clear hb3
        have HP3 := zh hP3; clear hP3
        have HQ3 := zh hQ3; clear hQ3
        have HSG := zh hsg; clear hsg
        have HEQ := zh heQ; clear heQ
        clear hLP hLQ
        have hZQ : (∀ x ∈ Q, zs M x) ∧ Q.length ≤ 65 := ⟨hzQ, by rw [← HLQ.out]; omega⟩
        have HZQ := zh hZQ; clear hZQ
        clear hk3 hR hy hrz hre hrl hmu hR' hR1 hS hcz hd hzP hzQ hJ0 HB HRP HRQ HRS h0 heP hlt
        gi_wp2
        refine ⟨trivial, (callsIn_wide (n := n - 1)).2 ((HDV.out).mono ?_)⟩
        rintro e w4 ⟨hq4, v4, u4, rfl, hv4, hu4⟩
        dsimp only
        have hJ4 := hJ _ _ _ HJ3.out (Only.ofBelow _ hq4)
        have hB4' : B ≤ w4.heap.size := Nat.le_trans hB3' hq4.size
        have hb4 := HB3.out.keep hq4
        have hQ4 : Row w4 (.slice aq lq mq) lq (civ Q) := Row.below HQ3.out hq4 (Nat.le_refl _)
        have hrs4 := HRS3.out.below hq4
        have cx := hb4.c 0 rfl
        obtain ⟨b1, o1, hbo, hb1, hbc⟩ := hQ4.at_ (by omega)
        obtain rfl := hbo
        obtain ⟨j0, hj0⟩ : ∃ j, lq = j + 1 := ⟨lq - 1, by omega⟩
        have hcj : Q[j0]? = some c := by rw [hj0] at hcg; exact hcg
        have c0 : w4.cell? ⟨b1, o1 + j0 * 2, none⟩ = some (.bool (ineg c)) := hbc _ _ (civ_get hcj).1
        have c1 : w4.cell? ⟨b1, o1 + j0 * 2 + 1, none⟩ = some (.string (imag c)) := hbc _ _ (civ_get hcj).2
        have hji : (lq : Int) - 1 = (j0 : Int) := by omega
        have hjl : (j0 : Int) < (lq : Int) := by omega
        have HJ4 := zh hJ4; clear hJ4
        have HB4 := zh hb4; clear hb4
        have HRQ4 := zh hQ4; clear hQ4
        have HRS4 := zh hrs4; clear hrs4
        have HU4 := zh hu4; clear hu4
        clear hcg hcj hbc hj0 hc HJ3 HB3 HQ3 HP3 HRS3 hq4 hv4 HDV
        by_cases hneg : c < 0
        · have hcm : cmpZ c 0 = -1 := by simp [cmpZ, hneg]
          rw [hcm] at HSG
          clear hcm
          by_cases hpar : (d + 1) % 2 = 1
          · have hS1 : S = 1 := by rw [hSd, if_pos ⟨hneg, hpar⟩]
            subst hS1
            clear hSd hneg
            gi_wp2
            refine ⟨trivial, (callsIn_wide (n := n - 1)).2 ((HSG.out _).mono ?_)⟩
            rintro e w5 ⟨hq5, rfl⟩
            dsimp only
            have hB5' : B ≤ w5.heap.size := Nat.le_trans hB4' hq5.size
            have hJ4 := hJ _ _ _ HJ4.out (Only.ofBelow _ hq5)
            have hb4 := HB4.out.keep hq5
            have hQ4 := Row.below HRQ4.out hq5 (Nat.le_refl _)
            have hrs4 := HRS4.out.below hq5
            have hRD := HRD1.out _ _ (Row.below HU4.out hq5 (Nat.le_refl _))
            clear HJ4 HB4 HRQ4 HRS4 hq5 HRD1 HU4 HSG c0 c1 cx
            have cx := hb4.c 0 rfl
            have HJ4 := zh hJ4; clear hJ4
            have HB4 := zh hb4; clear hb4
            have HRQ4 := zh hQ4; clear hQ4
            have HRS4 := zh hrs4; clear hrs4
            have HRD := zh hRD; clear hRD

            gi_wp2
            refine ⟨trivial, (callsIn_wide (n := n - 1)).2 ((HRD.out).mono ?_)⟩
            rintro e w6 ⟨hq6, v6, rfl, hv6, hf6⟩
            dsimp only
            have hB6' : B ≤ w6.heap.size := Nat.le_trans hB5' hq6.size
            have hf7 : ∀ b, v6.ownBlock = some b → B ≤ b := fun b e => Nat.le_trans hB5' (hf6 b e)
            have HF7 := zh hf7; clear hf7
            clear hf6
            have hJ6 := hJ _ _ _ HJ4.out (Only.ofBelow _ hq6)
            have hb6 := HB4.out.keep hq6
            have hq7 : Row w6 (.slice (some ⟨b1, o1, none⟩) lq mq) lq (civ Q) := Row.below HRQ4.out hq6 (Nat.le_refl _)
            have hrs6 := HRS4.out.below hq6
            have cx := hb6.c 0 rfl
            have fx := hb6.frozen 0
            obtain ⟨lr, hlr⟩ : ∃ n, n = (red R 1).length := ⟨_, rfl⟩
            rw [← hlr] at hv6
            obtain ⟨a6, m6, rfl, -⟩ := hv6.slice
            have HJ6 := zh hJ6; clear hJ6
            have HB6 := zh hb6; clear hb6
            have HRQ6 := zh hq7; clear hq7
            have HRR6 := zh hv6; clear hv6
            have HRS6 := zh hrs6; clear hrs6
            have HLR := zh hlr; clear hlr
            clear HB4 HRQ4 HJ4 HRS4 hq6 HRD
            gi_wp2
            go_roundw
            case rel =>
              have ow := chI_set (b := b) HB6.out (.slice (some ⟨b1, o1, none⟩) lq mq)
              refine ⟨_, dn ++ [Q], Q, red R 1, f, _, hJ _ _ _ HJ6.out ow, HRS6.out.only ow (fun _ _ h => h.2.2), ?_, ?_, HEQ.out, red_ends _ _, ?_, HB6.out.set 0 _, ?_, ?_, HZQ.out, HF7.out, by rw [World.size_setCell]; exact hB6'⟩
              · rw [HST.out]; simp
              · have := HLESS.out; omega
              · have := HLESS.out; rw [← HLQ.out]; exact this
              · rw [← HLQ.out]; exact Row.only ow (fun _ _ h => h.2.2) HRQ6.out (civ_not_slice _)
              · rw [← HLR.out]; exact Row.only ow (fun _ _ h => h.2.2) HRR6.out (civ_not_slice _)
            case measure => simp only [slLen]; rw [HLR.out]; exact HLESS.out
          · have hS1 : S = -1 := by rw [hSd, if_neg (fun e => hpar e.2)]
            subst hS1
            clear hSd hneg
            gi_wp2
            refine ⟨trivial, (callsIn_wide (n := n - 1)).2 ((HSG.out _).mono ?_)⟩
            rintro e w5 ⟨hq5, rfl⟩
            dsimp only
            have hB5' : B ≤ w5.heap.size := Nat.le_trans hB4' hq5.size
            have hJ4 := hJ _ _ _ HJ4.out (Only.ofBelow _ hq5)
            have hb4 := HB4.out.keep hq5
            have hQ4 := Row.below HRQ4.out hq5 (Nat.le_refl _)
            have hrs4 := HRS4.out.below hq5
            have hRD := HRD1.out _ _ (Row.below HU4.out hq5 (Nat.le_refl _))
            clear HJ4 HB4 HRQ4 HRS4 hq5 HRD1 HU4 HSG c0 c1 cx
            have cx := hb4.c 0 rfl
            have HJ4 := zh hJ4; clear hJ4
            have HB4 := zh hb4; clear hb4
            have HRQ4 := zh hQ4; clear hQ4
            have HRS4 := zh hrs4; clear hrs4
            have HRD := zh hRD; clear hRD

            gi_wp2
            refine ⟨trivial, (callsIn_wide (n := n - 1)).2 ((HRD.out).mono ?_)⟩
            rintro e w6 ⟨hq6, v6, rfl, hv6, hf6⟩
            dsimp only
            have hB6' : B ≤ w6.heap.size := Nat.le_trans hB5' hq6.size
            have hf7 : ∀ b, v6.ownBlock = some b → B ≤ b := fun b e => Nat.le_trans hB5' (hf6 b e)
            have HF7 := zh hf7; clear hf7
            clear hf6
            have hJ6 := hJ _ _ _ HJ4.out (Only.ofBelow _ hq6)
            have hb6 := HB4.out.keep hq6
            have hq7 : Row w6 (.slice (some ⟨b1, o1, none⟩) lq mq) lq (civ Q) := Row.below HRQ4.out hq6 (Nat.le_refl _)
            have hrs6 := HRS4.out.below hq6
            have cx := hb6.c 0 rfl
            have fx := hb6.frozen 0
            obtain ⟨lr, hlr⟩ : ∃ n, n = (red R (-1)).length := ⟨_, rfl⟩
            rw [← hlr] at hv6
            obtain ⟨a6, m6, rfl, -⟩ := hv6.slice
            have HJ6 := zh hJ6; clear hJ6
            have HB6 := zh hb6; clear hb6
            have HRQ6 := zh hq7; clear hq7
            have HRR6 := zh hv6; clear hv6
            have HRS6 := zh hrs6; clear hrs6
            have HLR := zh hlr; clear hlr
            clear HB4 HRQ4 HJ4 HRS4 hq6 HRD
            gi_wp2
            go_roundw
            case rel =>
              have ow := chI_set (b := b) HB6.out (.slice (some ⟨b1, o1, none⟩) lq mq)
              refine ⟨_, dn ++ [Q], Q, red R (-1), f, _, hJ _ _ _ HJ6.out ow, HRS6.out.only ow (fun _ _ h => h.2.2), ?_, ?_, HEQ.out, red_ends _ _, ?_, HB6.out.set 0 _, ?_, ?_, HZQ.out, HF7.out, by rw [World.size_setCell]; exact hB6'⟩
              · rw [HST.out]; simp
              · have := HLESS.out; omega
              · have := HLESS.out; rw [← HLQ.out]; exact this
              · rw [← HLQ.out]; exact Row.only ow (fun _ _ h => h.2.2) HRQ6.out (civ_not_slice _)
              · rw [← HLR.out]; exact Row.only ow (fun _ _ h => h.2.2) HRR6.out (civ_not_slice _)
            case measure => simp only [slLen]; rw [HLR.out]; exact HLESS.out
        · have hcm : cmpZ c 0 = 1 := by simp [cmpZ, hneg, hc0]
          rw [hcm] at HSG
          have hS1 : S = -1 := by rw [hSd, if_neg (fun e => hneg e.1)]
          subst hS1
          clear hSd hneg hcm
          gi_wp2
          refine ⟨trivial, (callsIn_wide (n := n - 1)).2 ((HSG.out _).mono ?_)⟩
          rintro e w5 ⟨hq5, rfl⟩
          dsimp only
          have hB5' : B ≤ w5.heap.size := Nat.le_trans hB4' hq5.size
          have hJ4 := hJ _ _ _ HJ4.out (Only.ofBelow _ hq5)
          have hb4 := HB4.out.keep hq5
          have hQ4 := Row.below HRQ4.out hq5 (Nat.le_refl _)
          have hrs4 := HRS4.out.below hq5
          have hRD := HRD1.out _ _ (Row.below HU4.out hq5 (Nat.le_refl _))
          clear HJ4 HB4 HRQ4 HRS4 hq5 HRD1 HU4 HSG c0 c1 cx
          have cx := hb4.c 0 rfl
          have HJ4 := zh hJ4; clear hJ4
          have HB4 := zh hb4; clear hb4
          have HRQ4 := zh hQ4; clear hQ4
          have HRS4 := zh hrs4; clear hrs4
          have HRD := zh hRD; clear hRD

          gi_wp2
          refine ⟨trivial, (callsIn_wide (n := n - 1)).2 ((HRD.out).mono ?_)⟩
          rintro e w6 ⟨hq6, v6, rfl, hv6, hf6⟩
          dsimp only
          have hB6' : B ≤ w6.heap.size := Nat.le_trans hB5' hq6.size
          have hf7 : ∀ b, v6.ownBlock = some b → B ≤ b := fun b e => Nat.le_trans hB5' (hf6 b e)
          have HF7 := zh hf7; clear hf7
          clear hf6
          have hJ6 := hJ _ _ _ HJ4.out (Only.ofBelow _ hq6)
          have hb6 := HB4.out.keep hq6
          have hq7 : Row w6 (.slice (some ⟨b1, o1, none⟩) lq mq) lq (civ Q) := Row.below HRQ4.out hq6 (Nat.le_refl _)
          have hrs6 := HRS4.out.below hq6
          have cx := hb6.c 0 rfl
          have fx := hb6.frozen 0
          obtain ⟨lr, hlr⟩ : ∃ n, n = (red R (-1)).length := ⟨_, rfl⟩
          rw [← hlr] at hv6
          obtain ⟨a6, m6, rfl, -⟩ := hv6.slice
          have HJ6 := zh hJ6; clear hJ6
          have HB6 := zh hb6; clear hb6
          have HRQ6 := zh hq7; clear hq7
          have HRR6 := zh hv6; clear hv6
          have HRS6 := zh hrs6; clear hrs6
          have HLR := zh hlr; clear hlr
          clear HB4 HRQ4 HJ4 HRS4 hq6 HRD
          gi_wp2
          go_roundw
          case rel =>
            have ow := chI_set (b := b) HB6.out (.slice (some ⟨b1, o1, none⟩) lq mq)
            refine ⟨_, dn ++ [Q], Q, red R (-1), f, _, hJ _ _ _ HJ6.out ow, HRS6.out.only ow (fun _ _ h => h.2.2), ?_, ?_, HEQ.out, red_ends _ _, ?_, HB6.out.set 0 _, ?_, ?_, HZQ.out, HF7.out, by rw [World.size_setCell]; exact hB6'⟩
            · rw [HST.out]; simp
            · have := HLESS.out; omega
            · have := HLESS.out; rw [← HLQ.out]; exact this
            · rw [← HLQ.out]; exact Row.only ow (fun _ _ h => h.2.2) HRQ6.out (civ_not_slice _)
            · rw [← HLR.out]; exact Row.only ow (fun _ _ h => h.2.2) HRR6.out (civ_not_slice _)
          case measure => simp only [slLen]; rw [HLR.out]; exact HLESS.out
end Go.Proofs.Ytjpalbonclgflaa
