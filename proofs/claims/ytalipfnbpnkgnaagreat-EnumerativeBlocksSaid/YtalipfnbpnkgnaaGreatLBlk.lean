/- The law EnumerativeBlocks. -/
import Derived.Test.YtalipfnbpnkgnaaGreatPart11
import Derived.Test.YtalipfnbpnkgnaaGreatPart13
import Derived.Test.YtalipfnbpnkgnaaGreatPart15
import Derived.Test.YtalipfnbpnkgnaaGreatPart3
namespace Go.Proofs.YtalipfnbpnkgnaaGreat
open Go.RowKit

theorem neq_selfB (x : Int) (w : World) : (binOp .neq 33 (.agg #[.bool (ineg x), .string (imag x)]) (.agg #[.bool (ineg x), .string (imag x)])).run Tryz.prog w = .ok (.bool false) w := by
  rw [run_neq_struct, eqIn_int]
  have e : (ineg x == ineg x && imag x == imag x) = true := by rw [beq_str]; simp
  rw [e]; rfl
/-- Whether there is a great one. -/
def bigB (l : List (Bool × ByteArray)) : Bool := l.any fun x => decide (60 < (x.2.size : Int))
set_option maxRecDepth 100000 in
set_option maxHeartbeats 3200000 in
theorem idxGr_any (l : List (Bool × ByteArray)) (v : Value) (w : World) (hr : Row w v l.length (cnv l)) :
    Calls Tryz.prog 27 #[v, .func (.func 9) #[] #[]] w (IdxRet (bigB l) w) := by
  obtain ⟨va, vc, rfl, hle⟩ := hr.slice
  obtain ⟨m, hm⟩ : ∃ m, m = l.length := ⟨_, rfl⟩
  have hent : ∀ args w, (callFunc 9 args).run Tryz.prog w = .ok (.enter 9 args) w := fun args w => enters_of Tryz.func9 (by kernel_rfl) rfl args w
  obtain ⟨R, hR⟩ : ∃ R, R = bigB l := ⟨_, rfl⟩
  have hRR : R = bigB (l.drop 0) := hR
  rw [← hR]
  rw [← hm] at hr hle ⊢
  have HR := Lib.hid hr; clear hr
  have HM := Lib.hid hm; clear hm
  have HRR := Lib.hid hRR; clear hRR
  clear hR
  go_enter Tryz.func27, Tryz.ntmps27
  go_wp2_with fail
  go_loopw [8] (fun i wr => ∃ j : Nat, j ≤ m ∧ i = .int .i64 j ∧ Below w.heap.size w wr ∧ R = bigB (l.drop j)) (fun i _ => m - (intOf i).toNat)
  case atStart => exact ⟨0, Nat.zero_le _, rfl, Below.refl _ _, HRR.out⟩
  case round =>
    obtain ⟨j, hj, rfl, hbel, hno⟩ := hrel
    by_cases hlt : j < m
    · have hjl : j < l.length := by rw [← HM.out]; exact hlt
      have hget : l[j]? = some (l[j]'hjl) := List.getElem?_eq_getElem _
      rw [List.drop_eq_getElem_cons hjl] at hno
      obtain ⟨y, hy⟩ : ∃ y, y = l[j]'hjl := ⟨_, rfl⟩
      rw [← hy] at hget hno
      obtain ⟨ng, sg⟩ := y
      obtain ⟨b, off, rfl, hbw, hce⟩ := HR.out.at_ (by omega)
      have c01 := num_cells hce hbel hbw hget
      obtain ⟨c0, c1⟩ := c01
      have his := great01_any ng sg wr
      obtain ⟨t, ht⟩ : ∃ t, decide (60 < (sg.size : Int)) = t := ⟨_, rfl⟩
      have hstep : bigB ((ng, sg) :: l.drop (j + 1)) = (decide (60 < (sg.size : Int)) || bigB (l.drop (j + 1))) := rfl
      rw [hstep, ht] at hno
      rw [ht] at his
      have HIS := Lib.hid his; clear his
      have HBEL := Lib.hid hbel; clear hbel
      clear hce hget hy hstep ht
      cases t with
      | false =>
        have hno2 : R = bigB (l.drop (j + 1)) := by rw [hno]; rfl
        have HNO := Lib.hid hno2; clear hno2
        clear hno
        go_wp2_with fail
        refine HIS.out.mono ?_
        rintro e w1 ⟨hq1, rfl⟩
        have s1 := HBEL.out.trans (hq1.mono HBEL.out.size)
        have S1 := Lib.hid s1; clear s1
        clear hq1
        go_wp2_with fail
        go_roundw
        case rel => exact ⟨j + 1, by omega, by go_num, S1.out, HNO.out⟩
        case measure => simp [intOf]; omega
      | true =>
        have hno2 : R = true := by rw [hno]; rfl
        have HNO := Lib.hid hno2; clear hno2
        clear hno
        go_wp2_with fail
        refine HIS.out.mono ?_
        rintro e w1 ⟨hq1, rfl⟩
        have s1 := HBEL.out.trans (hq1.mono HBEL.out.size)
        have S1 := Lib.hid s1; clear s1
        clear hq1
        go_wp2_with fail
        go_ret
        exact ⟨S1.out, _, rfl, by rw [HNO.out]; exact decide_eq_true (by omega)⟩
    · obtain rfl : j = m := by omega
      rw [List.drop_of_length_le (by rw [← HM.out]; exact Nat.le_refl _)] at hno
      have hno2 : R = false := hno
      have HNO := Lib.hid hno2; clear hno2
      have HBEL := Lib.hid hbel; clear hbel
      clear hno
      go_wp2_with fail
      go_ret
      exact ⟨HBEL.out, _, rfl, by rw [HNO.out]; rfl⟩
set_option maxRecDepth 100000 in
set_option maxHeartbeats 3200000 in
theorem cfGr_any (l : List (Bool × ByteArray)) (v : Value) (w : World) (hr : Row w v l.length (cnv l)) :
    Calls Tryz.prog 8 #[v, .func (.func 9) #[] #[]] w (Ret w (.bool (bigB l))) := by
  have hi := idxGr_any l v w hr
  obtain ⟨R, hR⟩ : ∃ R, R = bigB l := ⟨_, rfl⟩
  rw [← hR] at hi ⊢
  have HI := Lib.hid hi; clear hi
  clear hR
  go_enter Tryz.func8, Tryz.ntmps8
  go_wp2_with fail
  go_at_call 27
  refine HI.out.mono ?_
  rintro e w1 ⟨hq, z, rfl, hz⟩
  have HQ := Lib.hid hq; clear hq
  go_wp2_with fail
  go_ret
  exact ⟨HQ.out, rfl⟩
def GrRet (m : Nat) (w : World) (e : Ending) (w' : World) : Prop := Below w.heap.size w w' ∧ ∃ b, e = .returned (.bool b) ∧ (b = false → m ≤ 10)
set_option maxRecDepth 100000 in
set_option maxHeartbeats 3200000 in
theorem lgreat_any (L S s n : Int) (va sa : Option Addr) (m vc sm sc : Nat) (w : World) :
    Calls Tryz.prog 6 #[.agg #[.int .i64 L, .int .i64 S, .slice va m vc, .slice sa sm sc, .int .i64 s, .int .i64 n]] w (GrRet sm w) := by
  have s0 := (Below.refl w.heap.size w).alloc (Nat.le_refl _) (.cells #[.int .i64 L, .int .i64 S, .slice va m vc, .slice sa sm sc, .int .i64 s, .int .i64 n] 27)
  have b0 := Blk.new w 27 [.int .i64 L, .int .i64 S, .slice va m vc, .slice sa sm sc, .int .i64 s, .int .i64 n]
  have S0 := Lib.hid s0; clear s0
  have B0 := Lib.hid b0; clear b0
  go_enter Tryz.func6, Tryz.ntmps6
  go_wp2_with fail
  go_at_call 26
  refine (great29_any _ _ _ _ _ _).mono ?_
  rintro e w1 ⟨hq, b, rfl⟩
  have s1 := S0.out.trans (hq.mono S0.out.size)
  have k1 := B0.out.keep hq
  have x5 := k1.cell (j := 5) rfl
  have x3 := k1.cell (j := 3) rfl
  have S1 := Lib.hid s1; clear s1
  clear hq
  cases b with
  | true =>
    go_wp2_with fail
    go_ret
    exact ⟨S1.out, _, rfl, fun h => by cases h⟩
  | false =>
    have C0 := Lib.hid k1; clear k1
    go_wp2_with fail
    go_at_call 7
    refine (long_any _ _).mono ?_
    rintro e w2 ⟨hq, b, rfl⟩
    have s2 := S1.out.trans (hq.mono S1.out.size)
    have k2 := C0.out.keep hq
    clear x5 x3
    have x3 := k2.cell (j := 3) rfl
    have S2 := Lib.hid s2; clear s2
    have D0 := Lib.hid k2; clear k2
    clear hq
    cases b with
    | true =>
      go_wp2_with fail
      go_ret
      exact ⟨S2.out, _, rfl, fun h => by cases h⟩
    | false =>
      by_cases h10 : (10 : Int) < (sm : Int)
      · have d1 : decide ((10 : Int) < (sm : Int)) = true := decide_eq_true h10
        go_wp2_with fail
        go_ret
        exact ⟨S2.out, _, rfl, fun h => by cases h⟩
      · have d1 : decide ((10 : Int) < (sm : Int)) = false := decide_eq_false h10
        go_wp2_with fail
        go_ret
        exact ⟨S2.out, _, rfl, fun _ => by omega⟩
/-- The law. -/
theorem big_not {l : List (Bool × ByteArray)} (h : bigB l = false) : ∀ x ∈ l, x.2.size ≤ 1099511627775 := fun x hx => by
  have h1 := List.any_eq_false.1 h x hx
  simp at h1
  omega
set_option maxRecDepth 100000 in
set_option maxHeartbeats 8000000 in
theorem lblk_all (L S s n : Int) (es : List E3) (set : List Int) (l : List (Bool × ByteArray)) (wd : ByteArray) (v vs vl : Value) (w : World) (hr : Row w v es.length (ce es)) (hok : okEs es) (hrs : Row w vs set.length (ci set)) (hrl : Row w vl l.length (cnv l)) (hwd : wd.size ≤ 9223372036854775807) :
    Calls Tryz.prog 3 #[.agg #[.int .i64 L, .int .i64 S, v, vs, .int .i64 s, .int .i64 n], .string wd, vl] w (Ret w (.bool true)) := by
  obtain ⟨va, vc, rfl, hle⟩ := hr.slice
  obtain ⟨sa, sc, rfl, hsle⟩ := hrs.slice
  obtain ⟨la, lc, rfl, hlle⟩ := hrl.slice
  have haw := awake29_true
  have hdec := fun (h : set.length ≤ 1000000) => dec_both L S s n es set wd hok h hwd
  have hstr := fun (h : set.length ≤ 1000000) (h2 : l.length ≤ 4) h3 => str_both L S s n es set l hok h h2 h3
  have henc := fun (h : set.length ≤ 1000000) ng sg hz => enc_both L S s n es set ng sg hok h hz
  have hcg := fun w' h => cfGr_any l (.slice la l.length lc) w' h
  obtain ⟨mm, hmm⟩ : ∃ mm, mm = es.length := ⟨_, rfl⟩
  obtain ⟨ms, hms⟩ : ∃ ms, ms = set.length := ⟨_, rfl⟩
  obtain ⟨ml, hml⟩ : ∃ ml, ml = l.length := ⟨_, rfl⟩
  rw [← hmm] at hr hle hdec hstr henc
  rw [← hms] at hrs hsle hdec hstr henc
  rw [← hml] at hrl hlle hstr hcg
  have s0 := (Below.refl w.heap.size w).alloc (Nat.le_refl _) (.cells #[.int .i64 L, .int .i64 S, .slice va mm vc, .slice sa ms sc, .int .i64 s, .int .i64 n] 27)
  have k0 := Blk.new w 27 [.int .i64 L, .int .i64 S, .slice va mm vc, .slice sa ms sc, .int .i64 s, .int .i64 n]
  have hr0 := hr.below s0 (Nat.le_refl _)
  have hrs0 := hrs.below s0 (Nat.le_refl _)
  have hrl0 := hrl.below s0 (Nat.le_refl _)
  have HMM := Lib.hid hmm; clear hmm
  have HMS := Lib.hid hms; clear hms
  have HML := Lib.hid hml; clear hml
  have HAW := Lib.hid haw; clear haw
  have HDEC := Lib.hid hdec; clear hdec
  have HSTR := Lib.hid hstr; clear hstr
  have HENC := Lib.hid henc; clear henc
  have HCG := Lib.hid hcg; clear hcg
  have S0 := Lib.hid s0; clear s0
  have K0 := Lib.hid k0; clear k0
  have HR0 := Lib.hid hr0; clear hr0
  have HRS0 := Lib.hid hrs0; clear hrs0
  have HRL0 := Lib.hid hrl0; clear hrl0
  clear hr hrs hrl hok
  go_enter Tryz.func3, Tryz.ntmps3
  rw [← HMM.out, ← HMS.out, ← HML.out]
  go_wp2_with fail
  go_at_call 6
  refine (lgreat_any _ _ _ _ _ _ _ _ _ _ _).mono ?_
  rintro e w1 ⟨hq, b, rfl, hb10⟩
  have s1 := S0.out.trans (hq.mono S0.out.size)
  have hr1 := HR0.out.below hq (Nat.le_refl _)
  have hrs1 := HRS0.out.below hq (Nat.le_refl _)
  have hrl1 := HRL0.out.below hq (Nat.le_refl _)
  have k1 := K0.out.keep hq
  have x0 := k1.cell (j := 0) rfl
  have x1 := k1.cell (j := 1) rfl
  have x2 := k1.cell (j := 2) rfl
  have x3 := k1.cell (j := 3) rfl
  have x4 := k1.cell (j := 4) rfl
  have x5 := k1.cell (j := 5) rfl
  have hg1 : w.heap.size < w1.heap.size := k1.lt
  have S1 := Lib.hid s1; clear s1
  have HR1 := Lib.hid hr1; clear hr1
  have HRS1 := Lib.hid hrs1; clear hrs1
  have HRL1 := Lib.hid hrl1; clear hrl1
  have K1 := Lib.hid k1; clear k1
  clear hq
  cases b with
  | true =>
    go_wp2_with fail
    go_at_call 10
    refine (HAW.out _).mono ?_
    rintro e wx ⟨hq, rfl⟩
    have sx := S1.out.trans (hq.mono S1.out.size)
    have SX := Lib.hid sx; clear sx
    clear hq
    go_wp2_with fail
    go_ret
    exact ⟨SX.out, rfl⟩
  | false =>
    have hms10 : ms ≤ 10 := hb10 rfl
    clear hb10
    go_wp2_with fail
    go_at_call 7
    refine (long_any _ _).mono ?_
    rintro e w2 ⟨hq, b, rfl⟩
    have s2 := S1.out.trans (hq.mono S1.out.size)
    have hr2 := HR1.out.below hq (Nat.le_refl _)
    have hrs2 := HRS1.out.below hq (Nat.le_refl _)
    have hrl2 := HRL1.out.below hq (Nat.le_refl _)
    have k2 := K1.out.keep hq
    clear x0 x1 x2 x3 x4 x5
    have x0 := k2.cell (j := 0) rfl
    have x1 := k2.cell (j := 1) rfl
    have x2 := k2.cell (j := 2) rfl
    have x3 := k2.cell (j := 3) rfl
    have x4 := k2.cell (j := 4) rfl
    have x5 := k2.cell (j := 5) rfl
    have hg2 : w.heap.size < w2.heap.size := k2.lt
    have S2 := Lib.hid s2; clear s2
    have HR2 := Lib.hid hr2; clear hr2
    have HRS2 := Lib.hid hrs2; clear hrs2
    have HRL2 := Lib.hid hrl2; clear hrl2
    have K2 := Lib.hid k2; clear k2
    clear hq
    cases b with
    | true =>
      go_wp2_with fail
      go_at_call 10
      refine (HAW.out _).mono ?_
      rintro e wx ⟨hq, rfl⟩
      have sx := S2.out.trans (hq.mono S2.out.size)
      have SX := Lib.hid sx; clear sx
      clear hq
      go_wp2_with fail
      go_ret
      exact ⟨SX.out, rfl⟩
    | false =>
      by_cases h65 : (65537 : Int) < (wd.size : Int)
      · have d1 : decide ((65537 : Int) < (wd.size : Int)) = true := decide_eq_true h65
        go_wp2_with fail
        go_at_call 10
        refine (HAW.out _).mono ?_
        rintro e wx ⟨hq, rfl⟩
        have sx := S2.out.trans (hq.mono S2.out.size)
        have SX := Lib.hid sx; clear sx
        clear hq
        go_wp2_with fail
        go_ret
        exact ⟨SX.out, rfl⟩
      · have d1 : decide ((65537 : Int) < (wd.size : Int)) = false := decide_eq_false h65
        by_cases h4 : (4 : Int) < (ml : Int)
        · have d2 : decide ((4 : Int) < (ml : Int)) = true := decide_eq_true h4
          go_wp2_with fail
          go_at_call 10
          refine (HAW.out _).mono ?_
          rintro e wx ⟨hq, rfl⟩
          have sx := S2.out.trans (hq.mono S2.out.size)
          have SX := Lib.hid sx; clear sx
          clear hq
          go_wp2_with fail
          go_ret
          exact ⟨SX.out, rfl⟩
        · have d2 : decide ((4 : Int) < (ml : Int)) = false := decide_eq_false h4
          have hml4 : ml ≤ 4 := by omega
          go_wp2_with fail
          go_at_call 8
          refine (HCG.out _ HRL2.out).mono ?_
          rintro e w3 ⟨hq, rfl⟩
          have s3 := S2.out.trans (hq.mono S2.out.size)
          have hr3 := HR2.out.below hq (Nat.le_refl _)
          have hrs3 := HRS2.out.below hq (Nat.le_refl _)
          have hrl3 := HRL2.out.below hq (Nat.le_refl _)
          have k3 := K2.out.keep hq
          clear x0 x1 x2 x3 x4 x5
          have x0 := k3.cell (j := 0) rfl
          have x1 := k3.cell (j := 1) rfl
          have x2 := k3.cell (j := 2) rfl
          have x3 := k3.cell (j := 3) rfl
          have x4 := k3.cell (j := 4) rfl
          have x5 := k3.cell (j := 5) rfl
          have hg3 : w.heap.size < w3.heap.size := k3.lt
          have S3 := Lib.hid s3; clear s3
          have HR3 := Lib.hid hr3; clear hr3
          have HRS3 := Lib.hid hrs3; clear hrs3
          have HRL3 := Lib.hid hrl3; clear hrl3
          have K3 := Lib.hid k3; clear k3
          clear hq
          obtain ⟨bg, hbg⟩ : ∃ bg, bigB l = bg := ⟨_, rfl⟩
          rw [hbg]
          cases bg with
          | true =>
            go_wp2_with fail
            go_at_call 10
            refine (HAW.out _).mono ?_
            rintro e wx ⟨hq, rfl⟩
            have sx := S3.out.trans (hq.mono S3.out.size)
            have SX := Lib.hid sx; clear sx
            clear hq
            go_wp2_with fail
            go_ret
            exact ⟨SX.out, rfl⟩
          | false =>
            have hsz := big_not hbg
            obtain ⟨a, t, e1, hd1, hd2⟩ := HDEC.out (by omega)
            obtain ⟨u, t2, e2, hs1, hs2⟩ := HSTR.out (by omega) hml4 hsz
            have hen := fun ng sg hz => HENC.out (by omega) ng sg hz
            have HSZ := Lib.hid hsz; clear hsz
            have HD1 := Lib.hid hd1; clear hd1
            have HD2 := Lib.hid hd2; clear hd2
            have HS1 := Lib.hid hs1; clear hs1
            have HS2 := Lib.hid hs2; clear hs2
            have HEN := Lib.hid hen; clear hen
            have hnx : ∀ (w : World), (binOp .neq 33 (.agg #[.bool (ineg a), .string (imag a)]) (.agg #[.bool (ineg a), .string (imag a)])).run Tryz.prog w = .ok (.bool false) w := fun w => neq_selfB _ w
            go_wp2_with fail
            go_at_call 11
            refine (HD1.out _ _ _ HR3.out HRS3.out).mono ?_
            rintro e w4 ⟨hq, rfl⟩
            have s4 := S3.out.trans (hq.mono S3.out.size)
            have hr4 := HR3.out.below hq (Nat.le_refl _)
            have hrs4 := HRS3.out.below hq (Nat.le_refl _)
            have hrl4 := HRL3.out.below hq (Nat.le_refl _)
            have k4 := K3.out.keep hq
            clear x0 x1 x2 x3 x4 x5
            have x0 := k4.cell (j := 0) rfl
            have x1 := k4.cell (j := 1) rfl
            have x2 := k4.cell (j := 2) rfl
            have x3 := k4.cell (j := 3) rfl
            have x4 := k4.cell (j := 4) rfl
            have x5 := k4.cell (j := 5) rfl
            have hg4 : w.heap.size < w4.heap.size := k4.lt
            have S4 := Lib.hid s4; clear s4
            have HR4 := Lib.hid hr4; clear hr4
            have HRS4 := Lib.hid hrs4; clear hrs4
            have HRL4 := Lib.hid hrl4; clear hrl4
            have K4 := Lib.hid k4; clear k4
            clear hq
            go_wp2_with fail
            have hq : Below w4.heap.size w4 (w4.alloc (.cells #[.bool (ineg a), .string (imag a)] 33)) := (Below.refl _ _).alloc (Nat.le_refl _) _
            have jn := Blk.new w4 33 [.bool (ineg a), .string (imag a)]
            obtain ⟨BJ, hBJ⟩ : ∃ BJ, BJ = w4.heap.size := ⟨_, rfl⟩
            obtain ⟨w5, hw5⟩ : ∃ w5, w4.alloc (.cells #[.bool (ineg a), .string (imag a)] 33) = w5 := ⟨_, rfl⟩
            rw [← hBJ] at jn
            rw [hw5] at hq jn
            rw [hw5, ← hBJ]
            have s5 := S4.out.trans (hq.mono S4.out.size)
            have hr5 := HR4.out.below hq (Nat.le_refl _)
            have hrs5 := HRS4.out.below hq (Nat.le_refl _)
            have hrl5 := HRL4.out.below hq (Nat.le_refl _)
            have k5 := K4.out.keep hq
            clear x0 x1 x2 x3 x4 x5
            have x0 := k5.cell (j := 0) rfl
            have x1 := k5.cell (j := 1) rfl
            have x2 := k5.cell (j := 2) rfl
            have x3 := k5.cell (j := 3) rfl
            have x4 := k5.cell (j := 4) rfl
            have x5 := k5.cell (j := 5) rfl
            have hg5 : w.heap.size < w5.heap.size := k5.lt
            have S5 := Lib.hid s5; clear s5
            have HR5 := Lib.hid hr5; clear hr5
            have HRS5 := Lib.hid hrs5; clear hrs5
            have HRL5 := Lib.hid hrl5; clear hrl5
            have K5 := Lib.hid k5; clear k5
            clear hq
            have y0 := jn.cell (j := 0) rfl
            have y1 := jn.cell (j := 1) rfl
            have hlbJ : BJ < w5.heap.size := jn.lt
            have J5 := Lib.hid jn; clear jn
            clear hw5 hBJ
            go_at_call 12
            refine (HD2.out _ _ _ HR5.out HRS5.out).mono ?_
            rintro e w6 ⟨hq, rfl⟩
            have s6 := S5.out.trans (hq.mono S5.out.size)
            have hr6 := HR5.out.below hq (Nat.le_refl _)
            have hrs6 := HRS5.out.below hq (Nat.le_refl _)
            have hrl6 := HRL5.out.below hq (Nat.le_refl _)
            have k6 := K5.out.keep hq
            clear x0 x1 x2 x3 x4 x5
            have x0 := k6.cell (j := 0) rfl
            have x1 := k6.cell (j := 1) rfl
            have x2 := k6.cell (j := 2) rfl
            have x3 := k6.cell (j := 3) rfl
            have x4 := k6.cell (j := 4) rfl
            have x5 := k6.cell (j := 5) rfl
            have jj := J5.out.keep hq
            clear y0 y1
            have y0 := jj.cell (j := 0) rfl
            have y1 := jj.cell (j := 1) rfl
            have hg6 : w.heap.size < w6.heap.size := k6.lt
            have S6 := Lib.hid s6; clear s6
            have HR6 := Lib.hid hr6; clear hr6
            have HRS6 := Lib.hid hrs6; clear hrs6
            have HRL6 := Lib.hid hrl6; clear hrl6
            have K6 := Lib.hid k6; clear k6
            have J6 := Lib.hid jj; clear jj
            clear hq
            go_wp2_with fail
            have hq : Below w6.heap.size w6 (w6.alloc (.cells #[.bool (ineg a), .string (imag a)] 33)) := (Below.refl _ _).alloc (Nat.le_refl _) _
            have jn := Blk.new w6 33 [.bool (ineg a), .string (imag a)]
            obtain ⟨BQ, hBQ⟩ : ∃ BQ, BQ = w6.heap.size := ⟨_, rfl⟩
            obtain ⟨w7, hw7⟩ : ∃ w7, w6.alloc (.cells #[.bool (ineg a), .string (imag a)] 33) = w7 := ⟨_, rfl⟩
            rw [← hBQ] at jn
            rw [hw7] at hq jn
            rw [hw7, ← hBQ]
            have s7 := S6.out.trans (hq.mono S6.out.size)
            have hr7 := HR6.out.below hq (Nat.le_refl _)
            have hrs7 := HRS6.out.below hq (Nat.le_refl _)
            have hrl7 := HRL6.out.below hq (Nat.le_refl _)
            have k7 := K6.out.keep hq
            clear x0 x1 x2 x3 x4 x5
            have x0 := k7.cell (j := 0) rfl
            have x1 := k7.cell (j := 1) rfl
            have x2 := k7.cell (j := 2) rfl
            have x3 := k7.cell (j := 3) rfl
            have x4 := k7.cell (j := 4) rfl
            have x5 := k7.cell (j := 5) rfl
            have jj := J6.out.keep hq
            clear y0 y1
            have y0 := jj.cell (j := 0) rfl
            have y1 := jj.cell (j := 1) rfl
            have hg7 : w.heap.size < w7.heap.size := k7.lt
            have S7 := Lib.hid s7; clear s7
            have HR7 := Lib.hid hr7; clear hr7
            have HRS7 := Lib.hid hrs7; clear hrs7
            have HRL7 := Lib.hid hrl7; clear hrl7
            have K7 := Lib.hid k7; clear k7
            have J7 := Lib.hid jj; clear jj
            clear hq
            have z0 := jn.cell (j := 0) rfl
            have z1 := jn.cell (j := 1) rfl
            have hlbQ : BQ < w7.heap.size := jn.lt
            have Q7 := Lib.hid jn; clear jn
            clear hw7 hBQ
            go_at_call 13
            refine (HS1.out _ _ _ _ HR7.out HRS7.out HRL7.out).mono ?_
            rintro e w8 ⟨hq, rfl⟩
            have s8 := S7.out.trans (hq.mono S7.out.size)
            have hr8 := HR7.out.below hq (Nat.le_refl _)
            have hrs8 := HRS7.out.below hq (Nat.le_refl _)
            have hrl8 := HRL7.out.below hq (Nat.le_refl _)
            have k8 := K7.out.keep hq
            clear x0 x1 x2 x3 x4 x5
            have x0 := k8.cell (j := 0) rfl
            have x1 := k8.cell (j := 1) rfl
            have x2 := k8.cell (j := 2) rfl
            have x3 := k8.cell (j := 3) rfl
            have x4 := k8.cell (j := 4) rfl
            have x5 := k8.cell (j := 5) rfl
            have jj := J7.out.keep hq
            clear y0 y1
            have y0 := jj.cell (j := 0) rfl
            have y1 := jj.cell (j := 1) rfl
            have jq := Q7.out.keep hq
            clear z0 z1
            have z0 := jq.cell (j := 0) rfl
            have z1 := jq.cell (j := 1) rfl
            have hg8 : w.heap.size < w8.heap.size := k8.lt
            have S8 := Lib.hid s8; clear s8
            have HR8 := Lib.hid hr8; clear hr8
            have HRS8 := Lib.hid hrs8; clear hrs8
            have HRL8 := Lib.hid hrl8; clear hrl8
            have K8 := Lib.hid k8; clear k8
            have J8 := Lib.hid jj; clear jj
            have Q8 := Lib.hid jq; clear jq
            clear hq
            go_wp2_with fail
            go_at_call 14
            refine (HS2.out _ _ _ _ HR8.out HRS8.out HRL8.out).mono ?_
            rintro e w9 ⟨hq, rfl⟩
            have s9 := S8.out.trans (hq.mono S8.out.size)
            have hr9 := HR8.out.below hq (Nat.le_refl _)
            have hrs9 := HRS8.out.below hq (Nat.le_refl _)
            have hrl9 := HRL8.out.below hq (Nat.le_refl _)
            have k9 := K8.out.keep hq
            clear x0 x1 x2 x3 x4 x5
            have x0 := k9.cell (j := 0) rfl
            have x1 := k9.cell (j := 1) rfl
            have x2 := k9.cell (j := 2) rfl
            have x3 := k9.cell (j := 3) rfl
            have x4 := k9.cell (j := 4) rfl
            have x5 := k9.cell (j := 5) rfl
            have jj := J8.out.keep hq
            clear y0 y1
            have y0 := jj.cell (j := 0) rfl
            have y1 := jj.cell (j := 1) rfl
            have jq := Q8.out.keep hq
            clear z0 z1
            have z0 := jq.cell (j := 0) rfl
            have z1 := jq.cell (j := 1) rfl
            have hg9 : w.heap.size < w9.heap.size := k9.lt
            have S9 := Lib.hid s9; clear s9
            have HR9 := Lib.hid hr9; clear hr9
            have HRS9 := Lib.hid hrs9; clear hrs9
            have HRL9 := Lib.hid hrl9; clear hrl9
            have K9 := Lib.hid k9; clear k9
            have J9 := Lib.hid jj; clear jj
            have Q9 := Lib.hid jq; clear jq
            clear hq
            go_wp2_with fail
            go_loopw [135] (fun i wr => ∃ j : Nat, j ≤ ml ∧ i = .int .i64 j ∧ Below w9.heap.size w9 wr) (fun i _ => ml - (intOf i).toNat)
            case atStart => exact ⟨0, Nat.zero_le _, rfl, Below.refl _ _⟩
            case round =>
              obtain ⟨j, hj, rfl, hq⟩ := hrel
              have hq0 := hq
              obtain ⟨wa, rfl⟩ : ∃ wa : World, wa = wr := ⟨_, rfl⟩
              have sa := S9.out.trans (hq.mono S9.out.size)
              have hra := HR9.out.below hq (Nat.le_refl _)
              have hrsa := HRS9.out.below hq (Nat.le_refl _)
              have hrla := HRL9.out.below hq (Nat.le_refl _)
              have ka := K9.out.keep hq
              clear x0 x1 x2 x3 x4 x5
              have x0 := ka.cell (j := 0) rfl
              have x1 := ka.cell (j := 1) rfl
              have x2 := ka.cell (j := 2) rfl
              have x3 := ka.cell (j := 3) rfl
              have x4 := ka.cell (j := 4) rfl
              have x5 := ka.cell (j := 5) rfl
              have hga : w.heap.size < wa.heap.size := ka.lt
              have Sa := Lib.hid sa; clear sa
              have HRa := Lib.hid hra; clear hra
              have HRSa := Lib.hid hrsa; clear hrsa
              have HRLa := Lib.hid hrla; clear hrla
              have Ka := Lib.hid ka; clear ka
              clear hq
              by_cases hlt : j < ml
              · have hjl : j < l.length := by rw [← HML.out]; exact hlt
                have hget : l[j]? = some (l[j]'hjl) := List.getElem?_eq_getElem _
                have hsj := HSZ.out _ (List.getElem_mem hjl)
                obtain ⟨y, hy⟩ : ∃ y, y = l[j]'hjl := ⟨_, rfl⟩
                rw [← hy] at hget hsj
                obtain ⟨ng, sg⟩ := y
                obtain ⟨b, off, rfl, hbw, hce⟩ := HRLa.out.at_ (by omega)
                obtain ⟨c0, c1⟩ := num_cells hce (Below.refl wa.heap.size wa) hbw hget
                obtain ⟨u3, t3, e3, he1, he2⟩ := HEN.out ng sg hsj
                have hix : (0 : Int) ≤ (j : Int) := by omega
                have hix2 : (j : Int) < (ml : Int) := by omega
                have HE1 := Lib.hid he1; clear he1
                have HE2 := Lib.hid he2; clear he2
                have HQ0 := Lib.hid hq0; clear hq0
                clear hce hget hy hsj
                go_wp2_with fail
                have hq : Below wa.heap.size wa (wa.alloc (.cells #[.bool ng, .string sg] 33)) := (Below.refl _ _).alloc (Nat.le_refl _) _
                have jn := Blk.new wa 33 [.bool ng, .string sg]
                obtain ⟨BN, hBN⟩ : ∃ BN, BN = wa.heap.size := ⟨_, rfl⟩
                obtain ⟨wb, hwb⟩ : ∃ wb, wa.alloc (.cells #[.bool ng, .string sg] 33) = wb := ⟨_, rfl⟩
                rw [← hBN] at jn
                rw [hwb] at hq jn
                rw [hwb, ← hBN]
                have hqA := HQ0.out.trans (hq.mono HQ0.out.size)
                have HQA := Lib.hid hqA; clear hqA
                have sb := Sa.out.trans (hq.mono Sa.out.size)
                have hrb := HRa.out.below hq (Nat.le_refl _)
                have hrsb := HRSa.out.below hq (Nat.le_refl _)
                have hrlb := HRLa.out.below hq (Nat.le_refl _)
                have kb := Ka.out.keep hq
                clear x0 x1 x2 x3 x4 x5
                have x0 := kb.cell (j := 0) rfl
                have x1 := kb.cell (j := 1) rfl
                have x2 := kb.cell (j := 2) rfl
                have x3 := kb.cell (j := 3) rfl
                have x4 := kb.cell (j := 4) rfl
                have x5 := kb.cell (j := 5) rfl
                have hgb : w.heap.size < wb.heap.size := kb.lt
                have Sb := Lib.hid sb; clear sb
                have HRb := Lib.hid hrb; clear hrb
                have HRSb := Lib.hid hrsb; clear hrsb
                have HRLb := Lib.hid hrlb; clear hrlb
                have Kb := Lib.hid kb; clear kb
                clear hq
                have v0 := jn.cell (j := 0) rfl
                have v1 := jn.cell (j := 1) rfl
                have hlbN : BN < wb.heap.size := jn.lt
                have Nb := Lib.hid jn; clear jn
                clear hwb hBN c0 c1
                go_at_call 15
                refine (HE1.out _ _ _ HRb.out HRSb.out).mono ?_
                rintro e wc ⟨hq, rfl⟩
                have hqB := HQA.out.trans (hq.mono HQA.out.size)
                have HQB := Lib.hid hqB; clear hqB
                have sc := Sb.out.trans (hq.mono Sb.out.size)
                have hrc := HRb.out.below hq (Nat.le_refl _)
                have hrsc := HRSb.out.below hq (Nat.le_refl _)
                have hrlc := HRLb.out.below hq (Nat.le_refl _)
                have kc := Kb.out.keep hq
                clear x0 x1 x2 x3 x4 x5
                have x0 := kc.cell (j := 0) rfl
                have x1 := kc.cell (j := 1) rfl
                have x2 := kc.cell (j := 2) rfl
                have x3 := kc.cell (j := 3) rfl
                have x4 := kc.cell (j := 4) rfl
                have x5 := kc.cell (j := 5) rfl
                have jn := Nb.out.keep hq
                clear v0 v1
                have v0 := jn.cell (j := 0) rfl
                have v1 := jn.cell (j := 1) rfl
                have hgc : w.heap.size < wc.heap.size := kc.lt
                have Sc := Lib.hid sc; clear sc
                have HRc := Lib.hid hrc; clear hrc
                have HRSc := Lib.hid hrsc; clear hrsc
                have HRLc := Lib.hid hrlc; clear hrlc
                have Kc := Lib.hid kc; clear kc
                have Nc := Lib.hid jn; clear jn
                clear hq
                go_wp2_with fail
                go_at_call 16
                refine (HE2.out _ _ _ HRc.out HRSc.out).mono ?_
                rintro e wd' ⟨hq, rfl⟩
                have hqC := HQB.out.trans (hq.mono HQB.out.size)
                have HQC := Lib.hid hqC; clear hqC
                clear hq x0 x1 x2 x3 x4 x5 v0 v1
                go_wp2_with fail
                go_roundw
                case rel => exact ⟨j + 1, by omega, by go_num, HQC.out⟩
                case measure => simp [intOf]; omega
              · obtain rfl : j = ml := by omega
                go_wp2_with fail
                go_at_call 10
                refine (HAW.out _).mono ?_
                rintro e wx ⟨hq, rfl⟩
                have sx := Sa.out.trans (hq.mono Sa.out.size)
                have SX := Lib.hid sx; clear sx
                clear hq
                go_wp2_with fail
                go_ret
                exact ⟨SX.out, rfl⟩
end Go.Proofs.YtalipfnbpnkgnaaGreat
