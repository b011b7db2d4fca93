/- language.list at valid graphs: the map of all words of n letters that lead from the set somewhere. -/
import Derived.Test.YthpgeeaccmgbkaaGreatPart4
namespace Go.Proofs.YthpgeeaccmgbkaaGreat
open Go.RowKit Go.Maps

theorem ltr_index {P : Program} {t : TypeId} (hP : P.underlying t = some .string) {i : Nat} (h1 : i < 16) (wx : World) :
    (Instr.index t (.string ⟨#[48, 49, 50, 51, 52, 53, 54, 55, 56, 57, 97, 98, 99, 100, 101, 102]⟩) (.int .i64 (i : Int))).run P wx = .ok (.int .u8 ((letters.getD i 0).toNat : Int)) wx := by
  rw [run_index_string _ _ _ _ _ hP, dif_pos ⟨by omega, by show (i : Int) < 16; omega⟩]
  have h : ∀ n : Fin 16, (ByteArray.mk #[48, 49, 50, 51, 52, 53, 54, 55, 56, 57, 97, 98, 99, 100, 101, 102])[n.val]'(n.isLt) = letters.getD n.val 0 := by decide
  have := h ⟨i, by omega⟩
  simp only [Int.toNat_natCast]
  rw [← this]
theorem ltr_utf8 : ∀ i : Fin 16, Utf8.encode ((letters.getD i.val 0).toNat : Int) = ⟨#[letters.getD i.val 0]⟩ := by decide +kernel
theorem ltr_string {P : Program} {s t : TypeId} (hs : P.underlying s = some (.int .u8)) (ht : P.underlying t = some .string) {i : Nat} (h1 : i < 16) (wx : World) :
    (convert s t (.int .u8 ((letters.getD i 0).toNat : Int))).run P wx = .ok (.string ⟨#[letters.getD i 0]⟩) wx := by
  have := ltr_utf8 ⟨i, h1⟩
  dsimp only at this
  obtain ⟨z, hz⟩ : ∃ z, z = letters.getD i 0 := ⟨_, rfl⟩
  rw [← hz] at this ⊢
  simp [convert, run_underlying hs, run_underlying ht, Conv.intToString, this]
theorem hdR_inv {v : Value} {y : DataW Value × List MemPlace} (h : hdR v = some y) : ∃ c : Option Addr × Nat × Nat, v = .slice c.1 c.2.1 c.2.2 := by
  unfold hdR at h
  split at h
  · exact ⟨⟨_, _, _⟩, rfl⟩
  · cases h
/-- The step of a range over a map from words to slices. -/
theorem wpList_next_words {P : Program} (w : World) {ops : Array Oper} {rest : List Oper} {o : Oper} {a : Act} {Q : Exit → Act → World → Prop} (hg : o.guard = none) (it : Operand) (hop : o.op = Op.next it false) (k : TypeId) (K : Keyed P k) (hk : P.underlying k = some .string)
    (b r n : Nat) (D : DataW Value) (left : Lit → Bool) (cnt : Nat) (hit : a.eval it = .pointer (some ⟨r, 0, none⟩)) (h : w.ranges P k hdR b r n D left cnt)
    (hDone : cnt = 0 → (∀ kl, left kl = false) → wpList P ops Q rest (a.put o.dst (.tuple #[.bool false])) w)
    (hMore : ∀ (x : List UInt8) (sa : Option Addr) (sm sc : Nat) (w' : World) (cnt' : Nat), x.length ≤ maxLen → left (.string x) = true → (∀ zd, D.atKey (.string x) zd = .held (.slice sa sm sc)) → w'.ranges P k hdR b r n D (fun z => left z && !z.sameKey (.string x)) cnt' → cnt' < cnt →
      w.grownBy w' (some r) → w'.heap.size = w.heap.size → (Instr.entry (.pointer (some ⟨r, 0, none⟩))).run P w' = .ok (.tuple #[.string ⟨x.toArray⟩, .slice sa sm sc]) w' → wpList P ops Q rest (a.put o.dst (.tuple #[.bool true, .string ⟨x.toArray⟩, .slice sa sm sc])) w') :
    wpList P ops Q (o :: rest) a w :=
  wpList_next_ranges w hg it hop k K hdR (fun x : List UInt8 => Value.string ⟨x.toArray⟩) (fun c : Option Addr × Nat × Nat => Value.slice c.1 c.2.1 c.2.2)
    (fun key kl hkey => by obtain ⟨x, hx, -⟩ := Maps.keyOf_str hk hkey; exact ⟨x, hx⟩) (fun v y hv => hdR_inv hv)
    b r n D left cnt hit h hDone (fun x c kl y w' cnt' hkey hlk hv hat hrg hlt hgr hsz hen => by
      obtain ⟨x', ex, rfl, hxl⟩ := Maps.keyOf_str hk hkey
      obtain rfl := encStr_inj (x := x) (y := x') ex
      have hy : y = (.held (.slice c.1 c.2.1 c.2.2), []) := by
        simp only [hdR, Option.some.injEq] at hv
        exact hv.symm
      subst hy
      exact hMore x c.1 c.2.1 c.2.2 w' cnt' hxl hlk hat hrg hlt hgr hsz hen)
theorem isW_stop {L : Int} {es : List E3} {set : List Int} : ∀ {k n : Nat}, k ≤ n → (∀ l, isW L es set k l = false) → ∀ l, isW L es set n l = false
  | k, 0, h, h0, l => by obtain rfl : k = 0 := by omega
                         exact h0 l
  | k, n + 1, h, h0, l => by
    rcases Nat.lt_or_ge n k with hk | hk
    · obtain rfl : k = n + 1 := by omega
      exact h0 l
    · rcases snoc_cases l with rfl | ⟨a, c, rfl⟩
      · exact isW_nil_succ
      · rw [isW_snoc, isW_stop hk h0 a]; rfl
theorem wrep_none {es : List E3} {set : List Int} {w : World} {D : DataW Value} {p : List UInt8 → Bool} {P : Program} {k : TypeId} {R : Value → Option (DataW Value × List MemPlace)} {b n : Nat} (h : WRep es set w D p) (ho : w.ownsMap P k R b n D) (K : Keyed P k) (hk : P.underlying k = some .string) :
    Maps.size D = 0 ↔ ∀ l, p l = false := by
  obtain ⟨h1, h2, h3⟩ := own_keys ho K hk
  rw [← h3]
  constructor
  · intro e l
    have e2 := List.length_eq_zero_iff.1 e
    cases hp : p l with
    | false => rfl
    | true =>
      have h4 := (h2 l).2 ((h.1 l).trans hp)
      rw [e2] at h4; cases h4
  · intro e
    cases hs : strKeys D with
    | nil => rfl
    | cons a t =>
      have h4 := (h2 a).1 (by rw [hs]; simp)
      rw [h.1 a, e a] at h4; cases h4
/-- What list hands back. -/
def ListRet (es : List E3) (set : List Int) (L : Int) (n : Nat) (w : World) (e : Ending) (w' : World) : Prop :=
  Below w.heap.size w w' ∧ ∃ b D, e = .returned (.tuple #[.map (some b), .bool true]) ∧ w'.ownsMap Tryz.prog 9 hdR b 4096 D ∧ ∀ l, Maps.has D (.string l) = isW L es set n l
theorem lawS : Keyed Tryz.prog 9 := string_keyed Tryz.underlying9
set_option maxRecDepth 100000 in
set_option maxHeartbeats 6400000 in
theorem llist_ok (L S : Int) (n : Nat) (es : List E3) (v vs : Value) (set : List Int) (w : World) (hr : Row w v es.length (ce es)) (hrs : Row w vs set.length (ci set)) (hok : okEs es) (hc : chk L S es = 0) (hset : IsSet S set) (hne : set ≠ []) (hL2 : L ≤ 16) (hn : n ≤ 4096) (hpow : L.toNat ^ n ≤ 4096) :
    Calls Tryz.prog 64 #[.agg #[.int .i64 L, .int .i64 S, v], vs, .int .i64 (n : Int)] w (ListRet es set L n w) := by
  obtain ⟨va, vc, rfl, hle⟩ := hr.slice
  obtain ⟨sa, sc, rfl, hsle⟩ := hrs.slice
  have hL : 1 ≤ L := (chk_all hc).1
  have s0 := (Below.refl w.heap.size w).alloc (Nat.le_refl _) (.cells #[.int .i64 L, .int .i64 S, .slice va es.length vc] 24)
  have b0 := Blk.new w 24 [.int .i64 L, .int .i64 S, .slice va es.length vc]
  have hr0 := hr.below s0 (Nat.le_refl _)
  have hrs0 := hrs.below s0 (Nat.le_refl _)
  have hst := fun vs set c w' h h2 hset hl => lstep_any L S es (.slice va es.length vc) vs set c w' h h2 hok hc hset hl
  have hsp : decide (0 < set.length) = true := decide_eq_true (List.length_pos_iff.2 hne)
  have hpk : ∀ k, k ≤ n → L.toNat ^ k ≤ 4096 := fun k hk => Nat.le_trans (Nat.pow_le_pow_right (by omega) hk) hpow
  have hmm := @run_makeMap Tryz.prog
  obtain ⟨mm, hmm2⟩ : ∃ mm, mm = es.length := ⟨_, rfl⟩
  rw [← hmm2] at s0 b0 hr0 hrs0 hst
  obtain ⟨ms, hms⟩ : ∃ ms, ms = set.length := ⟨_, rfl⟩
  rw [← hms] at hsp
  have HMM := Lib.hid hmm2; clear hmm2
  have HMS := Lib.hid hms; clear hms
  have HST := Lib.hid hst; clear hst
  have HR := Lib.hid hr0; clear hr0
  have HRS := Lib.hid hrs0; clear hrs0
  have S0 := Lib.hid s0; clear s0
  have B0 := Lib.hid b0; clear b0
  have HPK := Lib.hid hpk; clear hpk
  have HNE := Lib.hid hne; clear hne
  have HSET := Lib.hid hset; clear hset
  have HOK := Lib.hid hok; clear hok
  have HC := Lib.hid hc; clear hc
  clear hr hrs hpow
  go_enter Tryz.func64, Tryz.ntmps64
  rw [← HMM.out, ← HMS.out]
  go_upto_region 1 with fail
  have hk0 : keyOf Tryz.prog 9 (.string ⟨#[]⟩) = some (.string []) := Go.WideMaps.keyOf_string_mk Tryz.underlying9 (by decide)
  obtain ⟨wg, hwg⟩ : ∃ wg, w.alloc (.cells #[.int .i64 L, .int .i64 S, .slice va mm vc] 24) = wg := ⟨_, rfl⟩
  have hgs : wg.heap.size = w.heap.size + 1 := by rw [← hwg]; simp
  have hown0 : (wg.alloc (.map #[] 0)).ownsMap Tryz.prog 9 hdR (w.heap.size + 1) 0 (.map []) := by rw [← hgs]; exact World.ownsMap_made _ _ _ _
  have hrow0 : Row (wg.alloc (.map #[] 0)) (.slice sa ms sc) (efold es [] set).length (ci set) := by
    rw [← hwg]
    have := HRS.out.below ((Below.refl _ (w.alloc (.cells #[.int .i64 L, .int .i64 S, .slice va mm vc] 24))).alloc (Nat.le_refl _) (.map #[] 0)) (Nat.le_refl _)
    rw [HMS.out]; exact this
  rw [hwg]
  go_wp2_with (first | (at_mapUpdate; refine wpList_mapUpdate_own _ rfl _ _ _ 78 rfl 9 81 lawS Tryz.underlying78 hdR (w.heap.size + 1) 0 (.map []) rfl hown0 (by decide) _ _ (.string []) rfl rfl hk0 (.held (.slice sa ms sc)) [] rfl ?_; intro w1 hown1 hg1) | go_in)
  have hwr0 : WRep es set w1 ((DataW.map []).put (.string []) (.held (.slice sa ms sc))) (isW L es set 0) := by
    have h1 := (wrep_nil es set (wg.alloc (.map #[] 0))).put Maps.isMap_empty (l0 := []) (v := .slice sa ms sc) (by
      have h := hrow0
      rw [show (efold es [] set).length = ms from HMS.out.symm] at h ⊢
      exact h)
    have h2 := h1.frame (fun v n xs h => Row.grown h hg1 (own_noCell hown0))
    exact h2.congr (fun l => by rw [isW_zero HNE.out]; simp)
  have hb1 : Below wg.heap.size wg w1 := ((Below.refl _ _).alloc (Nat.le_refl _) _).grown hg1 (by simp) (fun k hk => by cases hk; omega)
  have ho1 : w1.ownsMap Tryz.prog 9 hdR (w.heap.size + 1) 4096 ((DataW.map []).put (.string []) (.held (.slice sa ms sc))) := hown1.mono (by decide)
  have hgl : w.heap.size < wg.heap.size := by omega
  rw [hwg] at HR HRS S0 B0
  have HW0 := Lib.hid hwr0; clear hwr0
  have HB1 := Lib.hid hb1; clear hb1
  have HO1 := Lib.hid ho1; clear ho1
  clear hown0 hrow0 hown1 hg1 hk0 hwg
  go_loopw [8, 22] (fun a i wr => ∃ (k b : Nat) (D : DataW Value), k ≤ n ∧ i = .int .i64 (k : Int) ∧ a = .map (some b) ∧ w.heap.size < b ∧ wr.ownsMap Tryz.prog 9 hdR b 4096 D ∧ WRep es set wr D (isW L es set k) ∧ Below wg.heap.size wg wr) (fun _ i _ => n - (intOf i).toNat)
  case atStart => exact ⟨0, _, _, Nat.zero_le _, rfl, rfl, by omega, HO1.out, HW0.out, HB1.out⟩
  case round =>
    obtain ⟨k, b, D, hk, rfl, rfl, hbw, hown, hwr, hbel⟩ := hrel
    obtain ⟨wo, rfl⟩ : ∃ wo : World, wo = wr := ⟨_, rfl⟩
    by_cases hlt : k < n
    · have hownA := hown.alloc (.map #[] 0)
      have hbl := hown.lt
      have HOWN := Lib.hid hown; clear hown
      have HWR := Lib.hid hwr; clear hwr
      have HBEL := Lib.hid hbel; clear hbel
      go_wp2_with (first | (at_range; refine wpList_range_own _ rfl _ 78 rfl 9 81 lawS Tryz.underlying78 hdR b 4096 D rfl hownA ?_; intro w2 hrg2 hg2 hs2) | go_in)
      go_frame
      have e1 : (wo.alloc (.map #[] 0)).heap.size = wo.heap.size + 1 := by simp
      rw [e1] at hrg2 hs2 ⊢
      have hwo : wg.heap.size ≤ wo.heap.size := HBEL.out.size
      have hga : wo.grownBy (wo.alloc (.map #[] 0)) none := World.grownBy_alloc wo _ none
      have hb2 : Below wg.heap.size wg w2 := (HBEL.out.alloc hwo (.map #[] 0)).grown hg2 (by simp; omega) (fun k hk => by cases hk)
      have hwr2 : WRep es set w2 D (isW L es set k) := (HWR.out.frame (fun v m xs h => h.below ((Below.refl _ wo).alloc (Nat.le_refl _) (.map #[] 0)) (Nat.le_refl _))).frame (fun v m xs h => h.below (B := (wo.alloc (.map #[] 0)).heap.size) ⟨hg2.os, hg2.tape, hg2.output, hg2.size, fun i hi => hg2.block i hi (by simp)⟩ (Nat.le_refl _))
      have hnx2 : w2.ownsMap Tryz.prog 9 hdR wo.heap.size 4096 (.map []) := ((World.ownsMap_made wo _ _ _).mono (Nat.zero_le _)).kept hg2 (by simp)
      have hleft0 : ∀ l, Maps.has D (.string l) = isW L es set k l := hwr2.1
      have hwn2 : WRep es set w2 (.map []) (pW L es set k (Maps.has D)) := (wrep_nil es set w2).congr (fun l => (pW_start hleft0 l).symm)
      have HRG2 := Lib.hid hrg2; clear hrg2
      have HB2 := Lib.hid hb2; clear hb2
      have HWR2 := Lib.hid hwr2; clear hwr2
      have HNX2 := Lib.hid hnx2; clear hnx2
      have HWN2 := Lib.hid hwn2; clear hwn2
      have HL0 := Lib.hid hleft0; clear hleft0
      clear hownA hg2 hs2 hga e1
      go_loopw [10] (fun _ wr => ∃ (left : Lit → Bool) (cnt : Nat) (D' : DataW Value), wr.ranges Tryz.prog 9 hdR b (wo.heap.size + 1) 4096 D left cnt ∧ wr.ownsMap Tryz.prog 9 hdR wo.heap.size 4096 D' ∧ WRep es set wr D (isW L es set k) ∧ WRep es set wr D' (pW L es set k left) ∧ (∀ l, left (.string l) = true → isW L es set k l = true) ∧ Below wg.heap.size wg wr)
        (fun _ wr => wr.rangeLeft b (wo.heap.size + 1))
      case atStart => exact ⟨_, _, _, HRG2.out, HNX2.out, HWR2.out, HWN2.out, fun l h => (HL0.out l).symm.trans h, HB2.out⟩
      case round =>
        obtain ⟨left, cnt, D', hrg, hnx, hwr, hwn, hlw, hbel⟩ := hrel
        obtain ⟨wi, rfl⟩ : ∃ wi : World, wi = wr := ⟨_, rfl⟩
        have hrlt := hrg.lt
        have hrg0 := hrg
        have HNX := Lib.hid hnx; clear hnx
        have HWR3 := Lib.hid hwr; clear hwr
        have HWN := Lib.hid hwn; clear hwn
        have HLW := Lib.hid hlw; clear hlw
        have HB3 := Lib.hid hbel; clear hbel
        go_wp2_with (first | (at_next; refine wpList_next_words _ rfl _ rfl 9 lawS Tryz.underlying9 b (wo.heap.size + 1) 4096 D left cnt rfl hrg ?_ ?_) | go_in)
        · intro hc0 hl0
          have hwe : WRep es set wi D' (isW L es set (k + 1)) := HWN.out.congr (fun l => pW_end hl0 l)
          have hz := wrep_none hwe HNX.out lawS Tryz.underlying9
          by_cases hs : Maps.size D' = 0
          · have hsz : ((Maps.size D' : Nat) : Int) = 0 := by rw [hs]; rfl
            have hnone := isW_stop (L := L) (es := es) (set := set) (show k + 1 ≤ n by omega) (hz.1 hs)
            have hfin : ∀ l, Maps.has D' (.string l) = isW L es set n l := fun l => by rw [hwe.1 l, hz.1 hs l, hnone l]
            have HFIN := Lib.hid hfin; clear hfin
            clear hwe hz hs hl0 hrg hrg0 hnone
            go_wp2_with (first | (at_len; refine wpList_len_own _ rfl _ 78 rfl 9 81 Tryz.underlying78 hdR wo.heap.size 4096 D' rfl HNX.out ?_) | go_in)
            go_ret2
            exact ⟨S0.out.trans (HB3.out.mono S0.out.size), wo.heap.size, D', rfl, HNX.out, HFIN.out⟩
          · have hsz : ¬ ((Maps.size D' : Nat) : Int) = 0 := by omega
            have HWE := Lib.hid hwe; clear hwe
            clear hz hs hl0 hrg hrg0
            go_wp2_with (first | (at_len; refine wpList_len_own _ rfl _ 78 rfl 9 81 Tryz.underlying78 hdR wo.heap.size 4096 D' rfl HNX.out ?_) | go_in)
            go_roundw
            case rel => exact ⟨k + 1, wo.heap.size, D', by omega, by go_num, rfl, by omega, HNX.out, HWE.out, HB3.out⟩
            case measure => simp [intOf]; omega
        · intro x xa xm xc w3 cnt3 hxl hlx hat hrg3 hlt3 hg3 hs3 hen
          have hxw := HLW.out x hlx
          obtain ⟨xv, hxv, hxr⟩ := HWR3.out.2 x hxw
          have hxe : xv = .slice xa xm xc := by
            have h1 := hxv .nil
            rw [hat .nil] at h1
            exact (DataW.held.inj h1).symm
          subst hxe
          obtain ⟨xa', xc', hxe2, hxle⟩ := hxr.slice
          obtain rfl : xm = (efold es x set).length := by simpa using congrArg (fun v => match v with | .slice _ m _ => m | _ => 0) hxe2
          have hcr : ∀ (o : Nat) (p : Option Nat), wi.cell? ⟨wo.heap.size + 1, o, p⟩ = none := rng_noCell hrg0
          have hxr3 := Row.grown hxr hg3 hcr
          have hwr3 := HWR3.out.frame (fun v m xs h => Row.grown h hg3 hcr)
          have hnx3 := HNX.out.kept hg3 (by simp)
          have hb3 := HB3.out.grown hg3 HB3.out.size (fun j hj => by cases hj; omega)
          have hlx3 : ((fun z : Lit => left z && !z.sameKey (.string x)) (.string x)) = false := by simp [Lit.sameKey]
          have hwn3 : WRep es set w3 D' (qW L es set k (fun z => left z && !z.sameKey (.string x)) x 0) := (HWN.out.frame (fun v m xs h => Row.grown h hg3 hcr)).congr (fun l => qW_start hlx hL hL2 l)
          have hlw3 : ∀ l, ((fun z : Lit => left z && !z.sameKey (.string x)) (.string l)) = true → isW L es set k l = true := fun l hl => HLW.out l (by simp only [Bool.and_eq_true] at hl; exact hl.1)
          obtain ⟨left3, hleft3⟩ : ∃ left3, left3 = (fun z : Lit => left z && !z.sameKey (.string x)) := ⟨_, rfl⟩
          rw [← hleft3] at hrg3 hlx3 hwn3 hlw3
          obtain ⟨X, hX⟩ : ∃ X, X = efold es x set := ⟨_, rfl⟩
          rw [← hX] at hxr3 hat hen hxle ⊢
          have hXs : IsSet S X := by rw [hX]; exact efold_set HC.out x set HSET.out
          have hmeas := hrg0.left_eq
          obtain ⟨xm, hxm⟩ : ∃ xm, xm = X.length := ⟨_, rfl⟩
          rw [← hxm] at hxr3 hat hen hxle ⊢
          have hB3 : Blk w3 w.heap.size 24 [.int .i64 L, .int .i64 S, .slice va mm vc] := B0.out.below hb3 hgl
          have gx0 := hB3.cell (j := 0) rfl
          have GB3 := Lib.hid hB3; clear hB3
          have HXR3 := Lib.hid hxr3; clear hxr3
          have HWR4 := Lib.hid hwr3; clear hwr3
          have HNX3 := Lib.hid hnx3; clear hnx3
          have HB4 := Lib.hid hb3; clear hb3
          have HWN3 := Lib.hid hwn3; clear hwn3
          have HLW3 := Lib.hid hlw3; clear hlw3
          have HRG3 := Lib.hid hrg3; clear hrg3
          have HX := Lib.hid hX; clear hX
          have HXS := Lib.hid hXs; clear hXs
          have HXM := Lib.hid hxm; clear hxm
          have HLX3 := Lib.hid hlx3; clear hlx3
          have HMEAS := Lib.hid hmeas; clear hmeas
          clear hrg hrg0 hxr hxv hg3 hs3 hcr hat hlx hleft3 hxe2
          go_wp2_with fail
          obtain ⟨l, hl⟩ : ∃ l : Nat, L = (l : Int) := ⟨L.toNat, by omega⟩
          have hlt0 : L.toNat = l := by omega
          go_loopw [34] (fun i wr => ∃ (j : Nat) (D' : DataW Value), j ≤ l ∧ i = .int .i64 (j : Int) ∧ wr.ranges Tryz.prog 9 hdR b (wo.heap.size + 1) 4096 D left3 cnt3 ∧ wr.ownsMap Tryz.prog 9 hdR wo.heap.size 4096 D' ∧ WRep es set wr D (isW L es set k) ∧ WRep es set wr D' (qW L es set k left3 x j) ∧ Row wr (.slice xa xm xc) xm (ci X) ∧ Below wg.heap.size wg wr) (fun i _ => l - (intOf i).toNat)
          case atStart => exact ⟨0, D', Nat.zero_le _, rfl, HRG3.out, HNX3.out, HWR4.out, HWN3.out, HXR3.out, HB4.out⟩
          case round =>
            obtain ⟨j, D2, hj, rfl, hrg, hnx, hwr, hwn, hxr, hbel⟩ := hrel
            have hB3 : Blk wr w.heap.size 24 [.int .i64 L, .int .i64 S, .slice va mm vc] := B0.out.below hbel hgl
            have gx0 := hB3.cell (j := 0) rfl
            have gx1 := hB3.cell (j := 1) rfl
            have gx2 := hB3.cell (j := 2) rfl
            have hsz2 : Maps.size D2 ≤ 4096 := by
              refine Nat.le_trans (own_size hnx lawS Tryz.underlying9 (M := allS L.toNat (k + 1)) fun l hl => ?_) (Nat.le_trans (allS_len _ _) (HPK.out (k + 1) (by omega)))
              rw [hwn.1 l] at hl
              unfold qW at hl
              simp only [Bool.and_eq_true] at hl
              exact isW_all hl.1.1
            by_cases hlt4 : j < l
            · have hj16 : j < 16 := by omega
              have hidx := fun wx => ltr_index (P := Tryz.prog) Tryz.underlying9 hj16 wx
              have hcv := fun wx => ltr_string (P := Tryz.prog) Tryz.underlying5 Tryz.underlying9 hj16 wx
              have hlb : lbL (letters.getD j 0) = (j : Int) := lbL_get ⟨j, hj16⟩
              have hcall := HST.out (.slice xa xm xc) X (letters.getD j 0) wr (HR.out.below hbel (Nat.le_refl _)) (by rw [← HXM.out]; exact hxr) HXS.out (by rw [hlb]; omega)
              rw [hlb] at hcall
              have hstep := qW_step (L := L) (es := es) (set := set) (k := k) (i := j) HLX3.out hxw hL hL2 (by omega)
              rw [← HX.out] at hstep
              obtain ⟨c, hc⟩ : ∃ c, c = letters.getD j 0 := ⟨_, rfl⟩
              rw [← hc] at hidx hcv hcall hstep
              obtain ⟨Y, hY⟩ : ∃ Y, Y = stepR es (j : Int) X := ⟨_, rfl⟩
              rw [← hY] at hcall hstep
              have hix : (0 : Int) ≤ (j : Int) := by omega
              have hjL : (j : Int) < L := by omega
              have HCALL := Lib.hid hcall; clear hcall
              have HSTEP := Lib.hid hstep; clear hstep
              have HRG := Lib.hid hrg; clear hrg
              have HNX5 := Lib.hid hnx; clear hnx
              have HWR5 := Lib.hid hwr; clear hwr
              have HWN5 := Lib.hid hwn; clear hwn
              have HXR5 := Lib.hid hxr; clear hxr
              have HB5 := Lib.hid hbel; clear hbel
              have HY := Lib.hid hY; clear hY
              have HCC := Lib.hid hc; clear hc
              have HLL := Lib.hid hl; clear hl
              clear hB3
              go_wp2_with fail
              refine HCALL.out.mono ?_
              rintro e w4 ⟨hq, vn, rfl, hrn⟩
              obtain ⟨na, nc, rfl, hnle⟩ := hrn.slice
              have hrg4 := HRG.out.kept hq.grow (by simp) (by simp)
              have hnx4 := HNX5.out.kept hq.grow (by simp)
              have hwr4 := HWR5.out.frame (fun v m xs h => h.below hq (Nat.le_refl _))
              have hwn4 := HWN5.out.frame (fun v m xs h => h.below hq (Nat.le_refl _))
              have hxr4 := HXR5.out.below hq (Nat.le_refl _)
              have hb4 := HB5.out.trans (hq.mono HB5.out.size)
              clear gx0 gx1 gx2
              obtain ⟨yl, hyl⟩ : ∃ yl, yl = Y.length := ⟨_, rfl⟩
              rw [← hyl] at hrn hnle ⊢
              by_cases hye : Y = []
              · have h0 : ¬ 0 < yl := by rw [hyl, hye]; simp
                have hwn5 := hwn4.congr (q := qW L es set k left3 x (j + 1)) (fun l => by rw [HSTEP.out l, hye]; simp)
                have HRG4 := Lib.hid hrg4; clear hrg4
                have HNX4 := Lib.hid hnx4; clear hnx4
                have HWR6 := Lib.hid hwr4; clear hwr4
                have HWN6 := Lib.hid hwn5; clear hwn5
                have HXR6 := Lib.hid hxr4; clear hxr4
                have HB6 := Lib.hid hb4; clear hb4
                have HYL := Lib.hid hyl; clear hyl
                clear hq hrn hwn4 hye
                go_wp2_with fail
                go_roundw
                case rel => exact ⟨j + 1, D2, by omega, by go_num, HRG4.out, HNX4.out, HWR6.out, HWN6.out, HXR6.out, HB6.out⟩
                case measure => simp [intOf]; omega
              · have h0 : 0 < yl := by rw [hyl]; exact List.length_pos_iff.2 hye
                have hyb : Y.isEmpty = false := by simpa using hye
                have HRG4 := Lib.hid hrg4; clear hrg4
                have HWR6 := Lib.hid hwr4; clear hwr4
                have HWN6 := Lib.hid hwn4; clear hwn4
                have HXR6 := Lib.hid hxr4; clear hxr4
                have HB6 := Lib.hid hb4; clear hb4
                have HYL := Lib.hid hyl; clear hyl
                have HRN := Lib.hid hrn; clear hrn
                clear hq hye
                have hsm : ¬ 9223372036854775807 < x.length + 1 := by have := (isW_iff.1 hxw).1; omega
                have hkey : ∀ s : ByteArray, s.data.toList = x ++ [c] → keyOf Tryz.prog 9 (.string s) = some (.string (x ++ [c])) := fun s hs => by
                  rw [← hs]
                  exact Go.WideMaps.keyOf_string_mk Tryz.underlying9 (by
                    have h2 := (isW_iff.1 hxw).1
                    have h3 : s.size = (x ++ [c]).length := by rw [← hs]; simp
                    rw [h3, List.length_append, List.length_singleton]; unfold maxLen; omega)
                have HKEY := Lib.hid hkey; clear hkey
                go_wp2_with (first | (at_mapUpdate; refine wpList_mapUpdate_own _ rfl _ _ _ 78 rfl 9 81 lawS Tryz.underlying78 hdR wo.heap.size 4096 D2 rfl hnx4 (by unfold maxLen; omega) _ _ (.string (x ++ [c])) rfl rfl (HKEY.out _ (by simp)) (.held (.slice na yl nc)) [] rfl ?_; intro w5 hown5 hg5; go_frame) | go_in)
                have hcb : ∀ (o : Nat) (p : Option Nat), w4.cell? ⟨wo.heap.size, o, p⟩ = none := own_noCell hnx4
                have hfr : ∀ v m xs, Row w4 v m xs → Row w5 v m xs := fun v m xs h => Row.grown h hg5 hcb
                have hXe : efold es (x ++ [c]) set = Y := by
                  rw [efold_snoc, ← HX.out, HY.out, HCC.out, lbL_get ⟨j, hj16⟩]
                have hput := (HWN6.out.put hnx4.isMap (l0 := x ++ [c]) (v := .slice na yl nc) (by
                  have h := HRN.out
                  rw [hXe, ← HYL.out]; exact h)).frame hfr
                have hput2 := hput.congr (q := qW L es set k left3 x (j + 1)) (fun l => by rw [HSTEP.out l, hyb]; simp)
                have hsz5 : Maps.size (D2.put (Lit.string (x ++ [c])) (DataW.held (Value.slice na yl nc))) ≤ 4096 := by
                  refine Nat.le_trans (own_size hown5 lawS Tryz.underlying9 (M := allS L.toNat (k + 1)) fun l hl => ?_) (Nat.le_trans (allS_len _ _) (HPK.out (k + 1) (by omega)))
                  rw [hput2.1 l] at hl
                  unfold qW at hl
                  simp only [Bool.and_eq_true] at hl
                  exact isW_all hl.1.1
                go_roundw
                case rel => exact ⟨j + 1, _, by omega, by go_num, HRG4.out.kept hg5 (fun e => by have := Option.some.inj e; omega) (fun e => by have := Option.some.inj e; omega), own_tight hown5 hsz5, HWR6.out.frame hfr, hput2, hfr _ _ _ HXR6.out, HB6.out.grown hg5 HB6.out.size (fun i hi => by cases hi; exact hwo)⟩
                case measure => simp [intOf]; omega
            · obtain rfl : j = l := by omega
              have hwn6 := hwn.congr (q := pW L es set k left3) (fun l => by rw [← qW_end hL hL2 l, hlt0])
              have hjL : ¬ (j : Int) < L := by omega
              clear hl hlt0 hB3 gx1 gx2
              go_wp2_with (first | (at_len; refine wpList_len_own _ rfl _ 78 rfl 9 81 Tryz.underlying78 hdR wo.heap.size 4096 D2 rfl hnx ?_) | go_in)
              go_roundw
              case rel => exact ⟨left3, cnt3, D2, hrg, hnx, hwr, hwn6, HLW3.out, hbel⟩
              case measure => rw [hrg.left_eq, HMEAS.out]; exact hlt3
    · obtain rfl : k = n := by omega
      have HOWN := Lib.hid hown; clear hown
      have HWR := Lib.hid hwr; clear hwr
      have HBEL := Lib.hid hbel; clear hbel
      go_wp2_with fail
      go_ret2
      exact ⟨S0.out.trans (HBEL.out.mono S0.out.size), b, D, rfl, HOWN.out, HWR.out.1⟩
end Go.Proofs.YthpgeeaccmgbkaaGreat
