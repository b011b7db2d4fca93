/- The contracts of runlength.build and its closure. -/
import Derived.Test.YtadibbbaegbljaaMake
import Derived.Test.YtadibbbaegbljaaRun
import Derived.Deep.AppendLies
import Derived.Deep.RegionLaw
namespace Go.Proofs.Ytadibbbaegbljaa
open Go.RowKit

/-- A box that holds a slice of edges, whose row lies behind it. -/
def ListAt (w : World) (b : Nat) (es : List E3) : Prop := ∃ v, Blk w b 44 [v] ∧ w.ownsRow (b + 1) 60 3 v es.length (ce es)
def addTo (S : Int) (es : List E3) (e : E3) : List E3 := if 0 ≤ e.t ∧ e.t < S then es ++ [e] else es
def AddRet (w : World) (b : Nat) (es : List E3) (e : Ending) (w' : World) : Prop := Below b w w' ∧ e = .returned (.tuple #[]) ∧ ListAt w' b es
theorem ce_append (l k : List E3) : ce (l ++ k) = ce l ++ ce k := by simp [ce]

set_option maxRecDepth 100000 in
set_option maxHeartbeats 1600000 in
theorem badd_any (S : Int) (es : List E3) (x : E3) (bs b : Nat) (w : World) (hb : ListAt w b es) (hS : w.cell? ⟨bs, 0, none⟩ = some (.int .i64 S)) (hlen : es.length ≤ 1000000) (hbs : bs < b) :
    Calls Try.prog 75 #[.int .i64 x.f, .int .i64 x.l, .int .i64 x.t, .pointer (some ⟨bs, 0, none⟩), .pointer (some ⟨b, 0, none⟩)] w (AddRet w b (addTo S es x)) := by
  obtain ⟨v, hv, hown⟩ := hb
  have hbl := hv.lt
  have c0 := hv.cell (j := 0) rfl
  have HV := Lib.hid hv; clear hv
  have HO := Lib.hid hown; clear hown
  have HS := Lib.hid hS; clear hS
  have HS' := HS.out
  by_cases ht : 0 ≤ x.t ∧ x.t < S
  · have h1 : decide (0 ≤ x.t) = true := by simp; omega
    have h2 : decide (x.t < S) = true := by simp; omega
    have he : addTo S es x = es ++ [x] := if_pos ht
    have HE := Lib.hid he; clear he
    obtain ⟨a, cap, rfl⟩ := own_slice HO.out
    obtain ⟨i0, hi, hz0, hz1', hz2'⟩ := info_parts infoEdge
    have hvne : ∀ u : Unit, some b ≠ (Value.slice a es.length cap).ownBlock := fun _ e => by have := (HO.out.lt b e.symm).1; omega
    have c0' := (HV.out.alloc (.cells #[.int .i64 x.f, .int .i64 x.l, .int .i64 x.t] 60)).cell (j := 0) rfl
    go_enter Try.func75, Try.ntmps75
    go_wp2_with (at_builtin; refine wpList_append_lies _ rfl (.tmp 15) (.tmp 20) 44 rfl (b + 1) 60 i0 _ 3 24 Try.underlying44 hi hz0 hz1' hz2' rfl (by decide) _ _ _ rfl (HO.out.alloc _) _ 1 1 [.int .i64 x.f, .int .i64 x.l, .int .i64 x.t] rfl rfl (World.news_of_block (heap_alloc_new _ _)) (by simp [Value.oneCell']) (by omega) (by unfold maxLen; omega) (by omega) (by simp; omega) _ rfl ?_; intro g cap' w3 hown' hg hat hlt'; have b4 := (HV.out.alloc _).of_block (hg.block b (by simp; omega) (hvne ())); have s04 := b4.cell (j := 0) rfl; have f04 := b4.frozen 0; have HB4 := Lib.hid b4; clear b4; have HG := Lib.hid hg; clear hg; have HO4 := Lib.hid hown'; clear hown'; have HAT := Lib.hid hat; clear hat)
    go_end0
    have hgb := (HO4.out.lt g rfl).1
    have s1 := ((Below.refl b w).alloc (by omega) (.cells #[.int .i64 x.f, .int .i64 x.l, .int .i64 x.t] 60)).grown HG.out (by simp; omega) (fun j hj => by have := (HO.out.lt j hj).1; omega)
    refine ⟨s1.setCell (p := ⟨b, 0, none⟩) (Nat.le_refl _) _, rfl, _, HB4.out.set 0 _, ?_⟩
    rw [HE.out, List.length_append, ce_append]
    exact own_setCell HO4.out _ _ (fun e => by have e2 := Option.some.inj (show some g = some b from e); omega)
  · have he : addTo S es x = es := if_neg ht
    have HE := Lib.hid he; clear he
    by_cases h0 : 0 ≤ x.t
    · have h1 : decide (0 ≤ x.t) = true := by simp; omega
      have h2 : decide (x.t < S) = false := by simp; omega
      go_enter Try.func75, Try.ntmps75
      go_wp2_with fail
      go_end0
      rw [HE.out]
      exact ⟨Below.refl _ _, rfl, _, HV.out, HO.out⟩
    · have h1 : decide (0 ≤ x.t) = false := by simp; omega
      go_enter Try.func75, Try.ntmps75
      go_wp2_with fail
      go_end0
      rw [HE.out]
      exact ⟨Below.refl _ _, rfl, _, HV.out, HO.out⟩
/-- The closure of build as a value. -/
abbrev addF (bs b : Nat) : Value := .func (.func 75) #[] #[.pointer (some ⟨bs, 0, none⟩), .pointer (some ⟨b, 0, none⟩)]
/-- What a function that adds edges does. -/
def Adds (F : Nat) (cb : Array Value) (w : World) (S : Int) (es : List E3) : Prop :=
  ∀ (bs b : Nat) (w' : World), Below w.heap.size w w' → w.heap.size ≤ bs → bs < b → w'.cell? ⟨bs, 0, none⟩ = some (.int .i64 S) → ListAt w' b [] → Calls Try.prog F (#[addF bs b] ++ cb) w' (AddRet w' b es)

set_option maxRecDepth 100000 in
set_option maxHeartbeats 1600000 in
theorem build_any (S : Int) (F : Nat) (cb : Array Value) (es : List E3) (w : World) (hF : Adds F cb w S es) (hent : ∀ args w, (callFunc F args).run Try.prog w = .ok (.enter F args) w)
    (hS : S ≤ 64) (hok : okEs es) (hne : es ≠ []) (hlen : es.length ≤ 1000000) (hno : NoTwins (sortE es)) (hchk : chk 2 S (sortE es) = 0) :
    Calls Try.prog 51 #[.int .i64 S, .func (.func F) #[] cb] w (MakeRet w 2 S es) := by
  have h64 : decide ((64 : Int) < S) = false := by simp; omega
  have s0 := ((((Below.refl w.heap.size w).alloc (Nat.le_refl _) (.cells #[.int .i64 S] 3)).alloc (by simp) (.cells #[.int .i64 0, .int .i64 0, .slice none 0 0] 46)).alloc (by simp only [World.size_alloc]; omega) (.cells #[.slice none 0 0] 44))
  have cS := ((Blk.new w 3 [.int .i64 S]).alloc (.cells #[.int .i64 0, .int .i64 0, .slice none 0 0] 46)).alloc (.cells #[.slice none 0 0] 44)
  have cG := (Blk.new (w.alloc (.cells #[.int .i64 S] 3)) 46 [.int .i64 0, .int .i64 0, .slice none 0 0]).alloc (.cells #[.slice none 0 0] 44)
  have cL := Blk.new ((w.alloc (.cells #[.int .i64 S] 3)).alloc (.cells #[.int .i64 0, .int .i64 0, .slice none 0 0] 46)) 44 [.slice none 0 0]
  simp only [World.size_alloc] at cG cL
  have hcon := hF w.heap.size (w.heap.size + 1 + 1) _ s0 (Nat.le_refl _) (by omega) (cS.cell (j := 0) rfl) ⟨_, cL, World.ownsRow_nil _ _ _ _⟩
  clear hF cL
  have HS0 := Lib.hid s0; clear s0
  have HCS := Lib.hid cS; clear cS
  have HCG := Lib.hid cG; clear cG
  have HCON := Lib.hid hcon; clear hcon
  have HOK := Lib.hid hok; clear hok
  have HNE := Lib.hid hne; clear hne
  have HNO := Lib.hid hno; clear hno
  have HCH := Lib.hid hchk; clear hchk
  go_enter Try.func51, Try.ntmps51
  go_wp2_with (first | (go_at_call 76; refine (make_any 2 S es _ _ HRW.out HOK.out HNE.out (by omega) HNO.out HCH.out).mono ?_; rintro e w3 ⟨hq3, g, cap, rfl, hown3⟩; have hcg3 := HCG2.out.below hq3 (by omega); have r0 := hcg3.cell (j := 0) rfl; have r1 := hcg3.cell (j := 1) rfl; have r2 := hcg3.cell (j := 2) rfl; have f0 := hcg3.frozen 0; have f1 := hcg3.frozen 1; have f2 := hcg3.frozen 2; clear hcg3; have HQ3 := Lib.hid hq3; clear hq3; have HO3 := Lib.hid hown3; clear hown3) | (refine (HCON.out).mono ?_; rintro e w2 ⟨hq, rfl, v, hbl, hown⟩; have hsz := hq.size; simp only [World.size_alloc] at hsz; have hcs2 := HCS.out.below hq (by omega); have cs2 := hcs2.cell (j := 0) rfl; have hcg2 := HCG.out.below hq (by omega); have cl2 := hbl.cell (j := 0) rfl; have hrow := own_row hown; have HRW := Lib.hid hrow; clear hrow; have HCG2 := Lib.hid hcg2; clear hcg2; have HQ := Lib.hid hq; clear hq; clear hown hbl hcs2))
  have hg3 := (HO3.out.lt g rfl).1
  have s1 := HS0.out.trans (HQ.out.mono (by omega))
  have s2 := s1.trans (HQ3.out.mono s1.size)
  have hgw : (Value.slice (some ⟨g, 0, none⟩) es.length cap).ownBlock ≠ some (w.heap.size + 1) := fun e => by have h4 := Option.some.inj (show some g = some (w.heap.size + 1) from e); omega
  have o6 := own_setCell (own_setCell (own_setCell (own_mono HO3.out (base' := w.heap.size) (by omega)) ⟨w.heap.size + 1, 0, none⟩ (.int .i64 2) hgw) ⟨w.heap.size + 1, 1, none⟩ (.int .i64 S) hgw) ⟨w.heap.size + 1, 2, none⟩ (.slice (some ⟨g, 0, none⟩) es.length cap) hgw
  have s6 := ((s2.setCell (p := ⟨w.heap.size + 1, 0, none⟩) (by simp) (.int .i64 2)).setCell (p := ⟨w.heap.size + 1, 1, none⟩) (by simp) (.int .i64 S)).setCell (p := ⟨w.heap.size + 1, 2, none⟩) (by simp) (.slice (some ⟨g, 0, none⟩) es.length cap)
  have S6 := Lib.hid s6; clear s1 s2 s6
  have O6 := Lib.hid o6; clear o6
  refine bodyPost_ret (v := .tuple #[.agg #[.int .i64 2, .int .i64 S, .slice (some ⟨g, 0, none⟩) es.length cap], .int .i64 0]) (by simp [results, Try.results51, go_sem, *]) rfl ⟨S6.out, g, cap, rfl, O6.out⟩
end Go.Proofs.Ytadibbbaegbljaa
