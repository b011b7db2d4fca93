/- sturm.Isolate's closure (printed by gen_iso.py). -/
import Derived.Shelf.Abstract
import Derived.Test.YtjpalbonclgflaaPart17
namespace Go.Proofs.Ytjpalbonclgflaa
open Go.RowKit

abbrev Ivl := Rat × Rat
def cq (q : Rat) : List Value := [.bool (ineg q.num), .string (imag q.num), .bool (ineg (q.den : Int)), .string (imag (q.den : Int))]
def cis (l : List Ivl) : List Value := l.flatMap fun x => cq x.1 ++ cq x.2
theorem cis_snoc (l : List Ivl) (x : Ivl) : cis (l ++ [x]) = cis l ++ (cq x.1 ++ cq x.2) := by simp [cis]
theorem infoIv : (Try.prog.info? 54).map (fun i => (i.zero, i.size, i.bytes)) = some (some (.agg #[.bool false, .string ⟨#[]⟩, .bool false, .string ⟨#[]⟩, .bool false, .string ⟨#[]⟩, .bool false, .string ⟨#[]⟩]), 8, 96) := by kernel_rfl
inductive Iso (rows : List (List Int)) (K : Nat) : Rat → Rat → List Ivl → Prop
 | none (lo hi : Rat) : rs K lo → rs K hi → (chg rows lo : Int) - (chg rows hi : Int) = 0 → Iso rows K lo hi []
 | one (lo hi : Rat) : rs K lo → rs K hi → (chg rows lo : Int) - (chg rows hi : Int) = 1 → Iso rows K lo hi [(lo, hi)]
 | more (lo hi : Rat) (A B : List Ivl) : rs K lo → rs K hi → (chg rows lo : Int) - (chg rows hi : Int) ≠ 0 → (chg rows lo : Int) - (chg rows hi : Int) ≠ 1 → Iso rows K lo ((lo + hi) / 2) A → Iso rows K ((lo + hi) / 2) hi B → Iso rows K lo hi (A ++ B)
theorem Only.trans' {c d : Nat → Obj → Prop} {A B C : World} (h : Only c A B) (k : Only d B C) (hd : ∀ b o, b < A.heap.size → d b o → c b o) : Only c A C :=
 ⟨k.os.trans h.os, k.tape.trans h.tape, k.output.trans h.output, Nat.le_trans h.size k.size, fun b o hb hc => k.same b o (h.same b o hb hc) (fun e => hc (hd b o (Array.getElem?_eq_some_iff.1 hb).1 e))⟩
def HalveRet (bo base : Nat) (vo : Value) (acc res : List Ivl) (w : World) (e : Ending) (w' : World) : Prop :=
 (∃ v, e = .returned v) ∧ ∃ vo', Only (fun k _ => k = bo ∨ vo.ownBlock = some k) w w' ∧ Blk w' bo 48 [vo'] ∧ w'.ownsRow base 54 8 vo' (acc ++ res).length (cis (acc ++ res)) ∧ (vo'.ownBlock = vo.ownBlock ∨ ∃ g, vo'.ownBlock = some g ∧ w.heap.size ≤ g)
set_option maxRecDepth 100000 in
set_option maxHeartbeats 6400000 in
theorem halve_none (rows : List (List Int)) (K M : Nat) (va : Option Addr) (n vc : Nat) (bl bo bh base : Nat) (w0 : World) (ht : Tab w0 (.slice va n vc) rows) (hlr : rows.length ≤ 1000) (hs : ∀ p ∈ rows, p.length ≤ 65 ∧ ∀ x ∈ p, zs M x) (hM : M ≤ 1000000000) (hK : K ≤ 1000000000)
  (hd1 : w0.heap.size ≤ bl) (hd2 : bl < bo) (hd3 : bo < bh) (hd4 : bh < base) (lo hi : Rat) (hlo : rs K lo) (hhi : rs K hi) (hcv : (chg rows lo : Int) - (chg rows hi : Int) = 0)
  (w : World) (vo : Value) (acc : List Ivl) (hlen : (acc ++ ([])).length ≤ 1000) (hbl : Blk w bl 43 [.slice va n vc]) (hbo : Blk w bo 48 [vo]) (hbh : Blk w bh 70 [.func (.func 32) #[] #[.pointer (some ⟨bl, 0, none⟩), .pointer (some ⟨bo, 0, none⟩), .pointer (some ⟨bh, 0, none⟩)]]) (how : w.ownsRow base 54 8 vo acc.length (cis acc)) (hbw : Below w0.heap.size w0 w) (hbs : base ≤ w.heap.size) :
  Calls Try.prog 32 #[RatV lo, RatV hi, .pointer (some ⟨bl, 0, none⟩), .pointer (some ⟨bo, 0, none⟩), .pointer (some ⟨bh, 0, none⟩)] w (HalveRet bo base vo acc ([]) w) := by
 show Calls Try.prog 32 #[.agg #[.bool (ineg lo.num), .string (imag lo.num), .bool (ineg (lo.den : Int)), .string (imag (lo.den : Int))], .agg #[.bool (ineg hi.num), .string (imag hi.num), .bool (ineg (hi.den : Int)), .string (imag (hi.den : Int))], .pointer (some ⟨bl, 0, none⟩), .pointer (some ⟨bo, 0, none⟩), .pointer (some ⟨bh, 0, none⟩)] w _
 have hsl := hlo
 have hsh := hhi
 have hct : ∀ w', Tab w' (.slice va n vc) rows → Calls Try.prog 28 #[.slice va n vc, .agg #[.bool (ineg lo.num), .string (imag lo.num), .bool (ineg (lo.den : Int)), .string (imag (lo.den : Int))], .agg #[.bool (ineg hi.num), .string (imag hi.num), .bool (ineg (hi.den : Int)), .string (imag (hi.den : Int))]] w' (Ret w' (.int .i64 ((chg rows lo : Int) - (chg rows hi : Int)))) := fun w' h => by
  have h2 := scount_any rows (.slice va n vc) (ineg lo.num) (ineg (lo.den : Int)) (imag lo.num) (imag (lo.den : Int)) (ineg hi.num) (ineg (hi.den : Int)) (imag hi.num) (imag (hi.den : Int)) w' M h hlr hs hM (Nat.le_trans hsl.1.size hK) (Nat.le_trans hsl.2.size hK) (Nat.le_trans hsh.1.size hK) (Nat.le_trans hsh.2.size hK)
  simp only [ival_canon, Rat.num_divInt_den] at h2
  exact h2
 obtain ⟨c, hc⟩ : ∃ c, c = (chg rows lo : Int) - (chg rows hi : Int) := ⟨_, rfl⟩
 rw [← hc] at hct hcv
 clear hsl hsh
 have hc0 : ((c : Int) == 0) = true := by rw [hcv]; rfl
 clear hc hcv
 have hbl0 := hbl
 have hbo0 := hbo
 have hbh0 := hbh
 have how0 := how
 have hbw0 := hbw
 clear hbl hbo hbh how hbw
 obtain ⟨w4, hw4⟩ : ∃ w4, w4 = (w.alloc (.cells #[.bool (ineg lo.num), .string (imag lo.num), .bool (ineg (lo.den : Int)), .string (imag (lo.den : Int))] 35)).alloc (.cells #[.bool (ineg hi.num), .string (imag hi.num), .bool (ineg (hi.den : Int)), .string (imag (hi.den : Int))] 35) := ⟨_, rfl⟩
 have k_a : Blk w4 (w.heap.size) 35 [.bool (ineg lo.num), .string (imag lo.num), .bool (ineg (lo.den : Int)), .string (imag (lo.den : Int))] := by
  rw [hw4]
  have h := ((Blk.new (w) 35 [.bool (ineg lo.num), .string (imag lo.num), .bool (ineg (lo.den : Int)), .string (imag (lo.den : Int))]).alloc (.cells #[.bool (ineg hi.num), .string (imag hi.num), .bool (ineg (hi.den : Int)), .string (imag (hi.den : Int))] 35))
  (try simp only [World.size_alloc, Nat.add_assoc, Nat.reduceAdd] at h)
  exact h
 have k_b : Blk w4 (w.heap.size + 1) 35 [.bool (ineg hi.num), .string (imag hi.num), .bool (ineg (hi.den : Int)), .string (imag (hi.den : Int))] := by
  rw [hw4]
  have h := (Blk.new (w.alloc (.cells #[.bool (ineg lo.num), .string (imag lo.num), .bool (ineg (lo.den : Int)), .string (imag (lo.den : Int))] 35)) 35 [.bool (ineg hi.num), .string (imag hi.num), .bool (ineg (hi.den : Int)), .string (imag (hi.den : Int))])
  (try simp only [World.size_alloc, Nat.add_assoc, Nat.reduceAdd] at h)
  exact h
 have tl : Below w.heap.size w w4 := by
  rw [hw4]
  exact (((Below.refl w.heap.size w).alloc (by simp <;> omega) (.cells #[.bool (ineg lo.num), .string (imag lo.num), .bool (ineg (lo.den : Int)), .string (imag (lo.den : Int))] 35)).alloc (by simp <;> omega) (.cells #[.bool (ineg hi.num), .string (imag hi.num), .bool (ineg (hi.den : Int)), .string (imag (hi.den : Int))] 35))
 have hs4 : w4.heap.size = w.heap.size + 2 := by rw [hw4]; simp only [World.size_alloc]
 obtain ⟨a_0, a_f0, a_1, a_f1, a_2, a_f2, a_3, a_f3⟩ := k_a.f4
 have HA := zh k_a; clear k_a
 obtain ⟨b_0, b_f0, b_1, b_f1, b_2, b_f2, b_3, b_f3⟩ := k_b.f4
 have HB := zh k_b; clear k_b
 have HBL := zh tl; clear tl
 have k_l := hbl0.keep HBL.out
 obtain ⟨l_0, l_f0⟩ := k_l.f1
 have HL := zh k_l; clear k_l
 have k_o := hbo0.keep HBL.out
 obtain ⟨o_0, o_f0⟩ := k_o.f1
 have HO := zh k_o; clear k_o
 have k_h := hbh0.keep HBL.out
 obtain ⟨h_0, h_f0⟩ := k_h.f1
 have HH := zh k_h; clear k_h
 have ht4 := (ht.below (hbw0.trans (HBL.out.mono hbw0.size)) (Nat.le_refl _))
 have hct4 := hct _ ht4
 have HCT := zh hct4; clear hct4
 have how4 := own_below how0 HBL.out
 obtain ⟨ao, co, rfl⟩ := own_slice how0
 have HOW := zh how4; clear how4
 have HOW0 := zh how0; clear how0
 have HBW0 := zh hbw0; clear hbw0
 clear ht4 hct hbl0 hbo0 hbh0
 go_enter Try.func32, Try.ntmps32
 go_upto_region 1 with fail
 (try rw [← hw4])
 clear hw4
 (try simp only [Nat.add_assoc, Nat.reduceAdd])
 go_wp2_with fail
 refine (HCT.out).mono ?_
 rintro e w5 ⟨hq, rfl⟩
 dsimp only
 have k_a := HA.out.keep hq
 have k_b := HB.out.keep hq
 have k_l := HL.out.keep hq
 have k_o := HO.out.keep hq
 have k_h := HH.out.keep hq
 have tl := HBL.out.trans ((hq).mono HBL.out.size)
 clear HBL HA HB HL HO HH
 clear a_0 a_f0 a_1 a_f1 a_2 a_f2 a_3 a_f3
 obtain ⟨a_0, a_f0, a_1, a_f1, a_2, a_f2, a_3, a_f3⟩ := k_a.f4
 have HA := zh k_a; clear k_a
 clear b_0 b_f0 b_1 b_f1 b_2 b_f2 b_3 b_f3
 obtain ⟨b_0, b_f0, b_1, b_f1, b_2, b_f2, b_3, b_f3⟩ := k_b.f4
 have HB := zh k_b; clear k_b
 clear l_0 l_f0
 obtain ⟨l_0, l_f0⟩ := k_l.f1
 have HL := zh k_l; clear k_l
 clear o_0 o_f0
 obtain ⟨o_0, o_f0⟩ := k_o.f1
 have HO := zh k_o; clear k_o
 clear h_0 h_f0
 obtain ⟨h_0, h_f0⟩ := k_h.f1
 have HH := zh k_h; clear k_h
 have HBL := zh tl; clear tl
 clear hq
 go_wp2_with fail
 refine bodyPost_ret (results_none Try.results32 _ _ _) rfl ?_
 refine ⟨⟨_, rfl⟩, _, Only.ofBelow _ HBL.out, HO.out, ?_, Or.inl rfl⟩
 rw [List.append_nil]
 exact own_below HOW0.out HBL.out
set_option maxRecDepth 100000 in
set_option maxHeartbeats 6400000 in
theorem halve_one (rows : List (List Int)) (K M : Nat) (va : Option Addr) (n vc : Nat) (bl bo bh base : Nat) (w0 : World) (ht : Tab w0 (.slice va n vc) rows) (hlr : rows.length ≤ 1000) (hs : ∀ p ∈ rows, p.length ≤ 65 ∧ ∀ x ∈ p, zs M x) (hM : M ≤ 1000000000) (hK : K ≤ 1000000000)
  (hd1 : w0.heap.size ≤ bl) (hd2 : bl < bo) (hd3 : bo < bh) (hd4 : bh < base) (lo hi : Rat) (hlo : rs K lo) (hhi : rs K hi) (hcv : (chg rows lo : Int) - (chg rows hi : Int) = 1)
  (w : World) (vo : Value) (acc : List Ivl) (hlen : (acc ++ ([(lo, hi)])).length ≤ 1000) (hbl : Blk w bl 43 [.slice va n vc]) (hbo : Blk w bo 48 [vo]) (hbh : Blk w bh 70 [.func (.func 32) #[] #[.pointer (some ⟨bl, 0, none⟩), .pointer (some ⟨bo, 0, none⟩), .pointer (some ⟨bh, 0, none⟩)]]) (how : w.ownsRow base 54 8 vo acc.length (cis acc)) (hbw : Below w0.heap.size w0 w) (hbs : base ≤ w.heap.size) :
  Calls Try.prog 32 #[RatV lo, RatV hi, .pointer (some ⟨bl, 0, none⟩), .pointer (some ⟨bo, 0, none⟩), .pointer (some ⟨bh, 0, none⟩)] w (HalveRet bo base vo acc ([(lo, hi)]) w) := by
 show Calls Try.prog 32 #[.agg #[.bool (ineg lo.num), .string (imag lo.num), .bool (ineg (lo.den : Int)), .string (imag (lo.den : Int))], .agg #[.bool (ineg hi.num), .string (imag hi.num), .bool (ineg (hi.den : Int)), .string (imag (hi.den : Int))], .pointer (some ⟨bl, 0, none⟩), .pointer (some ⟨bo, 0, none⟩), .pointer (some ⟨bh, 0, none⟩)] w _
 have hsl := hlo
 have hsh := hhi
 have hct : ∀ w', Tab w' (.slice va n vc) rows → Calls Try.prog 28 #[.slice va n vc, .agg #[.bool (ineg lo.num), .string (imag lo.num), .bool (ineg (lo.den : Int)), .string (imag (lo.den : Int))], .agg #[.bool (ineg hi.num), .string (imag hi.num), .bool (ineg (hi.den : Int)), .string (imag (hi.den : Int))]] w' (Ret w' (.int .i64 ((chg rows lo : Int) - (chg rows hi : Int)))) := fun w' h => by
  have h2 := scount_any rows (.slice va n vc) (ineg lo.num) (ineg (lo.den : Int)) (imag lo.num) (imag (lo.den : Int)) (ineg hi.num) (ineg (hi.den : Int)) (imag hi.num) (imag (hi.den : Int)) w' M h hlr hs hM (Nat.le_trans hsl.1.size hK) (Nat.le_trans hsl.2.size hK) (Nat.le_trans hsh.1.size hK) (Nat.le_trans hsh.2.size hK)
  simp only [ival_canon, Rat.num_divInt_den] at h2
  exact h2
 obtain ⟨c, hc⟩ : ∃ c, c = (chg rows lo : Int) - (chg rows hi : Int) := ⟨_, rfl⟩
 rw [← hc] at hct hcv
 clear hsl hsh
 have hc0 : ((c : Int) == 0) = false := by rw [hcv]; rfl
 have hc1 : ((c : Int) == 1) = true := by rw [hcv]; rfl
 clear hc hcv
 obtain ⟨i0, hif, hz0, hz1', hz2'⟩ := info_parts infoIv
 have hlen2 : acc.length ≤ 1000 := by rw [List.length_append] at hlen; omega
 have hbl0 := hbl
 have hbo0 := hbo
 have hbh0 := hbh
 have how0 := how
 have hbw0 := hbw
 clear hbl hbo hbh how hbw
 obtain ⟨w4, hw4⟩ : ∃ w4, w4 = (w.alloc (.cells #[.bool (ineg lo.num), .string (imag lo.num), .bool (ineg (lo.den : Int)), .string (imag (lo.den : Int))] 35)).alloc (.cells #[.bool (ineg hi.num), .string (imag hi.num), .bool (ineg (hi.den : Int)), .string (imag (hi.den : Int))] 35) := ⟨_, rfl⟩
 have k_a : Blk w4 (w.heap.size) 35 [.bool (ineg lo.num), .string (imag lo.num), .bool (ineg (lo.den : Int)), .string (imag (lo.den : Int))] := by
  rw [hw4]
  have h := ((Blk.new (w) 35 [.bool (ineg lo.num), .string (imag lo.num), .bool (ineg (lo.den : Int)), .string (imag (lo.den : Int))]).alloc (.cells #[.bool (ineg hi.num), .string (imag hi.num), .bool (ineg (hi.den : Int)), .string (imag (hi.den : Int))] 35))
  (try simp only [World.size_alloc, Nat.add_assoc, Nat.reduceAdd] at h)
  exact h
 have k_b : Blk w4 (w.heap.size + 1) 35 [.bool (ineg hi.num), .string (imag hi.num), .bool (ineg (hi.den : Int)), .string (imag (hi.den : Int))] := by
  rw [hw4]
  have h := (Blk.new (w.alloc (.cells #[.bool (ineg lo.num), .string (imag lo.num), .bool (ineg (lo.den : Int)), .string (imag (lo.den : Int))] 35)) 35 [.bool (ineg hi.num), .string (imag hi.num), .bool (ineg (hi.den : Int)), .string (imag (hi.den : Int))])
  (try simp only [World.size_alloc, Nat.add_assoc, Nat.reduceAdd] at h)
  exact h
 have tl : Below w.heap.size w w4 := by
  rw [hw4]
  exact (((Below.refl w.heap.size w).alloc (by simp <;> omega) (.cells #[.bool (ineg lo.num), .string (imag lo.num), .bool (ineg (lo.den : Int)), .string (imag (lo.den : Int))] 35)).alloc (by simp <;> omega) (.cells #[.bool (ineg hi.num), .string (imag hi.num), .bool (ineg (hi.den : Int)), .string (imag (hi.den : Int))] 35))
 have hs4 : w4.heap.size = w.heap.size + 2 := by rw [hw4]; simp only [World.size_alloc]
 obtain ⟨a_0, a_f0, a_1, a_f1, a_2, a_f2, a_3, a_f3⟩ := k_a.f4
 have HA := zh k_a; clear k_a
 obtain ⟨b_0, b_f0, b_1, b_f1, b_2, b_f2, b_3, b_f3⟩ := k_b.f4
 have HB := zh k_b; clear k_b
 have HBL := zh tl; clear tl
 have k_l := hbl0.keep HBL.out
 obtain ⟨l_0, l_f0⟩ := k_l.f1
 have HL := zh k_l; clear k_l
 have k_o := hbo0.keep HBL.out
 obtain ⟨o_0, o_f0⟩ := k_o.f1
 have HO := zh k_o; clear k_o
 have k_h := hbh0.keep HBL.out
 obtain ⟨h_0, h_f0⟩ := k_h.f1
 have HH := zh k_h; clear k_h
 have ht4 := (ht.below (hbw0.trans (HBL.out.mono hbw0.size)) (Nat.le_refl _))
 have hct4 := hct _ ht4
 have HCT := zh hct4; clear hct4
 have how4 := own_below how0 HBL.out
 obtain ⟨ao, co, rfl⟩ := own_slice how0
 have HOW := zh how4; clear how4
 have HOW0 := zh how0; clear how0
 have HBW0 := zh hbw0; clear hbw0
 clear ht4 hct hbl0 hbo0 hbh0
 go_enter Try.func32, Try.ntmps32
 go_upto_region 1 with fail
 (try rw [← hw4])
 clear hw4
 (try simp only [Nat.add_assoc, Nat.reduceAdd])
 go_wp2_with fail
 refine (HCT.out).mono ?_
 rintro e w5 ⟨hq, rfl⟩
 dsimp only
 have k_a := HA.out.keep hq
 have k_b := HB.out.keep hq
 have k_l := HL.out.keep hq
 have k_o := HO.out.keep hq
 have k_h := HH.out.keep hq
 have tl := HBL.out.trans ((hq).mono HBL.out.size)
 clear HBL HA HB HL HO HH
 clear a_0 a_f0 a_1 a_f1 a_2 a_f2 a_3 a_f3
 obtain ⟨a_0, a_f0, a_1, a_f1, a_2, a_f2, a_3, a_f3⟩ := k_a.f4
 have HA := zh k_a; clear k_a
 clear b_0 b_f0 b_1 b_f1 b_2 b_f2 b_3 b_f3
 obtain ⟨b_0, b_f0, b_1, b_f1, b_2, b_f2, b_3, b_f3⟩ := k_b.f4
 have HB := zh k_b; clear k_b
 clear l_0 l_f0
 obtain ⟨l_0, l_f0⟩ := k_l.f1
 have HL := zh k_l; clear k_l
 clear o_0 o_f0
 obtain ⟨o_0, o_f0⟩ := k_o.f1
 have HO := zh k_o; clear k_o
 clear h_0 h_f0
 obtain ⟨h_0, h_f0⟩ := k_h.f1
 have HH := zh k_h; clear k_h
 have HBL := zh tl; clear tl
 clear hq
 have how5 := own_below HOW0.out HBL.out
 have hlt5 := HOW0.out.lt
 have HOW5 := zh how5; clear how5
 have hsz5 : base ≤ w5.heap.size := Nat.le_trans hbs HBL.out.size
 have hnew : (w5.alloc (.cells #[.bool (ineg lo.num), .string (imag lo.num), .bool (ineg (lo.den : Int)), .string (imag (lo.den : Int)), .bool (ineg hi.num), .string (imag hi.num), .bool (ineg (hi.den : Int)), .string (imag (hi.den : Int))] 54)).heap[w5.heap.size]? = some (.cells #[.bool (ineg lo.num), .string (imag lo.num), .bool (ineg (lo.den : Int)), .string (imag (lo.den : Int)), .bool (ineg hi.num), .string (imag hi.num), .bool (ineg (hi.den : Int)), .string (imag (hi.den : Int))] 54) := heap_alloc_new _ _
 have hne : (Value.slice ao acc.length co).ownBlock ≠ some bo := fun e => by have := (hlt5 _ e).1; omega
 go_wp2_with (at_builtin; refine wpList_append_lies _ rfl (.tmp 16) (.tmp 20) 48 rfl base 54 i0 _ 8 96 Try.underlying48 hif hz0 hz1' hz2' rfl (by decide) _ _ _ rfl (HOW5.out.alloc _) _ 1 1 [.bool (ineg lo.num), .string (imag lo.num), .bool (ineg (lo.den : Int)), .string (imag (lo.den : Int)), .bool (ineg hi.num), .string (imag hi.num), .bool (ineg (hi.den : Int)), .string (imag (hi.den : Int))] rfl rfl (World.news_of_block hnew) (by simp [Value.oneCell']) (by omega) (by unfold maxLen; omega) (by omega) (by rw [World.size_alloc]; omega) _ rfl ?_; intro g cap' w6 hown' hg hat hlt'; have i6 := (HO.out.alloc (.cells #[.bool (ineg lo.num), .string (imag lo.num), .bool (ineg (lo.den : Int)), .string (imag (lo.den : Int)), .bool (ineg hi.num), .string (imag hi.num), .bool (ineg (hi.den : Int)), .string (imag (hi.den : Int))] 54)).grown hg hne; have o_0 := i6.c 0 rfl; have o_f0 := i6.frozen 0; have I6 := zh i6; clear i6; have HG6 := zh hg; clear hg; have HO6 := zh hown'; clear hown'; have HAT := zh hat; clear hat)
 refine bodyPost_ret (results_none Try.results32 _ _ _) rfl ?_
 have p1 : Only (fun k _ => k = bo ∨ (Value.slice ao acc.length co).ownBlock = some k) w (w5.alloc (.cells #[.bool (ineg lo.num), .string (imag lo.num), .bool (ineg (lo.den : Int)), .string (imag (lo.den : Int)), .bool (ineg hi.num), .string (imag hi.num), .bool (ineg (hi.den : Int)), .string (imag (hi.den : Int))] 54)) := (Only.ofBelow _ HBL.out).trans (Only.alloc _ _ _)
 have p2 : Only (fun k _ => k = bo ∨ (Value.slice ao acc.length co).ownBlock = some k) (w5.alloc (.cells #[.bool (ineg lo.num), .string (imag lo.num), .bool (ineg (lo.den : Int)), .string (imag (lo.den : Int)), .bool (ineg hi.num), .string (imag hi.num), .bool (ineg (hi.den : Int)), .string (imag (hi.den : Int))] 54)) w6 := ⟨HG6.out.os, HG6.out.tape, HG6.out.output, HG6.out.size, fun b o hb hn => (HG6.out.block b (Array.getElem?_eq_some_iff.1 hb).1 (fun e => hn (Or.inr e.symm))).trans hb⟩
 have p3 : Only (fun k _ => k = bo ∨ (Value.slice ao acc.length co).ownBlock = some k) w6 (w6.setCell ⟨bo, 0, none⟩ (.slice (some ⟨g, 0, none⟩) (acc.length + 1) cap')) := Only.setCell _ (fun o _ => Or.inl rfl)
 have hsz6 := HBL.out.size
 refine ⟨⟨_, rfl⟩, _, (p1.trans p2).trans p3, I6.out.set 0 _, ?_, ?_⟩
 ·
  rw [cis_snoc, List.length_append]
  refine ownsRow_setCell_other HO6.out ?_ _
  intro e
  have e2 : some g = some bo := e
  rcases HAT.out with h | h
  ·
   exact hne (h.trans e2)
  ·
   injection e2 with e3; rw [World.size_alloc] at h; omega
 ·
  rcases HAT.out with h | h
  ·
   exact Or.inl h.symm
  ·
   refine Or.inr ⟨g, rfl, ?_⟩; rw [h, World.size_alloc]; omega
set_option maxRecDepth 100000 in
set_option maxHeartbeats 6400000 in
theorem halve_more (rows : List (List Int)) (K M : Nat) (va : Option Addr) (n vc : Nat) (bl bo bh base : Nat) (w0 : World) (ht : Tab w0 (.slice va n vc) rows) (hlr : rows.length ≤ 1000) (hs : ∀ p ∈ rows, p.length ≤ 65 ∧ ∀ x ∈ p, zs M x) (hM : M ≤ 1000000000) (hK : K ≤ 1000000000)
  (hd1 : w0.heap.size ≤ bl) (hd2 : bl < bo) (hd3 : bo < bh) (hd4 : bh < base) (lo hi : Rat) (hlo : rs K lo) (hhi : rs K hi) (A B : List Ivl) (hcv : (chg rows lo : Int) - (chg rows hi : Int) ≠ 0) (hcv1 : (chg rows lo : Int) - (chg rows hi : Int) ≠ 1) (ihA : ∀ (w : World) (vo : Value) (acc : List Ivl) (hlen : (acc ++ (A)).length ≤ 1000) (hbl : Blk w bl 43 [.slice va n vc]) (hbo : Blk w bo 48 [vo]) (hbh : Blk w bh 70 [.func (.func 32) #[] #[.pointer (some ⟨bl, 0, none⟩), .pointer (some ⟨bo, 0, none⟩), .pointer (some ⟨bh, 0, none⟩)]]) (how : w.ownsRow base 54 8 vo acc.length (cis acc)) (hbw : Below w0.heap.size w0 w) (hbs : base ≤ w.heap.size), Calls Try.prog 32 #[RatV lo, RatV ((lo + hi) / 2), .pointer (some ⟨bl, 0, none⟩), .pointer (some ⟨bo, 0, none⟩), .pointer (some ⟨bh, 0, none⟩)] w (HalveRet bo base vo acc A w)) (ihB : ∀ (w : World) (vo : Value) (acc : List Ivl) (hlen : (acc ++ (B)).length ≤ 1000) (hbl : Blk w bl 43 [.slice va n vc]) (hbo : Blk w bo 48 [vo]) (hbh : Blk w bh 70 [.func (.func 32) #[] #[.pointer (some ⟨bl, 0, none⟩), .pointer (some ⟨bo, 0, none⟩), .pointer (some ⟨bh, 0, none⟩)]]) (how : w.ownsRow base 54 8 vo acc.length (cis acc)) (hbw : Below w0.heap.size w0 w) (hbs : base ≤ w.heap.size), Calls Try.prog 32 #[RatV ((lo + hi) / 2), RatV hi, .pointer (some ⟨bl, 0, none⟩), .pointer (some ⟨bo, 0, none⟩), .pointer (some ⟨bh, 0, none⟩)] w (HalveRet bo base vo acc B w))
  (w : World) (vo : Value) (acc : List Ivl) (hlen : (acc ++ (A ++ B)).length ≤ 1000) (hbl : Blk w bl 43 [.slice va n vc]) (hbo : Blk w bo 48 [vo]) (hbh : Blk w bh 70 [.func (.func 32) #[] #[.pointer (some ⟨bl, 0, none⟩), .pointer (some ⟨bo, 0, none⟩), .pointer (some ⟨bh, 0, none⟩)]]) (how : w.ownsRow base 54 8 vo acc.length (cis acc)) (hbw : Below w0.heap.size w0 w) (hbs : base ≤ w.heap.size) :
  Calls Try.prog 32 #[RatV lo, RatV hi, .pointer (some ⟨bl, 0, none⟩), .pointer (some ⟨bo, 0, none⟩), .pointer (some ⟨bh, 0, none⟩)] w (HalveRet bo base vo acc (A ++ B) w) := by
 show Calls Try.prog 32 #[.agg #[.bool (ineg lo.num), .string (imag lo.num), .bool (ineg (lo.den : Int)), .string (imag (lo.den : Int))], .agg #[.bool (ineg hi.num), .string (imag hi.num), .bool (ineg (hi.den : Int)), .string (imag (hi.den : Int))], .pointer (some ⟨bl, 0, none⟩), .pointer (some ⟨bo, 0, none⟩), .pointer (some ⟨bh, 0, none⟩)] w _
 have hsl := hlo
 have hsh := hhi
 have hct : ∀ w', Tab w' (.slice va n vc) rows → Calls Try.prog 28 #[.slice va n vc, .agg #[.bool (ineg lo.num), .string (imag lo.num), .bool (ineg (lo.den : Int)), .string (imag (lo.den : Int))], .agg #[.bool (ineg hi.num), .string (imag hi.num), .bool (ineg (hi.den : Int)), .string (imag (hi.den : Int))]] w' (Ret w' (.int .i64 ((chg rows lo : Int) - (chg rows hi : Int)))) := fun w' h => by
  have h2 := scount_any rows (.slice va n vc) (ineg lo.num) (ineg (lo.den : Int)) (imag lo.num) (imag (lo.den : Int)) (ineg hi.num) (ineg (hi.den : Int)) (imag hi.num) (imag (hi.den : Int)) w' M h hlr hs hM (Nat.le_trans hsl.1.size hK) (Nat.le_trans hsl.2.size hK) (Nat.le_trans hsh.1.size hK) (Nat.le_trans hsh.2.size hK)
  simp only [ival_canon, Rat.num_divInt_den] at h2
  exact h2
 obtain ⟨c, hc⟩ : ∃ c, c = (chg rows lo : Int) - (chg rows hi : Int) := ⟨_, rfl⟩
 rw [← hc] at hct
 clear hsl hsh
 have hc0 : ((c : Int) == 0) = false := by rw [hc]; simpa using hcv
 have hc1 : ((c : Int) == 1) = false := by rw [hc]; simpa using hcv1
 clear hc hcv hcv1
 have hmd := fun w' => smiddle_any (ineg lo.num) (ineg (lo.den : Int)) (imag lo.num) (imag (lo.den : Int)) (ineg hi.num) (ineg (hi.den : Int)) (imag hi.num) (imag (hi.den : Int)) w' (by have := hlo.1.size; omega) (by have := hlo.2.size; omega) (by have := hhi.1.size; omega) (by have := hhi.2.size; omega)
 simp only [ival_canon, Rat.num_divInt_den] at hmd
 obtain ⟨q, hq'⟩ : ∃ q, q = (lo + hi) / 2 := ⟨_, rfl⟩
 rw [← hq'] at hmd ihA ihB
 clear hq'
 have HMD := zh hmd; clear hmd
 have hent : ∀ args w, (callFunc 32 args).run Try.prog w = .ok (.enter 32 args) w := fun args w => enters_of Try.func32 (by kernel_rfl) rfl args w
 have hlA : (acc ++ A).length ≤ 1000 := by rw [← List.append_assoc, List.length_append] at hlen; omega
 have hbl0 := hbl
 have hbo0 := hbo
 have hbh0 := hbh
 have how0 := how
 have hbw0 := hbw
 clear hbl hbo hbh how hbw
 obtain ⟨w4, hw4⟩ : ∃ w4, w4 = (w.alloc (.cells #[.bool (ineg lo.num), .string (imag lo.num), .bool (ineg (lo.den : Int)), .string (imag (lo.den : Int))] 35)).alloc (.cells #[.bool (ineg hi.num), .string (imag hi.num), .bool (ineg (hi.den : Int)), .string (imag (hi.den : Int))] 35) := ⟨_, rfl⟩
 have k_a : Blk w4 (w.heap.size) 35 [.bool (ineg lo.num), .string (imag lo.num), .bool (ineg (lo.den : Int)), .string (imag (lo.den : Int))] := by
  rw [hw4]
  have h := ((Blk.new (w) 35 [.bool (ineg lo.num), .string (imag lo.num), .bool (ineg (lo.den : Int)), .string (imag (lo.den : Int))]).alloc (.cells #[.bool (ineg hi.num), .string (imag hi.num), .bool (ineg (hi.den : Int)), .string (imag (hi.den : Int))] 35))
  (try simp only [World.size_alloc, Nat.add_assoc, Nat.reduceAdd] at h)
  exact h
 have k_b : Blk w4 (w.heap.size + 1) 35 [.bool (ineg hi.num), .string (imag hi.num), .bool (ineg (hi.den : Int)), .string (imag (hi.den : Int))] := by
  rw [hw4]
  have h := (Blk.new (w.alloc (.cells #[.bool (ineg lo.num), .string (imag lo.num), .bool (ineg (lo.den : Int)), .string (imag (lo.den : Int))] 35)) 35 [.bool (ineg hi.num), .string (imag hi.num), .bool (ineg (hi.den : Int)), .string (imag (hi.den : Int))])
  (try simp only [World.size_alloc, Nat.add_assoc, Nat.reduceAdd] at h)
  exact h
 have tl : Below w.heap.size w w4 := by
  rw [hw4]
  exact (((Below.refl w.heap.size w).alloc (by simp <;> omega) (.cells #[.bool (ineg lo.num), .string (imag lo.num), .bool (ineg (lo.den : Int)), .string (imag (lo.den : Int))] 35)).alloc (by simp <;> omega) (.cells #[.bool (ineg hi.num), .string (imag hi.num), .bool (ineg (hi.den : Int)), .string (imag (hi.den : Int))] 35))
 have hs4 : w4.heap.size = w.heap.size + 2 := by rw [hw4]; simp only [World.size_alloc]
 obtain ⟨a_0, a_f0, a_1, a_f1, a_2, a_f2, a_3, a_f3⟩ := k_a.f4
 have HA := zh k_a; clear k_a
 obtain ⟨b_0, b_f0, b_1, b_f1, b_2, b_f2, b_3, b_f3⟩ := k_b.f4
 have HB := zh k_b; clear k_b
 have HBL := zh tl; clear tl
 have k_l := hbl0.keep HBL.out
 obtain ⟨l_0, l_f0⟩ := k_l.f1
 have HL := zh k_l; clear k_l
 have k_o := hbo0.keep HBL.out
 obtain ⟨o_0, o_f0⟩ := k_o.f1
 have HO := zh k_o; clear k_o
 have k_h := hbh0.keep HBL.out
 obtain ⟨h_0, h_f0⟩ := k_h.f1
 have HH := zh k_h; clear k_h
 have ht4 := (ht.below (hbw0.trans (HBL.out.mono hbw0.size)) (Nat.le_refl _))
 have hct4 := hct _ ht4
 have HCT := zh hct4; clear hct4
 have how4 := own_below how0 HBL.out
 obtain ⟨ao, co, rfl⟩ := own_slice how0
 have HOW := zh how4; clear how4
 have HOW0 := zh how0; clear how0
 have HBW0 := zh hbw0; clear hbw0
 clear ht4 hct hbl0 hbo0 hbh0
 go_enter Try.func32, Try.ntmps32
 go_upto_region 1 with fail
 (try rw [← hw4])
 clear hw4
 (try simp only [Nat.add_assoc, Nat.reduceAdd])
 go_wp2_with fail
 refine (HCT.out).mono ?_
 rintro e w5 ⟨hq, rfl⟩
 dsimp only
 have k_a := HA.out.keep hq
 have k_b := HB.out.keep hq
 have k_l := HL.out.keep hq
 have k_o := HO.out.keep hq
 have k_h := HH.out.keep hq
 have tl := HBL.out.trans ((hq).mono HBL.out.size)
 clear HBL HA HB HL HO HH
 clear a_0 a_f0 a_1 a_f1 a_2 a_f2 a_3 a_f3
 obtain ⟨a_0, a_f0, a_1, a_f1, a_2, a_f2, a_3, a_f3⟩ := k_a.f4
 have HA := zh k_a; clear k_a
 clear b_0 b_f0 b_1 b_f1 b_2 b_f2 b_3 b_f3
 obtain ⟨b_0, b_f0, b_1, b_f1, b_2, b_f2, b_3, b_f3⟩ := k_b.f4
 have HB := zh k_b; clear k_b
 clear l_0 l_f0
 obtain ⟨l_0, l_f0⟩ := k_l.f1
 have HL := zh k_l; clear k_l
 clear o_0 o_f0
 obtain ⟨o_0, o_f0⟩ := k_o.f1
 have HO := zh k_o; clear k_o
 clear h_0 h_f0
 obtain ⟨h_0, h_f0⟩ := k_h.f1
 have HH := zh k_h; clear k_h
 have HBL := zh tl; clear tl
 clear hq
 go_wp2_with fail
 refine (HMD.out _).mono ?_
 rintro e w6 ⟨hq, rfl⟩
 dsimp only
 have k_a := HA.out.keep hq
 have k_b := HB.out.keep hq
 have k_l := HL.out.keep hq
 have k_o := HO.out.keep hq
 have k_h := HH.out.keep hq
 have tl := HBL.out.trans ((hq).mono HBL.out.size)
 clear HBL HA HB HL HO HH
 clear a_0 a_f0 a_1 a_f1 a_2 a_f2 a_3 a_f3
 obtain ⟨a_0, a_f0, a_1, a_f1, a_2, a_f2, a_3, a_f3⟩ := k_a.f4
 have HA := zh k_a; clear k_a
 clear b_0 b_f0 b_1 b_f1 b_2 b_f2 b_3 b_f3
 obtain ⟨b_0, b_f0, b_1, b_f1, b_2, b_f2, b_3, b_f3⟩ := k_b.f4
 have HB := zh k_b; clear k_b
 clear l_0 l_f0
 obtain ⟨l_0, l_f0⟩ := k_l.f1
 have HL := zh k_l; clear k_l
 clear o_0 o_f0
 obtain ⟨o_0, o_f0⟩ := k_o.f1
 have HO := zh k_o; clear k_o
 clear h_0 h_f0
 obtain ⟨h_0, h_f0⟩ := k_h.f1
 have HH := zh k_h; clear k_h
 have HBL := zh tl; clear tl
 clear hq
 have hlt_a := HA.out.lt
 have hlt_b := HB.out.lt
 obtain ⟨b_m, hb_m⟩ : ∃ b, b = w6.heap.size := ⟨_, rfl⟩
 have hal : Below w6.heap.size w6 (w6.alloc (.cells #[.bool (ineg q.num), .string (imag q.num), .bool (ineg (q.den : Int)), .string (imag (q.den : Int))] 35)) := (Below.refl _ _).alloc (Nat.le_refl _) _
 have k_m : Blk (w6.alloc (.cells #[.bool (ineg q.num), .string (imag q.num), .bool (ineg (q.den : Int)), .string (imag (q.den : Int))] 35)) b_m 35 [.bool (ineg q.num), .string (imag q.num), .bool (ineg (q.den : Int)), .string (imag (q.den : Int))] := by rw [hb_m]; exact Blk.new w6 _ _
 have hge_m : w.heap.size ≤ b_m := by rw [hb_m]; exact HBL.out.size
 have far_a_m : w.heap.size < b_m := by rw [hb_m]; exact hlt_a
 clear hlt_a
 have far_b_m : w.heap.size + 1 < b_m := by rw [hb_m]; exact hlt_b
 clear hlt_b
 have k_a := HA.out.keep hal
 have k_b := HB.out.keep hal
 have k_l := HL.out.keep hal
 have k_o := HO.out.keep hal
 have k_h := HH.out.keep hal
 have tl := HBL.out.trans ((hal).mono HBL.out.size)
 clear HBL HA HB HL HO HH
 clear a_0 a_f0 a_1 a_f1 a_2 a_f2 a_3 a_f3
 obtain ⟨a_0, a_f0, a_1, a_f1, a_2, a_f2, a_3, a_f3⟩ := k_a.f4
 have HA := zh k_a; clear k_a
 clear b_0 b_f0 b_1 b_f1 b_2 b_f2 b_3 b_f3
 obtain ⟨b_0, b_f0, b_1, b_f1, b_2, b_f2, b_3, b_f3⟩ := k_b.f4
 have HB := zh k_b; clear k_b
 clear l_0 l_f0
 obtain ⟨l_0, l_f0⟩ := k_l.f1
 have HL := zh k_l; clear k_l
 clear o_0 o_f0
 obtain ⟨o_0, o_f0⟩ := k_o.f1
 have HO := zh k_o; clear k_o
 clear h_0 h_f0
 obtain ⟨h_0, h_f0⟩ := k_h.f1
 have HH := zh k_h; clear k_h
 have HBL := zh tl; clear tl
 clear hal
 obtain ⟨m_0, m_f0, m_1, m_f1, m_2, m_f2, m_3, m_f3⟩ := k_m.f4
 have HM := zh k_m; clear k_m
 have how7 := own_below HOW0.out HBL.out
 have hbs7 : base ≤ (w6.alloc (.cells #[.bool (ineg q.num), .string (imag q.num), .bool (ineg (q.den : Int)), .string (imag (q.den : Int))] 35)).heap.size := Nat.le_trans hbs HBL.out.size
 have hbw7 := HBW0.out.trans (HBL.out.mono HBW0.out.size)
 have hlt0 := HOW0.out.lt
 have hi1 := ihA (w6.alloc (.cells #[.bool (ineg q.num), .string (imag q.num), .bool (ineg (q.den : Int)), .string (imag (q.den : Int))] 35)) _ acc hlA HL.out HO.out HH.out how7 hbw7 hbs7
 have HI1 := zh hi1; clear hi1
 have HOW7 := zh how7; clear how7
 have HBW7 := zh hbw7; clear hbw7
 have HLT0 := zh hlt0; clear hlt0
 go_wp2_with fail
 (try rw [← hb_m])
 have HB_m := zh hb_m; clear hb_m
 refine (HI1.out).mono ?_
 rintro e w8 ⟨⟨v8, rfl⟩, vo1, ho1, hbo1, hown1, hat1⟩
 dsimp only
 have hnb : ∀ b, b ≠ bo → (b < base ∨ w.heap.size ≤ b) → ∀ o : Obj, ¬ (b = bo ∨ (Value.slice ao acc.length co).ownBlock = some b) := by
  rintro b h1 h2 o (h | h)
  ·
   exact h1 h
  ·
   have := HLT0.out b h; omega
 have p7 : Only (fun k _ => k = bo ∨ (Value.slice ao acc.length co).ownBlock = some k) w (w6.alloc (.cells #[.bool (ineg q.num), .string (imag q.num), .bool (ineg (q.den : Int)), .string (imag (q.den : Int))] 35)) := Only.ofBelow _ HBL.out
 have q8 := p7.trans ho1
 have hszw := HBW0.out.size
 have hszA := HBL.out.size
 have k_a := ho1.blk HA.out (hnb _ (by omega) (Or.inr (by omega)))
 have k_b := ho1.blk HB.out (hnb _ (by omega) (Or.inr (by omega)))
 have k_l := ho1.blk HL.out (hnb _ (by omega) (Or.inl (by omega)))
 have k_h := ho1.blk HH.out (hnb _ (by omega) (Or.inl (by omega)))
 have k_m := ho1.blk HM.out (hnb _ (by omega) (Or.inr (by omega)))
 have hbw8 := ho1.below HBW7.out (by omega) (fun k o hk h => hnb k (by omega) (Or.inl (by omega)) o h)
 have hbs8 : base ≤ w8.heap.size := Nat.le_trans hbs q8.size
 clear HBL HA HB HL HO HH HM HI1 HOW HOW7 HBW7 hnb a_0 a_f0 a_1 a_f1 a_2 a_f2 a_3 a_f3 b_0 b_f0 b_1 b_f1 b_2 b_f2 b_3 b_f3 m_0 m_f0 m_1 m_f1 m_2 m_f2 m_3 m_f3 l_0 l_f0 o_0 o_f0 h_0 h_f0
 obtain ⟨a_0, a_f0, a_1, a_f1, a_2, a_f2, a_3, a_f3⟩ := k_a.f4
 obtain ⟨b_0, b_f0, b_1, b_f1, b_2, b_f2, b_3, b_f3⟩ := k_b.f4
 obtain ⟨l_0, l_f0⟩ := k_l.f1
 obtain ⟨h_0, h_f0⟩ := k_h.f1
 obtain ⟨m_0, m_f0, m_1, m_f1, m_2, m_f2, m_3, m_f3⟩ := k_m.f4
 have hi2 := ihB w8 vo1 (acc ++ A) (by rw [List.append_assoc]; exact hlen) k_l hbo1 k_h hown1 hbw8 hbs8
 have HI2 := zh hi2; clear hi2
 have HBO1 := zh hbo1; clear hbo1
 have HOWN1 := zh hown1; clear hown1
 have Q8 := zh q8; clear q8
 have HAT1 := zh hat1; clear hat1
 have HO1 := zh ho1; clear ho1
 have P7 := zh p7; clear p7
 have HBW8 := zh hbw8; clear hbw8
 clear k_a k_b k_l k_h k_m
 go_wp2_with fail
 refine (HI2.out).mono ?_
 rintro e w9 ⟨⟨v9, rfl⟩, vo2, ho2, hbo2, hown2, hat2⟩
 dsimp only
 have HO2 := zh ho2; clear ho2
 have HBO2 := zh hbo2; clear hbo2
 have HOWN2 := zh hown2; clear hown2
 have HAT2 := zh hat2; clear hat2
 go_wp2_with fail
 refine bodyPost_end (results_none Try.results32 _ _ _) rfl ?_
 refine ⟨⟨_, rfl⟩, vo2, Q8.out.trans' HO2.out (fun b o hb h => ?_), HBO2.out, by rw [← List.append_assoc]; exact HOWN2.out, ?_⟩
 ·
  rcases h with h | h
  ·
   exact Or.inl h
  ·
   rcases HAT1.out with h1 | ⟨g, h1, h2⟩
   ·
    exact Or.inr (h1.symm.trans h)
   ·
    rw [h1] at h; injection h with h; omega
 ·
  rcases HAT2.out with h1 | ⟨g, h1, h2⟩
  ·
   rw [h1]
   rcases HAT1.out with h3 | ⟨g, h3, h4⟩
   ·
    exact Or.inl h3
   ·
    exact Or.inr ⟨g, h3, by omega⟩
  ·
   exact Or.inr ⟨g, h1, Nat.le_trans Q8.out.size h2⟩
theorem halve_any (rows : List (List Int)) (K M : Nat) (va : Option Addr) (n vc : Nat) (bl bo bh base : Nat) (w0 : World) (ht : Tab w0 (.slice va n vc) rows) (hlr : rows.length ≤ 1000) (hs : ∀ p ∈ rows, p.length ≤ 65 ∧ ∀ x ∈ p, zs M x) (hM : M ≤ 1000000000) (hK : K ≤ 1000000000)
  (hd1 : w0.heap.size ≤ bl) (hd2 : bl < bo) (hd3 : bo < bh) (hd4 : bh < base) {lo hi : Rat} {res : List Ivl} (h : Iso rows K lo hi res) :
  ∀ (w : World) (vo : Value) (acc : List Ivl) (hlen : (acc ++ (res)).length ≤ 1000) (hbl : Blk w bl 43 [.slice va n vc]) (hbo : Blk w bo 48 [vo]) (hbh : Blk w bh 70 [.func (.func 32) #[] #[.pointer (some ⟨bl, 0, none⟩), .pointer (some ⟨bo, 0, none⟩), .pointer (some ⟨bh, 0, none⟩)]]) (how : w.ownsRow base 54 8 vo acc.length (cis acc)) (hbw : Below w0.heap.size w0 w) (hbs : base ≤ w.heap.size), Calls Try.prog 32 #[RatV lo, RatV hi, .pointer (some ⟨bl, 0, none⟩), .pointer (some ⟨bo, 0, none⟩), .pointer (some ⟨bh, 0, none⟩)] w (HalveRet bo base vo acc res w) := by
 induction h with
 | none lo hi h1 h2 h3 => intro w vo acc hlen hbl hbo hbh how hbw hbs; exact halve_none rows K M va n vc bl bo bh base w0 ht hlr hs hM hK hd1 hd2 hd3 hd4 lo hi h1 h2 h3 w vo acc hlen hbl hbo hbh how hbw hbs
 | one lo hi h1 h2 h3 => intro w vo acc hlen hbl hbo hbh how hbw hbs; exact halve_one rows K M va n vc bl bo bh base w0 ht hlr hs hM hK hd1 hd2 hd3 hd4 lo hi h1 h2 h3 w vo acc hlen hbl hbo hbh how hbw hbs
 | more lo hi A B h1 h2 h3 h4 _ _ ihA ihB => intro w vo acc hlen hbl hbo hbh how hbw hbs; exact halve_more rows K M va n vc bl bo bh base w0 ht hlr hs hM hK hd1 hd2 hd3 hd4 lo hi h1 h2 A B h3 h4 ihA ihB w vo acc hlen hbl hbo hbh how hbw hbs
end Go.Proofs.Ytjpalbonclgflaa
