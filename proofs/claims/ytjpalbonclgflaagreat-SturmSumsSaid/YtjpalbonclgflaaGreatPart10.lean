/- Contracts and plain laws of several functions, one after the other: EqInt, AppRow, RowI, CanI, EqJ. -/
import Derived.Laws.StructEq
import Derived.Laws.OwnMore
import Derived.Maps.AppendAt
import Derived.Deep.RegionHeld3
import Derived.Deep.AppendLies
import Derived.BigQuiet
import Derived.Test.YtjpalbonclgflaaGreatPart1
import Derived.Test.YtjpalbonclgflaaGreatPart2
import Derived.Test.YtjpalbonclgflaaGreatPart4
/- Equality of two integers as the program compares them. -/
namespace Go.Proofs.YtjpalbonclgflaaGreat
open Go.RowKit

theorem iqType : Tryz.prog.underlying 25 = some (.struct (Tryz.prog.fieldsOf 25)) := by kernel_rfl
theorem iqStood : Tryz.prog.stoodInHeld 25 = false := by kernel_rfl
theorem iqFlds : (Tryz.prog.fieldsOf 25).toList.map (fun f => (f.type, f.offset, f.name == "_")) = [(4, 0, false), (9, 1, false)] := by kernel_rfl
set_option maxRecDepth 100000 in
theorem eqIn_int (a b : Bool) (s t : ByteArray) (w : World) : (Op.equalIn 10000 25 (.agg #[.bool a, .string s]) (.agg #[.bool b, .string t])).run Tryz.prog w = .ok (a == b && s == t) w := by
 have e : ∀ fs, (Tryz.prog.fieldsOf 25).toList = fs → (Op.eqFields 9999 #[.bool a, .string s] #[.bool b, .string t] fs).run Tryz.prog w = .ok (a == b && s == t) w := by
  intro fs hfs
  have hm := iqFlds
  rw [hfs] at hm
  match fs, hm with
  | [f0, f1], hm =>
   simp only [List.map_cons, List.map_nil, List.cons.injEq, Prod.mk.injEq, and_true] at hm
   obtain ⟨⟨t0, o0, n0⟩, ⟨t1, o1, n1⟩⟩ := hm
   rw [beq_eq_false_iff_ne] at n0 n1
   simp [Op.eqFields, n0, n1, t0, o0, t1, o1, Go.part, Tryz.isAgg4, Tryz.isAgg9, run_equalIn_bool', run_equalIn_string, Tryz.underlying4, Tryz.underlying9]
   rw [beq_toListBytes]
   by_cases h1 : a = b <;> by_cases h2 : s.toList = t.toList <;> simp [h1, h2]
 exact (run_equalIn_struct (P := Tryz.prog) w 9999 25 _ _ iqType iqStood).trans (e _ rfl)
end Go.Proofs.YtjpalbonclgflaaGreat

/- append of a whole row (nil or not, empty or not) to a slice of the call's own: at a step of a region that draws its order. -/
namespace Go.Proofs.YtjpalbonclgflaaGreat
open Go.RowKit

theorem run_append_row {P : Program} (w : World) (base : Nat) (t ty e : TypeId) (z : Value) (size bytes : Nat) (ht : P.underlying t = some (.slice e)) (hinfo : (P.info? e).map (fun i => (i.zero, i.size, i.bytes)) = some (some z, size, bytes))
  (hzs : z.cells.size = size) (hsz : 0 < size) (v : Value) (n : Nat) (xs : List Value) (hown : w.ownsRow base e size v n xs)
  (sv : Value) (m : Nat) (news : List Value) (hrow : Row w sv m news) (hl : news.length = m * size) (h1 : ∀ u ∈ news, u.oneCell' = true)
  (h63 : n + m ≤ maxLen) (hbytes : (n + m) * bytes ≤ 140737488355328) (hbase : base ≤ w.heap.size) :
  ∃ v' w', (Builtin.append_ #[t, t] ty #[v, sv]).run P w = .ok v' w' ∧ w'.ownsRow base e size v' (n + m) (xs ++ news) ∧ w.grownBy w' v.ownBlock := by
 obtain ⟨i, hi, hz0, hz1, hz2⟩ := info_parts hinfo
 rcases hrow with ⟨rfl, rfl, rfl⟩ | ⟨b, off, cap, rfl, h2, h3, h4, h5⟩
 ·
  refine ⟨v, w, run_append_owned_none (P := P) (w := w) base t ty e i size ht hi v n xs hown, by simpa using hown, ⟨rfl, rfl, rfl, Nat.le_refl _, fun _ _ _ => rfl⟩⟩
 ·
  obtain ⟨v', w', r1, r2, r3, -⟩ := run_append_own_at (P := P) w base t ty e i z size bytes ht hi hz0 hz1 hz2 hzs hsz v n xs hown ⟨b, off, none⟩ m cap news hl (fun j u hu => by
   have := h5 j u hu
   unfold Addr.add
   split
   ·
    rename_i h0; subst h0; exact this
   ·
    exact this) h1 h63 hbytes hbase
  exact ⟨v', w', r1, r2, r3⟩
theorem step_append_row {P : Program} {w : World} {ops : Array Oper} {o : Oper} {a : Act} {K : Act → World → Prop} {Q : Exit → Act → World → Prop} {E : Prop} (hgd : o.guard = none) (s x : Operand) (t : TypeId)
  (ho : o.op = .call { callee := .builtin .append, args := #[s, x], argTypes := #[t, t] })
  (base : Nat) (e : TypeId) (z : Value) (size bytes : Nat) (ht : P.underlying t = some (.slice e)) (hinfo : (P.info? e).map (fun i => (i.zero, i.size, i.bytes)) = some (some z, size, bytes))
  (hzs : z.cells.size = size) (hsz : 0 < size) (v : Value) (n : Nat) (xs : List Value) (hs : a.eval s = v) (hown : w.ownsRow base e size v n xs)
  (sv : Value) (m : Nat) (news : List Value) (hx : a.eval x = sv) (hrow : Row w sv m news) (hl : news.length = m * size) (h1 : ∀ u ∈ news, u.oneCell' = true)
  (h63 : n + m ≤ maxLen) (hbytes : (n + m) * bytes ≤ 140737488355328) (hbase : base ≤ w.heap.size)
  (h : ∀ v' w', w'.ownsRow base e size v' (n + m) (xs ++ news) → w.grownBy w' v.ownBlock → K (a.put o.dst v') w') :
  if Region.wanted o (yielded ops a.tmps) = true then Oper.wp P o a w K Q else E := by
 have hw : Region.wanted o (yielded ops a.tmps) = true := by simp [Region.wanted, hgd]
 rw [if_pos hw]
 obtain ⟨v', w', hr, h2, h3⟩ := run_append_row (P := P) w base t o.type e z size bytes ht hinfo hzs hsz v n xs hown sv m news hrow hl h1 h63 hbytes hbase
 unfold Oper.wp execOp
 simp only [ho, resolve, invoke, builtin, Sem.run_bind, Sem.run_pure, Result.andThen_ok, List.map_toArray, List.map_cons, List.map_nil, hs, hx, hr]
 exact h v' w' h2 h3
theorem Blk.grown {w w' : World} {b : Nat} {t : TypeId} {xs : List Value} {row : Option Nat} (h : Blk w b t xs) (hg : w.grownBy w' row) (hne : row ≠ some b) : Blk w' b t xs := h.of_block (hg.block b h.lt hne.symm)
theorem Row.le {w : World} {a : Option Addr} {m c : Nat} {xs : List Value} (h : Row w (.slice a m c) m xs) : m ≤ c := by
 rcases h with ⟨hv, hn, -⟩ | ⟨b, off, cap, hv, h1, -⟩
 ·
  omega
 ·
  simp only [Value.slice.injEq] at hv; omega
end Go.Proofs.YtjpalbonclgflaaGreat

/- Rows of integers: made, set, held in tables (the part of ERow that needs no graph). -/
namespace Go.Proofs.YtjpalbonclgflaaGreat
open Go.RowKit

def civ (l : List Int) : List Value := l.flatMap fun z => [.bool (ineg z), .string (imag z)]
theorem civ_length (l : List Int) : (civ l).length = l.length * 2 := by
 induction l with
 | nil => rfl
 | cons e l ih => simp only [civ, List.flatMap_cons, List.length_append, List.length_cons] at ih ⊢; rw [ih]; simp; omega
theorem civ_append (l k : List Int) : civ (l ++ k) = civ l ++ civ k := by simp [civ]
theorem civ_cons (z : Int) (l : List Int) : civ (z :: l) = .bool (ineg z) :: .string (imag z) :: civ l := by simp [civ]
theorem civ_get {l : List Int} {k : Nat} {z : Int} (h : l[k]? = some z) : (civ l)[k * 2]? = some (.bool (ineg z)) ∧ (civ l)[k * 2 + 1]? = some (.string (imag z)) := by
 induction l generalizing k with
 | nil => simp at h
 | cons x l ih =>
  cases k with
  | zero => simp at h; subst h; exact ⟨rfl, rfl⟩
  | succ k =>
   have := ih (k := k) (by simpa using h)
   rw [civ, List.flatMap_cons]
   have e1 : (k + 1) * 2 = k * 2 + 2 := by omega
   rw [e1]
   exact this
theorem civ_set (l : List Int) (k : Nat) (z : Int) : ((civ l).set (k * 2) (.bool (ineg z))).set (k * 2 + 1) (.string (imag z)) = civ (l.set k z) := by
 induction l generalizing k with
 | nil => rfl
 | cons x l ih =>
  cases k with
  | zero => rfl
  | succ k =>
   rw [List.set_cons_succ, civ_cons, civ_cons, show (k + 1) * 2 = k * 2 + 1 + 1 by omega, List.set_cons_succ, List.set_cons_succ, List.set_cons_succ, List.set_cons_succ, ih]
theorem int_cells {w w' : World} {B b off : Nat} {l : List Int} {k : Nat} {z : Int} (hce : ∀ (j : Nat) (u : Value), (civ l)[j]? = some u → w.cell? ⟨b, off + j, none⟩ = some u) (hb : Below B w w') (hlt : b < B) (h : l[k]? = some z) :
  w'.cell? ⟨b, off + k * 2, none⟩ = some (.bool (ineg z)) ∧ w'.cell? ⟨b, off + k * 2 + 1, none⟩ = some (.string (imag z)) :=
 ⟨(hb.cell (p := ⟨b, off + k * 2, none⟩) hlt).trans (hce (k * 2) _ (civ_get h).1), (hb.cell (p := ⟨b, off + k * 2 + 1, none⟩) hlt).trans (hce (k * 2 + 1) _ (civ_get h).2)⟩
def small (z : Int) : Prop := (imag z).size ≤ 1099511627775
theorem infoZ : (Tryz.prog.info? 25).map (fun i => (i.zero, i.size, i.bytes)) = some (some (.agg #[.bool false, .string ⟨#[]⟩]), 2, 24) := by kernel_rfl
theorem ineg_zero : ineg 0 = false := rfl
theorem imag_zero : imag 0 = ⟨#[]⟩ := by simp [imag, bb_zero]
theorem zrow_int (c : Nat) : zrow (.agg #[.bool false, .string ⟨#[]⟩]) c = civ (List.replicate c 0) := by
 induction c with
 | zero => rfl
 | succ c ih =>
  rw [List.replicate_succ, civ_cons, ineg_zero, imag_zero, ← ih]
  simp [zrow, List.replicate_succ, Value.cells]
theorem mkI (n : Nat) (h : n ≤ 1000000) (N : Int) (hN : N = (n : Int)) (w : World) : (Instr.makeSlice 22 (.int .i64 N) (.int .i64 N)).run Tryz.prog w = .ok (.slice (some ⟨w.heap.size, 0, none⟩) n n) (w.alloc (.cells (zarr (.agg #[.bool false, .string ⟨#[]⟩]) n) 25)) :=
 mk_slice 22 25 _ 2 24 Tryz.underlying22 infoZ rfl .i64 .i64 n n (Nat.le_refl _) (by omega) (by omega) N N hN hN w
theorem blk_mkI (w : World) (n : Nat) : Blk (w.alloc (.cells (zarr (.agg #[.bool false, .string ⟨#[]⟩]) n) 25)) w.heap.size 25 (civ (List.replicate n 0)) := by
 have h := Blk.zero w 25 (.agg #[.bool false, .string ⟨#[]⟩]) n
 rwa [zrow_int] at h
theorem blk_row {w : World} {b : Nat} {l : List Int} (h : Blk w b 25 (civ l)) (hl : l.length ≤ 1000000) : Row w (.slice (some ⟨b, 0, none⟩) l.length l.length) l.length (civ l) := by
 have h2 := Row.ofBlk h (m := l.length) (cap := l.length) (Nat.le_refl _) (by unfold maxLen; omega) (civ l).length
 rwa [List.take_length] at h2
def Tab (w : World) (v : Value) (rows : List (List Int)) : Prop :=
 ∃ rvs : List Value, rvs.length = rows.length ∧ Row w v rows.length rvs ∧ ∀ (i : Nat) (r : List Int), rows[i]? = some r → ∃ rv : Value, rvs[i]? = some rv ∧ Row w rv r.length (civ r)
theorem Tab.below {w w' : World} {v : Value} {rows : List (List Int)} {B : Nat} (h : Tab w v rows) (k : Below B w w') (hB : w.heap.size ≤ B) : Tab w' v rows := by
 obtain ⟨rvs, h1, h2, h3⟩ := h
 exact ⟨rvs, h1, h2.below k hB, fun i r hr => by obtain ⟨rv, h4, h5⟩ := h3 i r hr; exact ⟨rv, h4, h5.below k hB⟩⟩
theorem Tab.drew {w : World} {v : Value} {rows : List (List Int)} (h : Tab w v rows) : Tab w.drew v rows := h
theorem civ_snoc (l : List Int) (z : Int) : civ (l ++ [z]) = civ l ++ [.bool (ineg z), .string (imag z)] := by simp [civ]
end Go.Proofs.YtjpalbonclgflaaGreat

/- polynomial.Canonical. -/
namespace Go.Proofs.YtjpalbonclgflaaGreat
open Go.RowKit

def tzI (l : List Int) : List Int := (l.reverse.dropWhile (· == 0)).reverse
theorem tzI_snoc_zero (l : List Int) : tzI (l ++ [0]) = tzI l := by simp [tzI]
theorem tzI_snoc_ne (l : List Int) {x : Int} (h : x ≠ 0) : tzI (l ++ [x]) = l ++ [x] := by simp [tzI, h]
theorem tzI_nil : tzI [] = [] := rfl
theorem eqI_dec (x y : Int) : (ineg x == ineg y && imag x == imag y) = decide (x = y) := by
 have hb : ∀ a b : ByteArray, (a == b) = decide (a = b) := fun a b => by
  rw [beq_toListBytes]
  by_cases h : a = b
  ·
   subst h; simp
  ·
   have h2 : ¬ a.toList = b.toList := fun e => h (str_ext (by rw [← ByteArray.toList_eq, ← ByteArray.toList_eq]; exact e))
   simp [h, h2]
 rw [hb]
 by_cases h : x = y
 ·
  subst h; simp
 ·
  rw [decide_eq_false h]
  by_cases h1 : ineg x = ineg y
  ·
   by_cases h2 : imag x = imag y
   ·
    exact absurd ((ival_canon x).symm.trans (by rw [h1, h2, ival_canon])) h
   ·
    simp [h2]
  ·
   simp [h1]
theorem eqIn_zero (x : Int) (w : World) : (Op.equalIn 10000 25 (.agg #[.bool (ineg x), .string (imag x)]) (.agg #[.bool false, .string ⟨#[]⟩])).run Tryz.prog w = .ok (decide (x = 0)) w := by
 have h := eqIn_int (ineg x) (ineg 0) (imag x) (imag 0) w
 rw [eqI_dec, imag_zero] at h
 exact h
def slLen : Value → Nat
 | .slice _ n _ => n
 | _ => 0
def CanRet (l : List Int) (w : World) (e : Ending) (w' : World) : Prop :=
 Below w.heap.size w w' ∧ ∃ v, e = .returned v ∧ Row w' v (tzI l).length (civ (tzI l))
theorem mkI0 (n : Nat) (h : n ≤ 1000000) (w : World) : (Instr.makeSlice 22 (.int .i64 0) (.int .i64 (n : Int))).run Tryz.prog w = .ok (.slice (some ⟨w.heap.size, 0, none⟩) 0 n) (w.alloc (.cells (zarr (.agg #[.bool false, .string ⟨#[]⟩]) n) 25)) :=
 mk_slice 22 25 _ 2 24 Tryz.underlying22 infoZ rfl .i64 .i64 0 n (Nat.zero_le _) (by omega) (by omega) 0 _ rfl rfl w
set_option maxRecDepth 100000 in
set_option maxHeartbeats 6400000 in
theorem canon_any (l : List Int) (v : Value) (w : World) (hr : Row w v l.length (civ l)) (hl : l.length ≤ 100000) (hs : ∀ x ∈ l, small x) :
  Calls Tryz.prog 84 #[v] w (CanRet l w) := by
 obtain ⟨va, vc, rfl, hle⟩ := hr.slice
 obtain ⟨i0, hi, hz0, hz1', hz2'⟩ := info_parts infoZ
 obtain ⟨n, hn⟩ : ∃ n, n = l.length := ⟨_, rfl⟩
 have hadd : ∀ x, x ∈ l → ∀ w', Calls Tryz.prog 85 #[IntV x, .agg #[.bool false, .string ⟨#[]⟩]] w' (Ret w' (IntV x)) := fun x hx w' => by
  have h := iadd_any (ineg x) (ineg 0) (imag x) (imag 0) w' (hs x hx) (by rw [imag_zero]; decide)
  rw [ival_canon, ival_canon, Int.add_zero, imag_zero] at h
  exact h
 rw [← hn] at hr hle hl
 have hmk := mkI0 n (by omega)
 have hmade := own_made w w.heap.size 25 (.agg #[.bool false, .string ⟨#[]⟩]) n (Nat.le_refl _) (by unfold maxLen; omega)
 have s0 := (Below.refl w.heap.size w).alloc (Nat.le_refl _) (.cells (zarr (.agg #[.bool false, .string ⟨#[]⟩]) n) 25)
 have HR := zh hr; clear hr
 have HN := zh hn; clear hn
 have HADD := zh hadd; clear hadd
 have HMADE := zh hmade; clear hmade
 have S0 := zh s0; clear s0
 clear hs
 go_enter Tryz.func84, Tryz.ntmps84
 rw [← HN.out]
 go_wp2_with fail
 go_loopw [3, 5, 11] (fun u _ i wr => ∃ k : Nat, k ≤ n ∧ i = .int .i64 k ∧ wr.ownsRow w.heap.size 25 2 u k (civ (l.take k)) ∧ Below w.heap.size w wr) (fun _ _ i _ => n - (intOf i).toNat)
 case atStart => exact ⟨0, Nat.zero_le _, rfl, HMADE.out, S0.out⟩
 case round =>
  obtain ⟨k, hk, rfl, hown, hbel⟩ := hrel
  have hsz : w.heap.size ≤ wr.heap.size := hbel.size
  obtain ⟨wo, rfl⟩ : ∃ wo : World, wo = wr := ⟨_, rfl⟩
  by_cases hlt : k < n
  ·
   have hkl : k < l.length := by rw [← HN.out]; exact hlt
   have hget : l[k]? = some (l[k]'hkl) := List.getElem?_eq_getElem _
   obtain ⟨x, hx⟩ : ∃ x, x = l[k]'hkl := ⟨_, rfl⟩
   rw [← hx] at hget
   have haddx := HADD.out x (by rw [hx]; exact List.getElem_mem _)
   have hz2 : civ (l.take (k + 1)) = civ (l.take k) ++ [.bool (ineg x), .string (imag x)] := by
    rw [List.take_add_one, hget]; exact civ_snoc _ _
   obtain ⟨b1, o1, rfl, hb1, hbc⟩ := HR.out.at_ (by omega)
   obtain ⟨c0, c1⟩ := int_cells hbc hbel hb1 hget
   obtain ⟨a, cap, rfl⟩ := own_slice hown
   have hix1 : (0 : Int) ≤ (k : Int) := by omega
   have hix2 : (k : Int) < (n : Int) := by omega
   have ho1 := hown.alloc (.cells #[.bool (ineg x), .string (imag x)] 25)
   have s1 := hbel.alloc hsz (.cells #[.bool (ineg x), .string (imag x)] 25)
   have bx := Blk.new wo 25 [.bool (ineg x), .string (imag x)]
   have d0 := bx.c 0 rfl
   have d1 := bx.c 1 rfl
   have HO1 := zh ho1; clear ho1
   have S1 := zh s1; clear s1
   have HZ2 := zh hz2; clear hz2
   have HADDX := zh haddx; clear haddx
   clear hx hget hbc hkl bx hown
   go_wp2_with fail
   go_at_call 85
   refine (HADDX.out _).mono ?_
   rintro e w2 ⟨hq2, rfl⟩
   have ho2 := own_below HO1.out hq2
   have hb2 := S1.out.trans (hq2.mono S1.out.size)
   have hsz2 : w.heap.size ≤ w2.heap.size := hb2.size
   have HO2 := zh ho2; clear ho2
   have HB2 := zh hb2; clear hb2
   clear hq2 d0 d1 c0 c1
   go_wp2_with (at_builtin; refine wpList_append_lies _ rfl (.tmp 15) (.tmp 19) 22 rfl w.heap.size 25 i0 _ 2 24 Tryz.underlying22 hi hz0 hz1' hz2' rfl (by decide) _ _ _ rfl (HO2.out.alloc _) _ 1 1 [.bool (ineg x), .string (imag x)] rfl rfl (World.news_of_block (heap_alloc_new _ _)) (by simp [Value.oneCell']) (by omega) (by unfold maxLen; omega) (by omega) (by simp; omega) _ rfl ?_; intro g cap' w3 hown' hg hat hlt'; have HG := zh hg; clear hg; have HO4 := zh hown'; clear hown'; have HAT := zh hat; clear hat)
   go_roundw
   case rel =>
    refine ⟨k + 1, by omega, by go_num, ?_, (HB2.out.alloc hsz2 _).grown HG.out (by simp; omega) (fun j hj => (HO2.out.lt j hj).1)⟩
    rw [HZ2.out]; exact HO4.out
   case measure => simp [intOf]; omega
  ·
   obtain rfl : k = n := by omega
   have htk : l.take k = l := List.take_of_length_le (by rw [← HN.out]; exact Nat.le_refl _)
   rw [htk] at hown
   have hrow := own_row hown
   have HROW := zh hrow; clear hrow
   have HB := zh hbel; clear hbel
   clear hown htk hlt hk
   go_wp2_with fail
   go_loopw [3] (fun u wr => ∃ m : Nat, m ≤ k ∧ Row wr u m (civ (l.take m)) ∧ tzI (l.take m) = tzI l ∧ Below wo.heap.size wo wr) (fun u _ => slLen u)
   case atStart => exact ⟨k, Nat.le_refl _, by rw [List.take_of_length_le (by rw [← HN.out]; exact Nat.le_refl _)]; exact HROW.out, by rw [List.take_of_length_le (by rw [← HN.out]; exact Nat.le_refl _)], Below.refl _ _⟩
   case round =>
    obtain ⟨m, hm, hrw, htz, hbw⟩ := hrel
    have s2 := HB.out.trans (hbw.mono HB.out.size)
    obtain ⟨ua, uc, rfl, hule⟩ := hrw.slice
    have HTZ := zh htz; clear htz
    have HBW := zh hbw; clear hbw
    have S2 := zh s2; clear s2
    cases m with
    | zero =>
     have HRW := zh hrw; clear hrw
     go_wp2_with fail
     go_ret
     refine ⟨S2.out, _, rfl, ?_⟩
     rw [← HTZ.out]
     exact HRW.out
    | succ m =>
     have hml : m < l.length := by rw [← HN.out]; omega
     have hget : l[m]? = some (l[m]'hml) := List.getElem?_eq_getElem _
     obtain ⟨x, hx⟩ : ∃ x, x = l[m]'hml := ⟨_, rfl⟩
     rw [← hx] at hget
     have htake : l.take (m + 1) = l.take m ++ [x] := by rw [List.take_add_one, hget]; rfl
     have hget2 : (l.take (m + 1))[m]? = some x := by rw [List.getElem?_take, if_pos (by omega)]; exact hget
     obtain ⟨b1, o1, rfl, hb1, hbc⟩ := hrw.at_ (by omega)
     obtain ⟨c0, c1⟩ := int_cells hbc (Below.refl wr.heap.size wr) hb1 hget2
     have hez := fun w' => eqIn_zero x w'
     have hpos : (0 : Int) < ((m : Int) + 1) := by omega
     have hcap : m + 1 ≤ uc := by
      rcases id hrw with ⟨h1, -, -⟩ | ⟨b, off, cap, h1, h2, h3, h4, h5⟩
      ·
       cases h1
      ·
       cases h1; exact h2
     have hcap1 : m ≤ uc := by omega
     have hcap0 : ¬ uc = 0 := by omega
     have hcut : Row wr (.slice (some ⟨b1, o1, none⟩) m uc) m (civ (l.take m)) := by
      rcases id hrw with ⟨h1, -, -⟩ | ⟨b, off, cap, h1, h2, h3, h4, h5⟩
      ·
       cases h1
      ·
       cases h1
       refine .inr ⟨_, _, _, rfl, by omega, h3, h4, fun j u hu => h5 j u ?_⟩
       rw [htake, civ_append, List.getElem?_append_left (List.getElem?_eq_some_iff.1 hu).1]
       exact hu
     have HCUT := zh hcut; clear hcut
     by_cases h0 : x = 0
     ·
      have hnx : tzI (l.take m) = tzI l := by rw [← HTZ.out, htake, h0, tzI_snoc_zero]
      rw [decide_eq_true h0] at hez
      have HNX := zh hnx; clear hnx
      clear hbc hget hget2 htake h0 hrw hml hx
      go_wp2_with fail
      go_roundw
      case rel => exact ⟨m, by omega, HCUT.out, HNX.out, HBW.out⟩
      case measure => simp [slLen]
     ·
      have hfin : tzI l = l.take (m + 1) := by rw [← HTZ.out, htake, tzI_snoc_ne _ h0]
      rw [decide_eq_false h0] at hez
      have hlen : (tzI l).length = m + 1 := by rw [hfin, List.length_take]; omega
      have HFIN := zh hfin; clear hfin
      have HLEN := zh hlen; clear hlen
      have HRW := zh hrw; clear hrw
      clear hbc hget hget2 htake h0 hml hx
      go_wp2_with fail
      go_ret
      refine ⟨S2.out, _, rfl, ?_⟩
      rw [HLEN.out, HFIN.out]
      exact HRW.out
end Go.Proofs.YtjpalbonclgflaaGreat

/- slices.Equal at integers: of equal rows (XEqI without graphs). -/
namespace Go.Proofs.YtjpalbonclgflaaGreat
open Go.RowKit

theorem eqIn_same (b : Bool) (s : ByteArray) (w : World) : (Op.equalIn 10000 25 (.agg #[.bool b, .string s]) (.agg #[.bool b, .string s])).run Tryz.prog w = .ok true w := by
 rw [eqIn_int]; have h : (s == s) = true := by rw [beq_toListBytes]; simp
 simp [h]
set_option maxRecDepth 100000 in
set_option maxHeartbeats 3200000 in
theorem equalI_yes (l : List Int) (va vb : Value) (w : World) (ha : Row w va l.length (civ l)) (hb : Row w vb l.length (civ l)) :
  Calls Tryz.prog 97 #[va, vb] w (Ret w (.bool true)) := by
 obtain ⟨a1, c1, rfl, hle⟩ := ha.slice
 obtain ⟨a2, c2, rfl, -⟩ := hb.slice
 obtain ⟨n, hn⟩ : ∃ n, n = l.length := ⟨_, rfl⟩
 rw [← hn] at ha hb hle ⊢
 have HA := zh ha; clear ha
 have HB := zh hb; clear hb
 have HN := zh hn; clear hn
 have hne : ((n : Int) != (n : Int)) = false := by simp
 go_enter Tryz.func97, Tryz.ntmps97
 go_wp2_with fail
 go_loopw [5, 13] (fun _ i wr => ∃ k : Nat, k ≤ n ∧ i = .int .i64 k ∧ Below w.heap.size w wr) (fun _ i _ => n - (intOf i).toNat)
 case atStart => exact ⟨0, Nat.zero_le _, rfl, Below.refl _ _⟩
 case round =>
  obtain ⟨k, hk, rfl, hbel⟩ := hrel
  have HBEL := zh hbel; clear hbel
  by_cases hlt : k < n
  ·
   have hget : l[k]? = some (l[k]'(by rw [← HN.out]; exact hlt)) := List.getElem?_eq_getElem _
   obtain ⟨x, hx⟩ : ∃ x, x = l[k]'(by rw [← HN.out]; exact hlt) := ⟨_, rfl⟩
   rw [← hx] at hget
   obtain ⟨b1, o1, rfl, hb1, hc1⟩ := HA.out.at_ (by omega)
   obtain ⟨b2, o2, rfl, hb2, hc2⟩ := HB.out.at_ (by omega)
   obtain ⟨x0, x1⟩ := int_cells hc1 HBEL.out hb1 hget
   obtain ⟨x2, x3⟩ := int_cells hc2 HBEL.out hb2 hget
   have hxx := fun w' => eqIn_same (ineg x) (imag x) w'
   clear hx hget hc1 hc2
   go_wp2_with fail
   go_quiet (fail)
   go_wp2_with fail
   go_roundw
   case rel => exact ⟨k + 1, by omega, by go_num, below_drewN HBEL.out _⟩
   case measure => simp [intOf]; omega
  ·
   obtain rfl : k = n := by omega
   go_wp2_with fail
   go_ret
   exact ⟨HBEL.out, rfl⟩
end Go.Proofs.YtjpalbonclgflaaGreat

