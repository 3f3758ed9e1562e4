/-
  Part 11 of the proof: contracts and plain laws. Conditions: none.
-/
import Derived.Test.YtagmodjadmecdaaGreatJK10
namespace Go.Proofs.YtagmodjadmecdaaGreat
open Go Go.RowKit Tryz

def chP (n : Nat) : Nat → Nat → List (List Int)
  | 0, _ => [[]]
  | m + 1, i => (List.range' i (n - m - i)).flatMap fun i => (chP n m (i + 1)).map ((i : Int) :: ·)
theorem ch_end {n m i : Nat} (hm : 0 < m) (h : n < i + m) : chP n m i = [] := by
  cases m with
  | zero => cases hm
  | succ m => unfold chP; rw [show n - m - i = 0 by omega]; rfl
theorem ch_step {n m i : Nat} (hm : 0 < m) (h : i + m ≤ n) : chP n m i = (chP n (m - 1) (i + 1)).map ((i : Int) :: ·) ++ chP n m (i + 1) := by
  cases m with
  | zero => cases hm
  | succ m => rw [chP, show n - m - i = (n - m - (i + 1)) + 1 by omega, List.range'_succ, List.flatMap_cons, chP]; rfl
structure HC where
  pre : List (List Int)
  xs : List Int
  ao : Option Addr
  g : Nat
  cap : Nat
  w : World
def encHC (x : HC) : Value := .slice x.ao x.xs.length x.cap
structure YC (F : Nat → Prop) (pb D n m : Nat) (C : List (List Int) → World → Prop) (x : HC) (W : World) : Prop where
  hc : C x.pre W
  num : Acc encI 1 3 pb W x.ao x.g x.cap x.xs
  nf : pb ≤ x.g → ¬ F x.g
  len : x.xs.length ≤ m ∧ ∀ i ∈ x.xs, 0 ≤ i ∧ i < (n : Int)
  hD : D + 1 < W.heap.size
  upd : Upd (· = D + 1) x.w W
structure ZC (F : Nat → Prop) (pb : Nat) (C : List (List Int) → World → Prop) (x : HC) (W : World) : Prop where
  hc : C (x.pre ++ [x.xs]) W
  upd : Upd (TP F pb x.w) x.w W
structure FC (F : Nat → Prop) (pb : Nat) (Cf : List (List Int) × List Int → World → Prop) (x : HC) (W : World) : Prop where
  hc : Cf (x.pre, x.xs) W
  upd : Upd (TP F pb x.w) x.w W
def EndC (ts : List (List Int)) (Cf : List (List Int) × List Int → World → Prop) (W : World) : Prop := ∃ pre v post, ts = pre ++ v :: post ∧ Cf (pre, v) W
theorem YC.turned {F : Nat → Prop} {pb D n m : Nat} {C : List (List Int) → World → Prop} (hC : Turned (D + 1) C) : Turned (D + 1) (YC F pb D n m C) := fun _x _W _W' h hl u =>
  ⟨hC _ _ _ h.hc hl u, h.num.keep u (h.num.notLoop hl), h.nf, h.len, Nat.lt_of_lt_of_le h.hD u.size, h.upd.trans u⟩
theorem ZC.turned {F : Nat → Prop} {pb l : Nat} {C : List (List Int) → World → Prop} (hC : Turned l C) (hT : F l) : Turned l (ZC F pb C) := fun _x _W _W' h hl u => ⟨hC _ _ _ h.hc hl u, tp_turn h.upd hT u⟩
theorem FC.turned {F : Nat → Prop} {pb l : Nat} {C : List (List Int) × List Int → World → Prop} (hC : Turned l C) (hT : F l) : Turned l (FC F pb C) := fun _x _W _W' h hl u => ⟨hC _ _ _ h.hc hl u, tp_turn h.upd hT u⟩
theorem EndC.turned {ts : List (List Int)} {Cf : List (List Int) × List Int → World → Prop} {l : Nat} (h : Turned l Cf) : Turned l (fun (_ : Unit) W => EndC ts Cf W) := fun _ _W _W' ⟨pre, v, post, e, hc⟩ hr u => ⟨pre, v, post, e, h _ _ _ hc hr u⟩
structure ChP (P : Program) (pb n : Nat) (F : Nat → Prop) (l D : Nat) (C : List (List Int) → World → Prop) (Cf : List (List Int) × List Int → World → Prop) (R Rf : World → Prop) (b4 b5 b3 m i0 : Nat) (w0 : World) : Prop where
  hC : ∀ pre W W', C pre W → Ext W W' → C pre W'
  hCf : ∀ p W W', Cf p W → Ext W W' → Cf p W'
  hCt : Bent w0.heap.size C
  hCft : Bent w0.heap.size Cf
  hH : HandsL P l D encHC (YC F pb D n m C) (ZC F pb C) (FC F pb Cf) R Rf
  h4 : Blk w0 b4 3 [.int .i64 (m : Int)]
  h5 : Blk w0 b5 3 [.int .i64 (i0 : Int)]
  h3 : Blk w0 b3 3 [.int .i64 (n : Int)]
  hF : ∀ i, F i → i < w0.heap.size
  n4 : ¬ F b4
  n3 : ¬ F b3
  hFl : F l
  hl : l = D + 1
  hD : D + 1 < w0.heap.size
  hpb : 0 < pb ∧ pb ≤ D
  hn : n ≤ 20
  hm : m ≤ 20
  hi : i0 ≤ 20
  c0 : C [] w0
  r0 : R w0
def ChQ (n : Nat) (F : Nat → Prop) (pb : Nat) (C : List (List Int) → World → Prop) (Cf : List (List Int) × List Int → World → Prop) (R Rf : World → Prop) (m i0 : Nat) (w0 w' : World) : Prop :=
  ((C (chP n m i0) w' ∧ R w') ∨ (EndC (chP n m i0) Cf w' ∧ Rf w')) ∧ Upd (TP F pb w0) w0 w'
def ChoicesQ (P : Program) (pb n m : Nat) : Prop := ∀ F l D C Cf R Rf b4 b5 b3 i0 w0, ChP P pb n F l D C Cf R Rf b4 b5 b3 m i0 w0 →
  CallsV P 98 [.func (.yield l) #[] #[], .pointer (some ⟨b4, 0, none⟩), .pointer (some ⟨b5, 0, none⟩), .pointer (some ⟨b3, 0, none⟩)] w0 (fun _ w' => ChQ n F pb C Cf R Rf m i0 w0 w')
structure DX (F : Nat → Prop) (pb : Nat) (wR : World) (C : List (List Int) → World → Prop) (R : World → Prop) (ts : List (List Int)) (k : Nat) (pre : List (List Int)) (W : World) : Prop where
  hc : C (ts ++ pre.map ((k : Int) :: ·)) W
  hr : R W
  hu : Upd (TP F pb wR) wR W
structure DfX (F : Nat → Prop) (pb : Nat) (wR : World) (Cf : List (List Int) × List Int → World → Prop) (Rf : World → Prop) (ts : List (List Int)) (k : Nat) (p : List (List Int) × List Int) (W : World) : Prop where
  hc : Cf (ts ++ p.1.map ((k : Int) :: ·), (k : Int) :: p.2) W
  hr : Rf W
  hu : Upd (TP F pb wR) wR W
theorem DX.bent {F : Nat → Prop} {pb B B' k : Nat} {wR : World} {C : List (List Int) → World → Prop} {R : World → Prop} {ts : List (List Int)} (hC : Bent B C) (hR : Bent B (fun (_ : Unit) W => R W)) (hb : B ≤ B') (hw : wR.heap.size ≤ B') : Bent B' (DX F pb wR C R ts k) := fun x W W' S h u hS =>
  ⟨(hC.mono hb) _ _ _ _ h.hc u hS, (hR.mono hb) () _ _ _ h.hr u hS, h.hu.next u (fun i hi hs => by have := (hS i hs).1; omega)⟩
theorem DfX.bent {F : Nat → Prop} {pb B B' k : Nat} {wR : World} {C : List (List Int) × List Int → World → Prop} {R : World → Prop} {ts : List (List Int)} (hC : Bent B C) (hR : Bent B (fun (_ : Unit) W => R W)) (hb : B ≤ B') (hw : wR.heap.size ≤ B') : Bent B' (DfX F pb wR C R ts k) := fun x W W' S h u hS =>
  ⟨(hC.mono hb) _ _ _ _ h.hc u hS, (hR.mono hb) () _ _ _ h.hr u hS, h.hu.next u (fun i hi hs => by have := (hS i hs).1; omega)⟩
theorem bentR' {γ : Type} {P : Program} {l D B : Nat} {enc : γ → Value} {Y Z Zf : γ → World → Prop} {R Rf : World → Prop} (h : HandsL P l D enc Y Z Zf R Rf) (hl : l < B) (hD : D < B) : Bent B (fun (_ : Unit) W => R W) ∧ Bent B (fun (_ : Unit) W => Rf W) :=
  ⟨fun _ W W' S hr u hS => h.keep hr u (fun q => by have := (hS _ q).1; omega) (fun q => by have := (hS _ q).1; omega), fun _ W W' S hr u hS => h.keepf hr u (fun q => by have := (hS _ q).1; omega) (fun q => by have := (hS _ q).1; omega)⟩
structure EC (F : Nat → Prop) (pb : Nat) (wR : World) (I : World → Prop) (W : World) : Prop where
  hi : I W
  hu : Upd (TP F pb wR) wR W
theorem EC.turned {F : Nat → Prop} {pb l : Nat} {wR : World} {I : World → Prop} (hI : Turned l (fun (_ : Unit) W => I W)) (hl : F l) : Turned l (fun (_ : Unit) W => EC F pb wR I W) := fun _ _W _W' h hr u => ⟨hI () _ _ h.hi hr u, tp_turn h.hu hl u⟩
theorem own71 : Own Tryz.prog 71 := ⟨Tryz.f71, func71, by kernel_rfl, by kernel_rfl⟩
theorem own98 : Own Tryz.prog 98 := ⟨Tryz.f98, func98, by kernel_rfl, by kernel_rfl⟩

theorem choices_c (n m i : Int) (w0 : World) :
    CallsV Tryz.prog 71 [.int .i64 n, .int .i64 m, .int .i64 i] w0 (fun v w' => (∃ b4 b5 b3, v = .func (.func 98) #[] #[.pointer (some ⟨b4, 0, none⟩), .pointer (some ⟨b5, 0, none⟩), .pointer (some ⟨b3, 0, none⟩)] ∧ Blk w' b4 3 [.int .i64 m] ∧ Blk w' b5 3 [.int .i64 i] ∧ Blk w' b3 3 [.int .i64 n] ∧ w0.heap.size ≤ b4 ∧ w0.heap.size ≤ b5 ∧ w0.heap.size ≤ b3) ∧ Ext w0 w') := by
 refine f_enter (N := 8) func71 rfl rfl rfl (c_seq fun K1 hK1 => (c_region (t_box (cs := [.int .i64 n]) rfl rfl rfl rfl (fun bk2 w3 ebk2 sbk2 B4 u5 => ?_))))
 have zu5 := u5.size
 refine t_box (cs := [.int .i64 m]) rfl rfl rfl rfl (fun bk7 w8 ebk7 sbk7 B9 u10 => ?_)
 have zu10 := u10.size
 refine t_box (cs := [.int .i64 i]) rfl rfl rfl rfl (fun bk12 w13 ebk12 sbk12 B14 u15 => ?_)
 have zu15 := u15.size
 refine t_assign rfl rfl rfl (t_nil' (hK1 _ _ (c_seq fun K17 hK17 => (c_region (t_mkfunc (vs := []) (us := [.pointer (some ⟨bk7, 0, none⟩), .pointer (some ⟨bk12, 0, none⟩), .pointer (some ⟨bk2, 0, none⟩)]) rfl rfl rfl rfl (t_assign rfl rfl rfl (t_nil' (hK17 _ _ (c_ret (f_ret1 (v := .func (.func 98) #[] #[.pointer (some ⟨bk7, 0, none⟩), .pointer (some ⟨bk12, 0, none⟩), .pointer (some ⟨bk2, 0, none⟩)]) results71 rfl ?_))))))))))
 have B18 := (B9.kx u15)
 have B19 := ((B4.kx u10).kx u15)
 exact ⟨⟨bk7, bk12, bk2, rfl, B18, B14, B19, by omega, by omega, by omega⟩, ((((Upd.refl (fun _ => False) w0).nx u5).nx u10).nx u15)⟩

set_option maxHeartbeats 1000000 in
theorem choices1_s (pb n m : Nat) (F : Nat → Prop) (l D : Nat) (C : List (List Int) → World → Prop) (Cf : List (List Int) × List Int → World → Prop) (R Rf : World → Prop) (b4 b5 b3 i0 : Nat) (w0 : World) (hp : ChP Tryz.prog pb n F l D C Cf R Rf b4 b5 b3 m i0 w0) (ih : ∀ q, q < m → ChoicesQ Tryz.prog pb n q) :
    CallsV Tryz.prog 98 [.func (.yield l) #[] #[], .pointer (some ⟨b4, 0, none⟩), .pointer (some ⟨b5, 0, none⟩), .pointer (some ⟨b3, 0, none⟩)] w0 (fun _ w' => ChQ n F pb C Cf R Rf m i0 w0 w') := by
 have hpb := hp.hpb
 have hD := hp.hD
 have hl := hp.hl
 have hn20 := hp.hn
 have hm20 := hp.hm
 have l4 := hp.h4.lt
 have l5 := hp.h5.lt
 have l3 := hp.h3.lt
 have hbR := bentR' hp.hH (B := w0.heap.size) (by omega) (by omega)
 have hR2 : ∀ W W', R W → Ext W W' → R W' := fun W W' h u => hp.hH.keep h u (fun h => h) (fun h => h)
 have hRf2 : ∀ W W', Rf W → Ext W W' → Rf W' := fun W W' h u => hp.hH.keepf h u (fun h => h) (fun h => h)
 refine f_enterM (N := 34) func98 rfl rfl rfl (c_seq fun K1 hK1 => (c_region (t_box (cs := [.func (.yield l) #[] #[]]) rfl rfl rfl rfl (fun bk2 w3 ebk2 sbk2 B4 u5 => ?_))))
 have zu5 := u5.size
 have E6 := (Upd.refl (fun i => TP F pb w0 i) w0).nx u5
 refine t_nil' (hK1 _ _ (c_seq fun K7 hK7 => (c_seq fun K8 hK8 => (c_region ?_))))
 have B9 := (hp.h4.kx u5)
 refine t_load isAgg3 rfl rfl rfl (B9.get rfl) (t_cmp rfl rfl rfl rfl rfl (t_nil' (hK8 _ _ (c_condp rfl (fun g8 => ?_) (fun g8 => ?_)))))
 ·
  have hm0 : m = 0 := by omega
  refine c_seq fun K10 hK10 => (c_region (t_load isAgg125 rfl rfl rfl (B4.get rfl) (t_yield (vs := [.slice none 0 0]) rfl rfl rfl rfl (hp.hH.hand ⟨[], [], none, 0, 0, w3⟩ _ ⟨(hp.hC _ _ _ hp.c0 ((Upd.refl (fun _ => False) _).nx u5)), Acc.nil _ _ _ _ _ hp.hpb.1 (by omega), fun h => absurd h (by show ¬ pb ≤ 0; omega), ⟨Nat.zero_le _, fun _ h => by cases h⟩, by have := hp.hD; omega, Upd.refl _ _⟩ (hR2 _ _ hp.r0 ((Upd.refl (fun _ => False) _).nx u5))) (by rintro e w' (⟨rfl, _⟩ | ⟨rfl, _⟩) <;> exact ⟨_, rfl⟩) (fun v11 w12 r13 => ?_))))
  rcases r13 with ⟨hvr13, hrr13⟩ | ⟨hvr13, hrr13⟩ <;> injection hvr13 with hvr13 <;> subst hvr13
  ·
   obtain ⟨⟨hzC, u14⟩, hzR⟩ := hrr13
   have zu14 := u14.size
   refine t_nil' (hK10 _ _ (c_ret ?_))
   have D18 := (((show Marks w0.heap.size [] w0 from trivial).keepB u5 (CellsB.of (CellsIn.none _))).keepB u14 (TP.cellsB (fun i h => hp.hF i h)))
   have hmkE := D18
   refine f_retMc0  results98  D18 (fun w16 u17 omw16 => ?_)
   have zu17 := u17.size
   unfold ChQ
   have e9 : chP n m i0 = [[]] := by rw [hm0, chP]
   exact ⟨.inl ⟨by rw [e9]; exact hp.hCt _ _ _ _ hzC omw16 hmkE.bent, hbR.1 () _ _ _ hzR omw16 hmkE.bent⟩, ((E6.next u14 (fun i hi (h : TP F pb w3 i) => show TP F pb w0 i by first | omega | assumption | exact TP.back (by assumption) hi h | exact h.elim (fun h => TP.back (by assumption) hi h) (fun h => by omega) | exact h.elim id (fun h => by omega))).next u17 (fun i hi (h : w0.heap.size ≤ i) => show TP F pb w0 i by first | omega | assumption | exact TP.back (by assumption) hi h | exact h.elim (fun h => TP.back (by assumption) hi h) (fun h => by omega) | exact h.elim id (fun h => by omega)))⟩
  obtain ⟨⟨hzC, u14⟩, hzR⟩ := hrr13
  have zu14 := u14.size
  refine t_nil' (hK10 _ _ (c_ret ?_))
  have D23 := (((show Marks w0.heap.size [] w0 from trivial).keepB u5 (CellsB.of (CellsIn.none _))).keepB u14 (TP.cellsB (fun i h => hp.hF i h)))
  have hmkE := D23
  refine f_retMc0  results98  D23 (fun w21 u22 omw21 => ?_)
  have zu22 := u22.size
  unfold ChQ
  have e9 : chP n m i0 = [[]] := by rw [hm0, chP]
  exact ⟨.inr ⟨⟨[], [], [], by rw [e9]; rfl, hp.hCft _ _ _ _ hzC omw21 hmkE.bent⟩, hbR.2 () _ _ _ hzR omw21 hmkE.bent⟩, ((E6.next u14 (fun i hi (h : TP F pb w3 i) => show TP F pb w0 i by first | omega | assumption | exact TP.back (by assumption) hi h | exact h.elim (fun h => TP.back (by assumption) hi h) (fun h => by omega) | exact h.elim id (fun h => by omega))).next u22 (fun i hi (h : w0.heap.size ≤ i) => show TP F pb w0 i by first | omega | assumption | exact TP.back (by assumption) hi h | exact h.elim (fun h => TP.back (by assumption) hi h) (fun h => by omega) | exact h.elim id (fun h => by omega)))⟩
 have hm1 : 0 < m := by omega
 refine c_skip (hK7 _ _ (c_seq fun K25 hK25 => (c_region ?_)))
 have B26 := (hp.h5.kx u5)
 refine t_load isAgg3 rfl rfl rfl (B26.get rfl) (t_alloc (cs := [.int .i64 0]) zeroValue3 rfl rfl rfl (fun bk27 w28 ebk27 sbk27 B29 u30 => ?_))
 have zu30 := u30.size
 refine t_st (vs := [.int .i64 (i0 : Int)]) sizeOf3 rfl rfl rfl B29 rfl rfl rfl rfl (fun w32 sw32 B34 u33 => ?_)
 have zu33 := u33.size
 have E35 := (E6.nx u30).next u33 (fun i hi (h : i = bk27) => show TP F pb w0 i by first | omega | assumption | exact TP.back (by assumption) hi h | exact h.elim (fun h => TP.back (by assumption) hi h) (fun h => by omega) | exact h.elim id (fun h => by omega))
 have B34 : Blk w32 bk27 3 [.int .i64 (i0 : Int)] := B34
 refine t_nil' (hK25 _ _ (c_block ?_))
 have hP0 : Upd (TP F pb w0) w0 w32 := E35
 have B37 := ((B9.kx u30).keep u33 (by omega))
 have nTb36 : ¬ TP F pb w32 b4 := TP.not hp.n4 B37 (by decide)
 have B39 := (((hp.h3.kx u5).kx u30).keep u33 (by omega))
 have nTb38 : ¬ TP F pb w32 b3 := TP.not hp.n3 B39 (by decide)
 have B41 := ((B4.kx u30).keep u33 (by omega))
 have nTb40 : ¬ TP F pb w32 bk2 := TP.not (fun h => by have := hp.hF _ h; omega) B41 (by decide)
 refine c_loopm (γ := Nat × Nat × List (List Int) × List Deferred) (fun gg => [(1, .pointer (some ⟨b4, 0, none⟩)), (3, .pointer (some ⟨b3, 0, none⟩)), (4, .pointer (some ⟨bk2, 0, none⟩)), (5, .pointer (some ⟨gg.2.1, 0, none⟩))]) (fun gg => gg.2.2.2) (fun gg w => Upd (fun i => TP F pb w32 i) w32 w ∧ (i0 ≤ gg.1 ∧ gg.1 ≤ 21) ∧ (Blk w gg.2.1 3 [.int .i64 (gg.1 : Int)]) ∧ (w0.heap.size ≤ gg.2.1) ∧ (chP n m i0 = gg.2.2.1 ++ chP n m gg.1) ∧ (C gg.2.2.1 w) ∧ (R w) ∧ (Marks w0.heap.size gg.2.2.2 w)) (fun gg => 22 - gg.1) (i0, bk27, [], []) rfl ⟨rfl, rfl, rfl, rfl, trivial⟩ ⟨Upd.refl _ _, ⟨Nat.le_refl _, by have := hp.hi; show i0 ≤ 21; omega⟩, B34, (by show w0.heap.size ≤ bk27; omega), rfl, (hp.hC _ _ _ hp.c0 ((((Upd.refl (fun _ => False) _).nx u5).nx u30).next u33 (fun i hi (h : i = bk27) => show False by first | omega | assumption))), (hR2 _ _ hp.r0 ((((Upd.refl (fun _ => False) _).nx u5).nx u30).next u33 (fun i hi (h : i = bk27) => show False by first | omega | assumption))), trivial⟩ ?_
 intro gg w43 hW K42 hK42
 obtain ⟨k, bq, ts, dl⟩ := gg
 change WC _ _ _ _ _ _ [(1, .pointer (some ⟨b4, 0, none⟩)), (3, .pointer (some ⟨b3, 0, none⟩)), (4, .pointer (some ⟨bk2, 0, none⟩)), (5, .pointer (some ⟨bq, 0, none⟩))] _
 change Upd (fun i => TP F pb w32 i) w32 w43 ∧ (i0 ≤ k ∧ k ≤ 21) ∧ (Blk w43 bq 3 [.int .i64 (k : Int)]) ∧ (w0.heap.size ≤ bq) ∧ (chP n m i0 = ts ++ chP n m k) ∧ (C ts w43) ∧ (R w43) ∧ (Marks w0.heap.size dl w43) at hW
 obtain ⟨u44, I45, I46, I47, I48, I49, I50, I51⟩ := hW
 have zu44 := u44.size
 have E52 := E35.next u44 (fun i hi (h : TP F pb w32 i) => show TP F pb w0 i by first | omega | assumption | exact TP.back (by assumption) hi h | exact h.elim (fun h => TP.back (by assumption) hi h) (fun h => by omega) | exact h.elim id (fun h => by omega))
 have hi0 := I45; clear I45
 have hbq := I46; clear I46
 have hbq0 := I47; clear I47
 have htk := I48; clear I48
 have hCk := I49; clear I49
 have hRk := I50; clear I50
 have hmkl := I51; clear I51
 have hbql := hbq.lt
 have hPl : Upd (TP F pb w0) w0 w43 := E52
 refine c_seq fun K53 hK53 => (c_seq fun K54 hK54 => (c_region (t_load isAgg3 rfl rfl rfl (hbq.get rfl) ?_)))
 have B55 := (B39.keep u44 (show ¬ (TP F pb w32 b3) by first | omega | assumption))
 refine t_load isAgg3 rfl rfl rfl (B55.get rfl) ?_
 have B56 := (B37.keep u44 (show ¬ (TP F pb w32 b4) by first | omega | assumption))
 refine t_load isAgg3 rfl rfl rfl (B56.get rfl) (t_ari rfl rfl rfl rfl rfl (by omega) (t_cmp rfl rfl rfl rfl rfl (t_nil' (hK54 _ _ (c_condp rfl (fun g16 => ?_) (fun g16 => ?_))))))
 ·
  have hkn : k + m ≤ n := by omega
  refine c_skip (hK53 _ _ (c_seq fun K57 hK57 => (c_block (c_seq fun K58 hK58 => (c_region (t_load isAgg3 rfl rfl rfl (B55.get rfl) (t_load isAgg3 rfl rfl rfl (B56.get rfl) (t_ari rfl rfl rfl rfl rfl (by omega) (t_load isAgg3 rfl rfl rfl (hbq.get rfl) (t_ari rfl rfl rfl rfl rfl (by omega) (t_call own71 rfl rfl rfl rfl (choices_c (n : Int) ((m : Int) - 1) ((k : Int) + 1) _) (fun v59 w60 r62 => ?_))))))))))))
  obtain ⟨⟨bT4, bT5, bT3, rfl, hT4, hT5, hT3, gT4, gT5, gT3⟩, u61⟩ := r62
  have zu61 := u61.size
  have E63 := E52.nx u61
  refine t_nil' (hK58 _ _ (c_block ?_))
  have hPR : Upd (TP F pb w32) w32 w60 := (u44.nx u61)
  have hPR0 : Upd (TP F pb w0) w0 w60 := E63
  have hCR := (hp.hC _ _ _ hCk ((Upd.refl (fun _ => False) _).nx u61))
  have hRR := (hR2 _ _ hRk ((Upd.refl (fun _ => False) _).nx u61))
  have B65 := (B56.kx u61)
  have nTb64 : ¬ TP (FX F (w60.heap.size + 1)) pb w60 b4 := TP.not (fun h => h.elim (hp.n4) (by omega)) B65 (by decide)
  have B67 := (B55.kx u61)
  have nTb66 : ¬ TP (FX F (w60.heap.size + 1)) pb w60 b3 := TP.not (fun h => h.elim (hp.n3) (by omega)) B67 (by decide)
  have B69 := ((B41.keep u44 (show ¬ (TP F pb w32 bk2) by first | omega | assumption)).kx u61)
  have nTb68 : ¬ TP (FX F (w60.heap.size + 1)) pb w60 bk2 := TP.not (fun h => h.elim ((fun h => by have := hp.hF _ h; omega)) (by omega)) B69 (by decide)
  have B71 := (hbq.kx u61)
  have nTb70 : ¬ TP (FX F (w60.heap.size + 1)) pb w60 bq := TP.not (fun h => h.elim ((fun h => by have := hp.hF _ h; omega)) (by omega)) B71 (by decide)
  have nTb72 : ¬ TP F pb w60 b4 := TP.not hp.n4 B65 (by decide)
  have nTb73 : ¬ TP F pb w60 b3 := TP.not hp.n3 B67 (by decide)
  have nTb74 : ¬ TP F pb w60 bk2 := TP.not (fun h => by have := hp.hF _ h; omega) B69 (by decide)
  have nTb75 : ¬ TP F pb w60 bq := TP.not (fun h => by have := hp.hF _ h; omega) B71 (by decide)
  have lT4 := hT4.lt
  have lT3 := hT3.lt
  have hBC := DX.bent (F := (FX F (w60.heap.size + 1))) (pb := pb) (B' := (w60.heap.size + 1)) (wR := w60) (ts := ts) (k := k) hp.hCt hbR.1 (by omega) (Nat.le_succ _)
  have hBF := DfX.bent (F := (FX F (w60.heap.size + 1))) (pb := pb) (B' := (w60.heap.size + 1)) (wR := w60) (ts := ts) (k := k) hp.hCft hbR.2 (by omega) (Nat.le_succ _)
  refine WC.weak [(1, .pointer (some ⟨b4, 0, none⟩)), (3, .pointer (some ⟨b3, 0, none⟩)), (4, .pointer (some ⟨bk2, 0, none⟩)), (5, .pointer (some ⟨bq, 0, none⟩)), (24, .func (.func 98) #[] #[.pointer (some ⟨bT4, 0, none⟩), .pointer (some ⟨bT5, 0, none⟩), .pointer (some ⟨bT3, 0, none⟩)])] ⟨rfl, rfl, rfl, rfl, rfl, trivial⟩ (c_rangeL (γ := HC) (δ := Unit) (lb := [.pointer (some ⟨bT4, 0, none⟩), .pointer (some ⟨bT5, 0, none⟩), .pointer (some ⟨bT3, 0, none⟩)]) (enc := encHC) own98 rfl rfl (YC (FX F (w60.heap.size + 1)) pb w60.heap.size n (m - 1) (DX (FX F (w60.heap.size + 1)) pb w60 C R ts k)) (ZC (FX F (w60.heap.size + 1)) pb (DX (FX F (w60.heap.size + 1)) pb w60 C R ts k)) (FC (FX F (w60.heap.size + 1)) pb (DfX (FX F (w60.heap.size + 1)) pb w60 Cf Rf ts k)) (EC (FX F (w60.heap.size + 1)) pb w60 (DX (FX F (w60.heap.size + 1)) pb w60 C R ts k (chP n (m - 1) (k + 1)))) (EC (FX F (w60.heap.size + 1)) pb w60 (EndC (chP n (m - 1) (k + 1)) (DfX (FX F (w60.heap.size + 1)) pb w60 Cf Rf ts k))) (ZC.turned (hBC.turned (Nat.le_refl _)) (.inr rfl)) (FC.turned (hBF.turned (Nat.le_refl _)) (.inr rfl)) (EC.turned (fun _ => (hBC.turned (Nat.le_refl _)) _) (.inr rfl)) (EC.turned (EndC.turned (hBF.turned (Nat.le_refl _))) (.inr rfl)) ?_ (fun x d => [(1, .pointer (some ⟨b4, 0, none⟩)), (3, .pointer (some ⟨b3, 0, none⟩)), (4, .pointer (some ⟨bk2, 0, none⟩)), (5, .pointer (some ⟨bq, 0, none⟩)), (6, .slice x.ao x.xs.length x.cap)]) (fun x (d : Unit) W => YC (FX F (w60.heap.size + 1)) pb w60.heap.size n (m - 1) (DX (FX F (w60.heap.size + 1)) pb w60 C R ts k) x W) (fun d x W W' h hl u => YC.turned (hBC.turned (Nat.le_refl _)) _ _ _ h hl u) ?_ ?_ ?_ ?_)
  ·
   intro l_ D_ R_ Rf_ W hD_ hl_ hsz hE1 hH_ hR_
   subst hD_ hl_
   have hm9 : (((m - 1 : Nat) : Int)) = (m : Int) - 1 := by omega
   refine (ih (m - 1) (by omega) (FX F (w60.heap.size + 1)) (w60.heap.size + 1) w60.heap.size (DX (FX F (w60.heap.size + 1)) pb w60 C R ts k) (DfX (FX F (w60.heap.size + 1)) pb w60 Cf Rf ts k) R_ Rf_ bT4 bT5 bT3 (k + 1) W ⟨?_, ?_, hBC.mono (by omega), hBF.mono (by omega), hH_, by rw [hm9]; exact hT4.kx hE1, hT5.kx hE1, hT3.kx hE1, fun i h => h.elim (fun h => by have := hp.hF _ h; omega) (fun h => by omega), fun h => h.elim ((fun h => by have := hp.hF _ h; omega)) (by omega), fun h => h.elim ((fun h => by have := hp.hF _ h; omega)) (by omega), .inr rfl, rfl, by omega, ⟨hp.hpb.1, by omega⟩, hp.hn, by omega, by omega, ⟨by simpa using hp.hC _ _ _ hCR hE1, hR2 _ _ hRR hE1, hE1.to⟩, hR_⟩).mono fun _ w9 h9 => ?_
   · exact fun p W W' h u => ⟨hp.hC _ _ _ h.hc u, hR2 _ _ h.hr u, h.hu.nx u⟩
   · exact fun p W W' h u => ⟨hp.hCf _ _ _ h.hc u, hRf2 _ _ h.hr u, h.hu.nx u⟩
   have h8 := (hE1.to (S := TP (FX F (w60.heap.size + 1)) pb w60)).next h9.2 (fun i hi h => TP.backE hE1 hi h)
   exact h9.1.elim (fun q => .inl ⟨⟨q.1, h8⟩, q.2⟩) (fun q => .inr ⟨⟨q.1, h8⟩, q.2⟩)
  ·
   intro lq x W K76 hI hK76
   change WC _ _ _ _ _ _ [(25, .slice x.ao x.xs.length x.cap), (1, .pointer (some ⟨b4, 0, none⟩)), (3, .pointer (some ⟨b3, 0, none⟩)), (4, .pointer (some ⟨bk2, 0, none⟩)), (5, .pointer (some ⟨bq, 0, none⟩)), (24, .func (.func 98) #[] #[.pointer (some ⟨bT4, 0, none⟩), .pointer (some ⟨bT5, 0, none⟩), .pointer (some ⟨bT3, 0, none⟩)])] _
   refine c_region (t_assign rfl rfl rfl (t_nil' ?_))
   exact hK76 () _ _ ⟨rfl, rfl, rfl, rfl, rfl, trivial⟩ (Upd.refl (fun _ => False) W) hI
  ·
   intro lq x d w77 hY
   have huR := hY.hc.hu
   have hlx := hY.len.1
   have zhuR := huR.size
   have lt_x_g := hY.num.lt
   have B80 := (B65.keep huR (show ¬ (TP (FX F (w60.heap.size + 1)) pb w60 b4) by first | omega | assumption))
   have nTb79 : ¬ TP F pb w77 b4 := TP.not hp.n4 B80 (by decide)
   have B82 := (B67.keep huR (show ¬ (TP (FX F (w60.heap.size + 1)) pb w60 b3) by first | omega | assumption))
   have nTb81 : ¬ TP F pb w77 b3 := TP.not hp.n3 B82 (by decide)
   have B84 := (B69.keep huR (show ¬ (TP (FX F (w60.heap.size + 1)) pb w60 bk2) by first | omega | assumption))
   have nTb83 : ¬ TP F pb w77 bk2 := TP.not (fun h => by have := hp.hF _ h; omega) B84 (by decide)
   have B86 := (B71.keep huR (show ¬ (TP (FX F (w60.heap.size + 1)) pb w60 bq) by first | omega | assumption))
   have nTb85 : ¬ TP F pb w77 bq := TP.not (fun h => by have := hp.hF _ h; omega) B86 (by decide)
   change WC _ _ _ _ _ _ [(1, .pointer (some ⟨b4, 0, none⟩)), (3, .pointer (some ⟨b3, 0, none⟩)), (4, .pointer (some ⟨bk2, 0, none⟩)), (5, .pointer (some ⟨bq, 0, none⟩)), (6, .slice x.ao x.xs.length x.cap)] _
   have hcellsR := (TP.cellsB (F := F) (pb := pb) (B := w60.heap.size) (w := w77) (fun i h => by have := hp.hF i h; omega))
   refine c_block (c_seq fun K87 hK87 => ?_)
   have nTb88 : ¬ TQ F pb w77 bk2 := TQ.not (Upd.refl _ _) (fun h => by have := hp.hF _ h; omega) (by omega) B84 (by decide)
   have nTb89 : ¬ TQ F pb w77 bq := TQ.not (Upd.refl _ _) (fun h => by have := hp.hF _ h; omega) (by omega) B86 (by decide)
   refine c_drawnM follows (fun i => TQ F pb w77 i) (.look 0 (.look 1 (.look 3 (.act 2 (.act 4 (.act 5 (.look 6 .done) .stop) .stop) .stop)))) (by kernel_rfl) fun w90 u91 => ?_
   have zu91 := u91.size
   have B93 := (B84.kx u91)
   refine y_load isAgg125 rfl rfl rfl (B93.get rfl) (by show ¬ (TQ F pb w77 bk2); first | omega | assumption) ?_
   have B94 := (B86.kx u91)
   refine y_load isAgg3 rfl rfl rfl (B94.get rfl) (by show ¬ (TQ F pb w77 bq); first | omega | assumption) (y_move rfl rfl rfl (s_do (t_bslice (ps := [(0, .int .i64 (k : Int))]) (cs := [.int .i64 (k : Int)]) (e := 3) rfl rfl ⟨rfl, rfl⟩ (fun w => by kernel_rfl) (fun bk95 w96 ebk95 sbk95 B97 u98 => ?_))))
   have zu98 := u98.size
   refine s_next ((Upd.refl _ _).nx u98) (s_do ?_)
   have D100 := ((hY.num.kE u91).kE u98)
   refine t_appLit (enc := encI) (z := .int .i64 0) (bytes := 8) (k := 1) (xs := [(k : Int)]) (ys := x.xs) underlying60 (by kernel_rfl) rfl (by decide) (fun _ => rfl) (by intro x; simp [encI, Value.oneCell']) rfl rfl rfl rfl B97 (D100.sl (fun _ => rfl)) (by first | decide | simp) (by omega) (by decide) (fun ao101 gb102 cp103 w104 A105 u106 gegb102 => ?_)
   have zu106 := u106.size
   have lt_gb102 := A105.lt
   refine s_next ((Upd.refl _ _).next u106 (fun i hi (h : (i = bk95 ∧ bk95 ≤ i)) => show w90.heap.size ≤ i ∨ (TQ F pb w77 i) by first | omega | exact .inr h)) (s_do ?_)
   have uE9 : Ext w77 w104 := ((((Upd.refl (fun _ => False) w77).nx u91).nx u98).next u106 (fun i hi h => by omega))
   obtain ⟨gZ, haZ, hgZ⟩ := (A105).lower' (base' := pb) (by omega) hp.hpb.1
   refine t_yield (vs := [.slice ao101 ((([(k : Int)] ++ x.xs)).length) cp103]) rfl rfl rfl rfl (hp.hH.hand ⟨ts ++ x.pre.map ((k : Int) :: ·), (k : Int) :: x.xs, ao101, gZ, cp103, w104⟩ _ ⟨hp.hC _ _ _ hY.hc.hc uE9, haZ, fun h hf => by have h7 := hgZ h; have h8 : gZ < w0.heap.size := hp.hF _ hf; omega, ⟨by show x.xs.length + 1 ≤ m; omega, fun i hi => by
     rcases List.mem_cons.1 hi with e | e
     · omega
     · exact hY.len.2 i e⟩, by have := hp.hD; omega, Upd.refl _ _⟩ (hR2 _ _ hY.hc.hr uE9)) (by rintro e w' (⟨rfl, _⟩ | ⟨rfl, _⟩) <;> exact ⟨_, rfl⟩) (fun v108 w109 r110 => ?_)
   rcases r110 with ⟨hvr110, hrr110⟩ | ⟨hvr110, hrr110⟩ <;> injection hvr110 with hvr110 <;> subst hvr110
   ·
    obtain ⟨⟨hzC, u111x⟩, hzR⟩ := hrr110
    have u111 := u111x.mono (fun i h => TQ.of uE9 h)
    have zu111 := u111.size
    refine s_next ((Upd.refl _ _).next u111 (fun i hi (h : TQ F pb w77 i) => show w90.heap.size ≤ i ∨ (TQ F pb w77 i) by first | omega | exact .inr h)) (y_not rfl rfl rfl (s_nil (hK87 _ _ (c_cond_f rfl (c_skip ?_)))))
    have hUr := (((((Upd.refl (fun i => TP F pb w77 i) w77).nx u91).nx u98).next u106 (fun i hi (h : (i = bk95 ∧ bk95 ≤ i)) => show TP F pb w77 i by first | omega | assumption | exact TP.back (by assumption) hi h | exact h.elim (fun h => TP.back (by assumption) hi h) (fun h => by omega) | exact h.elim id (fun h => by omega))).next u111 (fun i hi (h : TQ F pb w77 i) => show TP F pb w77 i by first | omega | assumption | exact TP.back (by assumption) hi h | exact h.elim (fun h => TP.back (by assumption) hi h) (fun h => by omega) | exact h.elim id (fun h => by omega)))
    have uW : Upd (TP (FX F (w60.heap.size + 1)) pb w77) _ _ := hUr.mono (fun i h => h.fx)
    exact fun a ha => ⟨KeepsFrom.of_updB hUr hcellsR, (⟨⟨by rw [List.map_append, ← List.append_assoc]; exact hzC, hzR, hY.hc.hu.next uW (fun i hi h => TP.back hY.hc.hu hi h)⟩, (hY.upd.mono fun i e => .inl (.inr e)).next uW (fun i hi h => TP.back (hY.upd.mono fun i e => .inl (.inr e)) hi h)⟩ : ZC (FX F (w60.heap.size + 1)) pb (DX (FX F (w60.heap.size + 1)) pb w60 C R ts k) x _)⟩
   obtain ⟨⟨hzC, u111x⟩, hzR⟩ := hrr110
   have u111 := u111x.mono (fun i h => TQ.of uE9 h)
   have zu111 := u111.size
   refine s_next ((Upd.refl _ _).next u111 (fun i hi (h : TQ F pb w77 i) => show w90.heap.size ≤ i ∨ (TQ F pb w77 i) by first | omega | exact .inr h)) (y_not rfl rfl rfl (s_nil (hK87 _ _ (c_cond_t rfl (c_ret ?_)))))
   have hUr := (((((Upd.refl (fun i => TP F pb w77 i) w77).nx u91).nx u98).next u106 (fun i hi (h : (i = bk95 ∧ bk95 ≤ i)) => show TP F pb w77 i by first | omega | assumption | exact TP.back (by assumption) hi h | exact h.elim (fun h => TP.back (by assumption) hi h) (fun h => by omega) | exact h.elim id (fun h => by omega))).next u111 (fun i hi (h : TQ F pb w77 i) => show TP F pb w77 i by first | omega | assumption | exact TP.back (by assumption) hi h | exact h.elim (fun h => TP.back (by assumption) hi h) (fun h => by omega) | exact h.elim id (fun h => by omega)))
   have uW : Upd (TP (FX F (w60.heap.size + 1)) pb w77) _ _ := hUr.mono (fun i h => h.fx)
   exact fun a ha => ⟨KeepsFrom.of_updB hUr hcellsR, (⟨⟨hzC, hzR, hY.hc.hu.next uW (fun i hi h => TP.back hY.hc.hu hi h)⟩, (hY.upd.mono fun i e => .inl (.inr e)).next uW (fun i hi h => TP.back (hY.upd.mono fun i e => .inl (.inr e)) hi h)⟩ : FC (FX F (w60.heap.size + 1)) pb (DfX (FX F (w60.heap.size + 1)) pb w60 Cf Rf ts k) x _)⟩
  ·
   have hmk0 := (hmkl.keep ((Upd.refl (fun _ => False) _).nx u61) (CellsIn.none _))
   have hmc0 := (TP.cellsB (F := F) (pb := pb) (B := w0.heap.size) (w := w60) (fun i h => hp.hF i h))
   intro D115 w114 hD115 hE hdD115
   have hu9 : Upd (TP F pb w60) w60 w114 := ⟨hE.hu.os, hE.hu.tape, hE.hu.output, hE.hu.size, fun k hk hn => hE.hu.block k hk (fun h => hn (h.unfx (by omega)))⟩
   have zhu9 := hu9.size
   have hstep : chP n m i0 = (ts ++ (chP n (m - 1) (k + 1)).map ((k : Int) :: ·)) ++ chP n m (k + 1) := by rw [htk, ch_step hm1 hkn, List.append_assoc]
   have mk117 := (hmk0.keepB hu9 hmc0).push (D := D115) (by omega) hdD115 (fun d hd D' e => Nat.lt_of_lt_of_le (hmk0.lt d hd D' e) hD115)
   obtain ⟨pr9, v9, po9, e9, hcf9⟩ := hE.hi
   have hmkE := mk117
   refine f_retMc0  results98  mk117 (fun w118 u119 omw118 => ?_)
   have zu119 := u119.size
   unfold ChQ
   exact ⟨.inr ⟨⟨_, _, po9.map ((k : Int) :: ·) ++ chP n m (k + 1), by rw [hstep, e9]; simp, hp.hCft _ _ _ _ hcf9.hc omw118 hmkE.bent⟩, hbR.2 () _ _ _ hcf9.hr omw118 hmkE.bent⟩, ((E63.next hu9 (fun i hi (h : TP F pb w60 i) => show TP F pb w0 i by first | omega | assumption | exact TP.back (by assumption) hi h | exact h.elim (fun h => TP.back (by assumption) hi h) (fun h => by omega) | exact h.elim id (fun h => by omega))).next u119 (fun i hi (h : w0.heap.size ≤ i) => show TP F pb w0 i by first | omega | assumption | exact TP.back (by assumption) hi h | exact h.elim (fun h => TP.back (by assumption) hi h) (fun h => by omega) | exact h.elim id (fun h => by omega)))⟩
  ·
   have hmk0 := (hmkl.keep ((Upd.refl (fun _ => False) _).nx u61) (CellsIn.none _))
   have hmc0 := (TP.cellsB (F := F) (pb := pb) (B := w0.heap.size) (w := w60) (fun i h => hp.hF i h))
   intro D122 w121 hD122 hE hdD122
   have hu9 : Upd (TP F pb w60) w60 w121 := ⟨hE.hu.os, hE.hu.tape, hE.hu.output, hE.hu.size, fun k hk hn => hE.hu.block k hk (fun h => hn (h.unfx (by omega)))⟩
   have zhu9 := hu9.size
   have hstep : chP n m i0 = (ts ++ (chP n (m - 1) (k + 1)).map ((k : Int) :: ·)) ++ chP n m (k + 1) := by rw [htk, ch_step hm1 hkn, List.append_assoc]
   have mk124 := (hmk0.keepB hu9 hmc0).push (D := D122) (by omega) hdD122 (fun d hd D' e => Nat.lt_of_lt_of_le (hmk0.lt d hd D' e) hD122)
   refine hK57 _ _ (c_seq fun K125 hK125 => (c_seq fun K126 hK126 => (c_region ?_)))
   have B127 := (B71.keep hu9 (show ¬ (TP F pb w60 bq) by first | omega | assumption))
   refine t_load isAgg3 rfl rfl rfl (B127.get rfl) (t_nil' (hK126 _ _ (c_region (t_alloc (cs := [.int .i64 0]) zeroValue3 rfl rfl rfl (fun bk128 w129 ebk128 sbk128 B130 u131 => ?_)))))
   have zu131 := u131.size
   refine t_st (vs := [.int .i64 (k : Int)]) sizeOf3 rfl rfl rfl B130 rfl rfl rfl rfl (fun w133 sw133 B135 u134 => ?_)
   have zu134 := u134.size
   have B135 : Blk w133 bk128 3 [.int .i64 (k : Int)] := B135
   refine t_nil' (hK125 _ _ (c_region (t_load isAgg3 rfl rfl rfl (B135.get rfl) (t_ari rfl rfl rfl rfl rfl (by omega) (t_st (vs := [.int .i64 ((k : Int) + 1)]) sizeOf3 rfl rfl rfl B135 rfl rfl rfl rfl (fun w137 sw137 B139 u138 => ?_))))))
   have zu138 := u138.size
   have B139 : Blk w137 bk128 3 [.int .i64 ((k : Int) + 1)] := B139
   refine t_nil' ?_
   have D141 := (((mk124.keepB u131 (CellsB.of (CellsIn.none _))).keepB u134 (CellsB.of (B130).cellsIn)).keepB u138 (CellsB.of (B135).cellsIn))
   exact hK42 (k + 1, bk128, ts ++ (chP n (m - 1) (k + 1)).map ((k : Int) :: ·), (mark D122 :: dl)) _ _ (by show 22 - (k + 1) < 22 - k; omega) ⟨rfl, rfl, rfl, rfl, trivial⟩ ⟨(((((u44.nx u61).next hu9 (fun i hi (h : TP F pb w60 i) => show TP F pb w32 i by first | omega | assumption | exact TP.back (by assumption) hi h | exact h.elim (fun h => TP.back (by assumption) hi h) (fun h => by omega) | exact h.elim id (fun h => by omega))).nx u131).next u134 (fun i hi (h : i = bk128) => show TP F pb w32 i by first | omega | assumption | exact TP.back (by assumption) hi h | exact h.elim (fun h => TP.back (by assumption) hi h) (fun h => by omega) | exact h.elim id (fun h => by omega))).next u138 (fun i hi (h : i = bk128) => show TP F pb w32 i by first | omega | assumption | exact TP.back (by assumption) hi h | exact h.elim (fun h => TP.back (by assumption) hi h) (fun h => by omega) | exact h.elim id (fun h => by omega))), (by show i0 ≤ k + 1 ∧ k + 1 ≤ 21; omega), B139, (by show w0.heap.size ≤ bk128; omega), hstep, (hp.hC _ _ _ hE.hi.hc ((((Upd.refl (fun _ => False) _).nx u131).next u134 (fun i hi (h : i = bk128) => show False by first | omega | assumption)).next u138 (fun i hi (h : i = bk128) => show False by first | omega | assumption))), (hR2 _ _ hE.hi.hr ((((Upd.refl (fun _ => False) _).nx u131).next u134 (fun i hi (h : i = bk128) => show False by first | omega | assumption)).next u138 (fun i hi (h : i = bk128) => show False by first | omega | assumption))), D141⟩
 have hkn : n < k + m := by omega
 refine c_exit ?_
 have hCe := hCk
 have hRe := hRk
 have hmkE := hmkl
 refine f_retMc0  results98  hmkl (fun w142 u143 omw142 => ?_)
 have zu143 := u143.size
 unfold ChQ
 have e9 : chP n m i0 = ts := by rw [htk, ch_end hm1 hkn, List.append_nil]
 exact ⟨.inl ⟨by rw [e9]; exact hp.hCt _ _ _ _ hCe omw142 hmkE.bent, hbR.1 () _ _ _ hRe omw142 hmkE.bent⟩, (E52.next u143 (fun i hi (h : w0.heap.size ≤ i) => show TP F pb w0 i by first | omega | assumption | exact TP.back (by assumption) hi h | exact h.elim (fun h => TP.back (by assumption) hi h) (fun h => by omega) | exact h.elim id (fun h => by omega)))⟩


theorem choices1_c (pb n : Nat) : ∀ m, ChoicesQ Tryz.prog pb n m := by
  intro m
  induction m using Nat.strongRecOn with
  | _ m ih => exact fun F l D C Cf R Rf b4 b5 b3 i0 w0 hp => choices1_s pb n m F l D C Cf R Rf b4 b5 b3 i0 w0 hp ih

end Go.Proofs.YtagmodjadmecdaaGreat
namespace Go.Proofs.YtagmodjadmecdaaGreat
open Go Go.RowKit Tryz

def pickL (xs : List Leg) (l : List Int) : List Leg := l.map fun i => nth xs i.toNat
def sfP (r : Rul) (xs : List Leg) (ms : List Mb) : Bool := (asgP r xs ms 0 0).1.isSome
def fewOk (r : Rul) (xs : List Leg) (ms : List Mb) (many : Nat) : Prop := ∀ m, m < many → ∀ l ∈ chP xs.length m 0, sfP r (pickL xs l) ms = true
def ShortR (r : Rul) (ss : List Slr) (xs : List Leg) (l : List Int) (e : Int) : Prop :=
  (openE r ss xs ≠ 0 ∧ e = openE r ss xs ∧ l = []) ∨ (openE r ss xs = 0 ∧ sfP r xs (ss.map boardP) = true ∧ l = [] ∧ e = 9) ∨
  (openE r ss xs = 0 ∧ sfP r xs (ss.map boardP) = false ∧ e = 0 ∧ ∃ many pre post, many ≤ xs.length ∧ fewOk r xs (ss.map boardP) many ∧ chP xs.length many 0 = pre ++ l :: post ∧ (∀ q ∈ pre, sfP r (pickL xs q) (ss.map boardP) = true) ∧ sfP r (pickL xs l) (ss.map boardP) = false) ∨
  (openE r ss xs = 0 ∧ sfP r xs (ss.map boardP) = false ∧ fewOk r xs (ss.map boardP) (xs.length + 1) ∧ l = [] ∧ e = 9)
structure ShC (F : Nat → Prop) (r : Rul) (xs : List Leg) (pb c : Nat) (am : Option Addr) (mb cm n : Nat) (ms : List HM) (t6 t7 : Nat) (wR : World) (pre : List (List Int)) (W : World) : Prop where
  cr : CrewM r pb c am mb cm n 20 ms W
  ok : ∀ q ∈ pre, sfP r (pickL xs q) (ms.map HM.mb) = true
  b6 : Blk W t6 60 [.slice none 0 0]
  b7 : Blk W t7 27 [.int .i64 0]
  hu : Upd (TP F pb wR) wR W
structure ShF (F : Nat → Prop) (r : Rul) (xs : List Leg) (pb mb : Nat) (ms : List HM) (t6 t7 : Nat) (wR : World) (p : List (List Int) × List Int) (W : World) : Prop where
  ok : ∀ q ∈ p.1, sfP r (pickL xs q) (ms.map HM.mb) = true
  no : sfP r (pickL xs p.2) (ms.map HM.mb) = false
  b6 : ∃ ao g cp, Blk W t6 60 [.slice ao p.2.length cp] ∧ Acc encI 1 3 pb W ao g cp p.2
  b7 : Blk W t7 27 [.int .i64 0]
  hu : Upd (TP F pb wR) wR W
theorem TP.below {mb pb b t6 t7 l : Nat} {w : World} (hb : b < pb) (h6 : b ≠ t6) (h7 : b ≠ t7) (hl : b ≠ l) : ¬ TP (FX (FX (FX (MB mb pb) t6) t7) l) pb w b := by
  intro h
  rcases h with h | ⟨h, _⟩
  · rcases h with ((h | h) | h) | h
    · have := h.1; have := h.2; omega
    · exact h6 h
    · exact h7 h
    · exact hl h
  · omega
theorem sh_cells {r : Rul} {pb c : Nat} {am : Option Addr} {mb cm n B : Nat} {ms : List HM} {t6 t7 b : Nat} {w : World} {t t' : TypeId} {cs cs' : List Value} (_hb : 0 < b) (h6 : Blk w t6 t cs) (h7 : Blk w t7 t' cs') (hc : CrewM r pb c am mb cm n B ms w) : ∀ k, b ≤ k → k < w.heap.size → TP (FX (FX (MB mb pb) t6) t7) pb w k → ∃ cur t f, w.heap[k]? = some (.cells cur t f) := fun k _ hk h => by
  rcases h with h | ⟨_, cs, h⟩
  · rcases h with (h | h) | h
    · obtain ⟨cs, h2⟩ := hc.row.row.acc.blkT (h.1 ▸ h.2)
      rw [h.1]; exact ⟨_, _, _, h2⟩
    · rw [show k = t6 from h]; exact ⟨_, _, _, h6⟩
    · rw [show k = t7 from h]; exact ⟨_, _, _, h7⟩
  · exact ⟨_, _, _, h⟩
theorem sh_cellsM {r : Rul} {pb c : Nat} {am : Option Addr} {mb cm n B : Nat} {ms : List HM} {b : Nat} {w : World} (hc : CrewM r pb c am mb cm n B ms w) : ∀ k, b ≤ k → k < w.heap.size → TP (MB mb pb) pb w k → ∃ cur t f, w.heap[k]? = some (.cells cur t f) := fun k _ hk h => by
  rcases h with h | ⟨_, cs, h⟩
  · obtain ⟨cs, h2⟩ := hc.row.row.acc.blkT (h.1 ▸ h.2)
    rw [h.1]; exact ⟨_, _, _, h2⟩
  · exact ⟨_, _, _, h⟩
theorem TP.belowM {mb pb b : Nat} {w : World} (hb : b < pb) : ¬ TP (MB mb pb) pb w b := by
  intro h
  rcases h with h | ⟨h, _⟩
  · have := h.1; have := h.2; omega
  · omega
theorem TP.below9 {mb pb b t6 t7 : Nat} {w : World} (hb : b < pb) (h6 : b ≠ t6) (h7 : b ≠ t7) : ¬ TP (FX (FX (MB mb pb) t6) t7) pb w b := by
  intro h
  rcases h with h | ⟨h, _⟩
  · rcases h with (h | h) | h
    · have := h.1; have := h.2; omega
    · exact h6 h
    · exact h7 h
  · omega
theorem CrewM.bent {r : Rul} {pb c : Nat} {am : Option Addr} {mb cm n B : Nat} {ms : List HM} {w w' : World} {S : Nat → Prop} {b : Nat} (h : CrewM r pb c am mb cm n B ms w) (hb : pb ≤ b) (u : Upd S w w') (hS : ∀ i, S i → b ≤ i ∧ ∀ c t f, w.heap[i]? ≠ some (.cells c t f)) : CrewM r pb c am mb cm n B ms w' :=
  ⟨h.hr, RowC.bent hb _ _ _ _ h.row u hS, h.hn, h.hB, ⟨h.hpb.1, Nat.le_trans h.hpb.2 u.size⟩, h.hc⟩
theorem ShC.bent {F : Nat → Prop} {r : Rul} {xs : List Leg} {pb c : Nat} {am : Option Addr} {mb cm n : Nat} {ms : List HM} {t6 t7 B : Nat} {wR : World} (hb : pb ≤ B) (hw : wR.heap.size ≤ B) : Bent B (ShC F r xs pb c am mb cm n ms t6 t7 wR) := fun pre W W' S h u hS =>
  ⟨h.cr.bent hb u hS, h.ok, h.b6.keep u (fun q => (hS _ q).2 _ _ _ h.b6), h.b7.keep u (fun q => (hS _ q).2 _ _ _ h.b7), h.hu.next u (fun i hi q => by have := (hS i q).1; omega)⟩
theorem ShF.bent {F : Nat → Prop} {r : Rul} {xs : List Leg} {pb mb : Nat} {ms : List HM} {t6 t7 B : Nat} {wR : World} (hw : wR.heap.size ≤ B) : Bent B (ShF F r xs pb mb ms t6 t7 wR) := fun p W W' S h u hS => by
  obtain ⟨ao, g, cp, h1, h2⟩ := h.b6
  refine ⟨h.ok, h.no, ⟨ao, g, cp, h1.keep u (fun q => (hS _ q).2 _ _ _ h1), h2.keep u (fun hb q => ?_)⟩, h.b7.keep u (fun q => (hS _ q).2 _ _ _ h.b7), h.hu.next u (fun i hi q => by have := (hS i q).1; omega)⟩
  rcases h2.at_ with ⟨_, _, _, h3⟩ | ⟨_, _, cur, h3, _⟩
  · omega
  · exact (hS _ q).2 _ _ _ h3
theorem ShC.ext {F : Nat → Prop} {r : Rul} {xs : List Leg} {pb c : Nat} {am : Option Addr} {mb cm n : Nat} {ms : List HM} {t6 t7 : Nat} {wR : World} (pre : List (List Int)) (W W' : World) (h : ShC F r xs pb c am mb cm n ms t6 t7 wR pre W) (u : Ext W W') : ShC F r xs pb c am mb cm n ms t6 t7 wR pre W' := ⟨h.cr.ext u, h.ok, h.b6.kx u, h.b7.kx u, h.hu.nx u⟩
theorem ShF.ext {F : Nat → Prop} {r : Rul} {xs : List Leg} {pb mb : Nat} {ms : List HM} {t6 t7 : Nat} {wR : World} (p : List (List Int) × List Int) (W W' : World) (h : ShF F r xs pb mb ms t6 t7 wR p W) (u : Ext W W') : ShF F r xs pb mb ms t6 t7 wR p W' := by
  obtain ⟨ao, g, cp, h1, h2⟩ := h.b6
  exact ⟨h.ok, h.no, ⟨ao, g, cp, h1.kx u, h2.keep u (fun _ q => q)⟩, h.b7.kx u, h.hu.nx u⟩
theorem own37 : Own Tryz.prog 37 := ⟨Tryz.f37, func37, by kernel_rfl, by kernel_rfl⟩

set_option maxHeartbeats 1000000 in
theorem Short_c (r : Rul) (hs : List HS) (al : Option Addr) (bl ol cl : Nat) (xs : List Leg) (ax : Option Addr) (bx ox cx : Nat) (w0 : World) (hl : Sl encHS 4 w0 al bl ol hs) (hll : hs.length ≤ 1000000) (hsm : ∀ h ∈ hs, SlrM w0 h) (hxs : Sl encLeg 7 w0 ax bx ox xs) (hxl : xs.length ≤ 1000000) (hcx : xs.length ≤ cx) (hpos : 0 < w0.heap.size) :
    CallsV Tryz.prog 37 [.agg #[.int .i64 r.rest, .int .i64 r.span, .int .i64 r.work, .int .i64 r.week, .int .i64 r.ww], .slice al hs.length cl, .slice ax xs.length cx] w0 (fun v w' => (∃ ao g cp l e, v = .tuple #[.slice ao (List.length l) cp, .int .i64 e] ∧ Sl encI 1 w' ao g 0 l ∧ ShortR r (hs.map HS.slr) xs l e) ∧ Ext w0 w') := by
 refine f_enterM (N := 61) func37 rfl rfl rfl (c_seq fun K1 hK1 => (c_region (t_box (cs := [.int .i64 r.rest, .int .i64 r.span, .int .i64 r.work, .int .i64 r.week, .int .i64 r.ww]) rfl rfl rfl rfl (fun bk2 w3 ebk2 sbk2 B4 u5 => ?_))))
 have zu5 := u5.size
 refine t_box (cs := [.slice ax xs.length cx]) rfl rfl rfl rfl (fun bk7 w8 ebk7 sbk7 B9 u10 => ?_)
 have zu10 := u10.size
 refine t_alloc (cs := [.slice none 0 0]) zeroValue60 rfl rfl rfl (fun bk12 w13 ebk12 sbk12 B14 u15 => ?_)
 have zu15 := u15.size
 refine t_alloc (cs := [.int .i64 0]) zeroValue27 rfl rfl rfl (fun bk17 w18 ebk17 sbk17 B19 u20 => ?_)
 have zu20 := u20.size
 have E21 := ((((Upd.refl (fun _ => False) w0).nx u5).nx u10).nx u15).nx u20
 refine t_nil' (hK1 _ _ (c_seq fun K22 hK22 => (c_region ?_)))
 have B23 := (((B4.kx u10).kx u15).kx u20)
 refine t_loadN (vs := [.int .i64 r.rest, .int .i64 r.span, .int .i64 r.work, .int .i64 r.week, .int .i64 r.ww]) isAgg23 sizeOf23 rfl rfl rfl (B23.at.sub 0 5) rfl (t_move rfl rfl rfl ?_)
 have B24 := ((B9.kx u15).kx u20)
 refine t_load isAgg55 rfl rfl rfl (B24.get rfl) ?_
 have D25 := ((((hxs.kE u5).kE u10).kE u15).kE u20)
 refine t_call own57 rfl rfl rfl rfl (open_c r hs al bl ol cl xs ax bx ox cx _ (hl.keep E21 (fun _ h => h)) hll (fun h hh => (hsm h hh).ext E21) D25 hxl (by omega)) (fun v26 w27 r29 => ?_)
 obtain ⟨⟨po, _, rfl, rfl, hpo⟩, u28⟩ := r29
 have zu28 := u28.size
 have E30 := E21.nx u28
 have hopw : Ext w0 w27 := E30
 have hopu : Ext w18 w27 := u28
 refine t_move rfl rfl rfl (t_extract rfl rfl rfl rfl (t_extract rfl rfl rfl rfl (t_alloc (cs := [.pointer none]) zeroValue117 rfl rfl rfl (fun bk31 w32 ebk31 sbk31 B33 u34 => ?_))))
 have zu34 := u34.size
 refine t_st (vs := [.pointer po]) sizeOf117 rfl rfl rfl B33 rfl rfl rfl rfl (fun w36 sw36 B38 u37 => ?_)
 have zu37 := u37.size
 have E39 := (E30.nx u34).next u37 (fun i hi h => by omega)
 have B38 : Blk w36 bk31 117 [.pointer po] := B38
 refine t_assign rfl rfl rfl (t_nil' (hK22 _ _ (c_seq fun K40 hK40 => (c_block (c_seq fun K41 hK41 => (c_region (t_move rfl rfl rfl (t_cmp rfl rfl rfl rfl rfl (t_assign rfl rfl rfl (t_nil' (hK41 _ _ (c_condp rfl (fun g22 => ?_) (fun g22 => ?_)))))))))))))
 ·
  refine c_seq fun K42 hK42 => (c_region (t_move rfl rfl rfl ?_))
  have B43 := ((((B14.kx u20).kx u28).kx u34).keep u37 (by omega))
  refine t_st (vs := [.slice none 0 0]) sizeOf60 rfl rfl rfl B43 rfl rfl rfl rfl (fun w44 sw44 B46 u45 => ?_)
  have zu45 := u45.size
  have B46 : Blk w44 bk12 60 [.slice none 0 0] := B46
  have B48 := ((((B19.kx u28).kx u34).keep u37 (by omega)).keep u45 (by omega))
  refine t_st (vs := [.int .i64 (openE r (hs.map HS.slr) xs)]) sizeOf27 rfl rfl rfl B48 rfl rfl rfl rfl (fun w49 sw49 B51 u50 => ?_)
  have zu50 := u50.size
  have B51 : Blk w49 bk17 27 [.int .i64 (openE r (hs.map HS.slr) xs)] := B51
  refine t_nil' (hK42 _ _ (c_ret ?_))
  have B53 := (B46.keep u50 (by omega))
  have D56 := ((((((((((show Marks w0.heap.size [] w0 from trivial).keepB u5 (CellsB.of (CellsIn.none _))).keepB u10 (CellsB.of (CellsIn.none _))).keepB u15 (CellsB.of (CellsIn.none _))).keepB u20 (CellsB.of (CellsIn.none _))).keepB u28 (CellsB.of (CellsIn.none _))).keepB u34 (CellsB.of (CellsIn.none _))).keepB u37 (CellsB.of (B33).cellsIn)).keepB u45 (CellsB.of (B43).cellsIn)).keepB u50 (CellsB.of (B48).cellsIn))
  have hmkE := D56
  refine f_retMc2 (v1 := .slice none 0 0) (v2 := .int .i64 (openE r (hs.map HS.slr) xs)) results37 (.cell D56 rfl isAgg60 B53 rfl) (.cell D56 rfl isAgg27 B51 rfl) D56 (fun w54 u55 omw54 => ?_)
  have zu55 := u55.size
  exact ⟨⟨none, 0, 0, [], _, rfl, Sl.nil _ _ _ _ _ _, .inl ⟨g22, rfl, rfl⟩⟩, (((E39.next u45 (fun i hi h => by omega)).next u50 (fun i hi h => by omega)).next u55 (fun i hi (h : w0.heap.size ≤ i) => show False by first | omega | assumption | exact TP.back (by assumption) hi h | exact TP.back (by assumption) hi h.fx.fx | exact h.elim (fun h => by have := h.2; omega) (fun h => by have := h.1; omega) | exact h.elim (fun h => h.elim (fun h => h.elim (fun h => by have := h.1; have := h.2; omega) (fun h => by omega)) (fun h => by omega)) (fun h => by have := h.1; omega) | exact Or.inl (Or.inl (Or.inr h)) | exact Or.inl (Or.inr h)))⟩
 have h0 : openE r (hs.map HS.slr) xs = 0 := Decidable.not_not.1 g22
 obtain ⟨cO, am, mb, cm, ms, hpe, hcg, hcb, hrow, hmm⟩ := hpo h0
 have B58 : Blk w36 bk31 117 [.pointer (some ⟨cO, 0, none⟩)] := by
   have e : ([.pointer po] : List Value) = [.pointer (some ⟨cO, 0, none⟩)] := (by rw [hpe])
   rw [← e]; exact B38
 have hcr := CrewM.open h0 (by omega) hopu hcg hcb hrow hmm
 obtain ⟨_, h6, _, h8, h9⟩ := openE_ok h0
 have hma : ms.map HM.mb = (hs.map HS.slr).map boardP := by rw [hmm, List.map_map]; rfl
 have lmb := hrow.acc.lt
 have hcrW := (hcr.ext (((Upd.refl (fun _ => False) _).nx u34).next u37 (fun i hi (h : i = bk31) => show False by first | omega | assumption)))
 have h8m : ¬ MB mb w18.heap.size bk31 := fun q => hcrW.row.row.acc.neBlk B58 (by decide) (q.1 ▸ q.2) q.1.symm
 refine c_seq fun K59 hK59 => (c_region (t_load isAgg117 rfl rfl rfl (B58.get rfl) ?_))
 have B60 := (((B24.kx u28).kx u34).keep u37 (by omega))
 refine t_load isAgg55 rfl rfl rfl (B60.get rfl) ?_
 have hcS_w36 := (hcr.ext (((Upd.refl (fun _ => False) _).nx u34).next u37 (fun i hi (h : i = bk31) => show False by first | omega | assumption)))
 have nTb61 : ¬ TP (MB mb w18.heap.size) w18.heap.size w36 bk7 := TP.belowM (by omega)
 have B62 := ((((B14.kx u20).kx u28).kx u34).keep u37 (by omega))
 have nTb63 : ¬ TP (MB mb w18.heap.size) w18.heap.size w36 bk12 := TP.belowM (by omega)
 have B64 := (((B19.kx u28).kx u34).keep u37 (by omega))
 have nTb65 : ¬ TP (MB mb w18.heap.size) w18.heap.size w36 bk17 := TP.belowM (by omega)
 have nTb66 : ¬ TP (MB mb w18.heap.size) w18.heap.size w36 bk31 := TP.not (fun h => h8m h) B58 (by decide)
 have D67 := (((D25.kE u28).kE u34).keep u37 (fun h9 => by have h7 := hxs.lt h9; show ¬ (bx = bk31); first | omega | exact TP.belowM (by omega) | exact hnx h9 | exact hnx2 h9))
 refine t_call own70 rfl rfl rfl rfl (safe_c r w18.heap.size cO am mb cm ms.length 20 ms xs ax bx ox cx _ (hcr.ext (((Upd.refl (fun _ => False) _).nx u34).next u37 (fun i hi (h : i = bk31) => show False by first | omega | assumption))) h9 (by omega) (by omega) D67 hcx (fun hp hb => by have := hxs.lt hp; omega)) (fun v68 w69 r71 => ?_)
 obtain ⟨rfl, hrowS, u70⟩ := r71
 have zu70 := u70.size
 have E72 := E39.next u70 (fun i hi (h : TP (MB mb w18.heap.size) w18.heap.size w36 i) => show False by first | omega | assumption | exact TP.back (by assumption) hi h | exact TP.back (by assumption) hi h.fx.fx | exact h.elim (fun h => by have := h.2; omega) (fun h => by have := h.1; omega) | exact h.elim (fun h => h.elim (fun h => h.elim (fun h => by have := h.1; have := h.2; omega) (fun h => by omega)) (fun h => by omega)) (fun h => by have := h.1; omega) | exact Or.inl (Or.inl (Or.inr h)) | exact Or.inl (Or.inr h))
 have hcr73 : CrewM r w18.heap.size cO am mb cm ms.length 20 ms w69 := ⟨hcr.hr, hrowS, hcr.hn, hcr.hB, ⟨hcr.hpb.1, by omega⟩, hcr.hc⟩
 refine t_assign rfl rfl rfl (t_nil' (hK59 _ _ (c_cond rfl (fun g26 => ?_) (fun g26 => ?_))))
 ·
  have hsf : sfP r xs (ms.map HM.mb) = true := g26
  refine c_seq fun K74 hK74 => (c_region ?_)
  have B75 := (B62.keep u70 (show ¬ (TP (MB mb w18.heap.size) w18.heap.size w36 bk12) by first | omega | assumption))
  refine t_st (vs := [.slice none 0 0]) sizeOf60 rfl rfl rfl B75 rfl rfl rfl rfl (fun w76 sw76 B78 u77 => ?_)
  have zu77 := u77.size
  have B78 : Blk w76 bk12 60 [.slice none 0 0] := B78
  have B80 := ((B64.keep u70 (show ¬ (TP (MB mb w18.heap.size) w18.heap.size w36 bk17) by first | omega | assumption)).keep u77 (by omega))
  refine t_st (vs := [.int .i64 9]) sizeOf27 rfl rfl rfl B80 rfl rfl rfl rfl (fun w81 sw81 B83 u82 => ?_)
  have zu82 := u82.size
  have B83 : Blk w81 bk17 27 [.int .i64 9] := B83
  refine t_nil' (hK74 _ _ (c_ret ?_))
  have B85 := (B78.keep u82 (by omega))
  have D88 := (((((((((((show Marks w0.heap.size [] w0 from trivial).keepB u5 (CellsB.of (CellsIn.none _))).keepB u10 (CellsB.of (CellsIn.none _))).keepB u15 (CellsB.of (CellsIn.none _))).keepB u20 (CellsB.of (CellsIn.none _))).keepB u28 (CellsB.of (CellsIn.none _))).keepB u34 (CellsB.of (CellsIn.none _))).keepB u37 (CellsB.of (B33).cellsIn)).keepB u70 (sh_cellsM hcS_w36)).keepB u77 (CellsB.of (B75).cellsIn)).keepB u82 (CellsB.of (B80).cellsIn))
  have hmkE := D88
  refine f_retMc2 (v1 := .slice none 0 0) (v2 := .int .i64 9) results37 (.cell D88 rfl isAgg60 B85 rfl) (.cell D88 rfl isAgg27 B83 rfl) D88 (fun w86 u87 omw86 => ?_)
  have zu87 := u87.size
  exact ⟨⟨none, 0, 0, [], _, rfl, Sl.nil _ _ _ _ _ _, .inr (.inl ⟨h0, by rw [← hma]; exact hsf, rfl, rfl⟩)⟩, (((E72.next u77 (fun i hi h => by omega)).next u82 (fun i hi h => by omega)).next u87 (fun i hi (h : w0.heap.size ≤ i) => show False by first | omega | assumption | exact TP.back (by assumption) hi h | exact TP.back (by assumption) hi h.fx.fx | exact h.elim (fun h => by have := h.2; omega) (fun h => by have := h.1; omega) | exact h.elim (fun h => h.elim (fun h => h.elim (fun h => by have := h.1; have := h.2; omega) (fun h => by omega)) (fun h => by omega)) (fun h => by have := h.1; omega) | exact Or.inl (Or.inl (Or.inr h)) | exact Or.inl (Or.inr h)))⟩
 have hsf : sfP r xs (ms.map HM.mb) = false := g26
 refine c_skip (hK40 _ _ (c_seq fun K90 hK90 => (c_seq fun K91 hK91 => (c_region ?_))))
 have B92 := (B60.keep u70 (show ¬ (TP (MB mb w18.heap.size) w18.heap.size w36 bk7) by first | omega | assumption))
 refine t_load isAgg55 rfl rfl rfl (B92.get rfl) (t_len underlying55 rfl rfl rfl rfl (t_ari rfl rfl rfl rfl rfl (by omega) (t_move rfl rfl rfl (t_nil' (hK91 _ _ (c_block ?_))))))
 have nTb93 : ¬ TP (FX (FX (MB mb w18.heap.size) bk12) bk17) w18.heap.size w69 bk7 := TP.below9 (by omega) (by omega) (by omega)
 have B94 := (B58.keep u70 (show ¬ (TP (MB mb w18.heap.size) w18.heap.size w36 bk31) by first | omega | assumption))
 have nTb95 : ¬ TP (FX (FX (MB mb w18.heap.size) bk12) bk17) w18.heap.size w69 bk31 := TP.not (fun h => h.elim (fun h => h.elim h8m (fun e => by omega)) (fun e => by omega)) B94 (by decide)
 have hnx : 0 < xs.length → ¬ TP (FX (FX (MB mb w18.heap.size) bk12) bk17) w18.heap.size w69 bx := fun h => by have := hxs.lt h; exact TP.below9 (by omega) (by omega) (by omega)
 have B96 := (B62.keep u70 (show ¬ (TP (MB mb w18.heap.size) w18.heap.size w36 bk12) by first | omega | assumption))
 have B97 := (B64.keep u70 (show ¬ (TP (MB mb w18.heap.size) w18.heap.size w36 bk17) by first | omega | assumption))
 refine c_loopm (γ := Nat × List Deferred) (fun gg => [(5, .pointer (some ⟨bk7, 0, none⟩)), (6, .pointer (some ⟨bk12, 0, none⟩)), (7, .pointer (some ⟨bk17, 0, none⟩)), (8, .pointer (some ⟨bk31, 0, none⟩)), (32, .int .i64 ((xs.length : Int) + 1)), (33, .int .i64 (gg.1 : Int))]) (fun gg => gg.2) (fun gg w => Upd (fun i => TP (FX (FX (MB mb w18.heap.size) bk12) bk17) w18.heap.size w69 i) w69 w ∧ Blk w bk12 60 [.slice none 0 0] ∧ Blk w bk17 27 [.int .i64 0] ∧ (gg.1 ≤ xs.length + 1) ∧ (CrewM r w18.heap.size cO am mb cm ms.length 20 ms w) ∧ (fewOk r xs (ms.map HM.mb) gg.1) ∧ (Marks w0.heap.size gg.2 w)) (fun gg => xs.length + 1 - gg.1) (0, []) rfl ⟨rfl, rfl, rfl, rfl, rfl, rfl, trivial⟩ ⟨Upd.refl _ _, B96, B97, (Nat.zero_le _), hcr73, (fun m hm => absurd hm (Nat.not_lt_zero _)), trivial⟩ ?_
 intro gg w99 hW K98 hK98
 obtain ⟨many, dl⟩ := gg
 change WC _ _ _ _ _ _ [(5, .pointer (some ⟨bk7, 0, none⟩)), (6, .pointer (some ⟨bk12, 0, none⟩)), (7, .pointer (some ⟨bk17, 0, none⟩)), (8, .pointer (some ⟨bk31, 0, none⟩)), (32, .int .i64 ((xs.length : Int) + 1)), (33, .int .i64 (many : Int))] _
 change Upd (fun i => TP (FX (FX (MB mb w18.heap.size) bk12) bk17) w18.heap.size w69 i) w69 w99 ∧ Blk w99 bk12 60 [.slice none 0 0] ∧ Blk w99 bk17 27 [.int .i64 0] ∧ (many ≤ xs.length + 1) ∧ (CrewM r w18.heap.size cO am mb cm ms.length 20 ms w99) ∧ (fewOk r xs (ms.map HM.mb) many) ∧ (Marks w0.heap.size dl w99) at hW
 obtain ⟨u100, I101, I102, I103, I104, I105, I106⟩ := hW
 have zu100 := u100.size
 have E107 := E72.next u100 (fun i hi (h : TP (FX (FX (MB mb w18.heap.size) bk12) bk17) w18.heap.size w69 i) => show False by first | omega | assumption | exact TP.back (by assumption) hi h | exact TP.back (by assumption) hi h.fx.fx | exact h.elim (fun h => by have := h.2; omega) (fun h => by have := h.1; omega) | exact h.elim (fun h => h.elim (fun h => h.elim (fun h => by have := h.1; have := h.2; omega) (fun h => by omega)) (fun h => by omega)) (fun h => by have := h.1; omega) | exact Or.inl (Or.inl (Or.inr h)) | exact Or.inl (Or.inr h))
 have hmy := I103; clear I103
 have hcrk := I104; clear I104
 have hfew := I105; clear I105
 have hmkl := I106; clear I106
 have lmbk := hcrk.row.row.acc.lt
 refine c_seq fun K108 hK108 => (c_region (t_cmp rfl rfl rfl rfl rfl (t_nil' (hK108 _ _ (c_seq fun K109 hK109 => (c_condp rfl (fun g34 => ?_) (fun g34 => ?_)))))))
 ·
  refine c_skip (hK109 _ _ (c_seq fun K110 hK110 => (c_block (c_seq fun K111 hK111 => (c_region (t_move rfl rfl rfl (t_assign rfl rfl rfl (t_nil' (hK111 _ _ (c_seq fun K112 hK112 => (c_region ?_)))))))))))
  have B113 := (B92.keep u100 (show ¬ (TP (FX (FX (MB mb w18.heap.size) bk12) bk17) w18.heap.size w69 bk7) by first | omega | assumption))
  refine t_load isAgg55 rfl rfl rfl (B113.get rfl) (t_len underlying55 rfl rfl rfl rfl (t_move rfl rfl rfl (t_call own71 rfl rfl rfl rfl (choices_c (xs.length : Int) (many : Int) 0 _) (fun v114 w115 r117 => ?_))))
  obtain ⟨⟨bT4, bT5, bT3, rfl, hT4, hT5, hT3, gT4, gT5, gT3⟩, u116⟩ := r117
  have zu116 := u116.size
  refine t_nil' (hK112 _ _ (c_block ?_))
  have hPR : Upd (TP (FX (FX (MB mb w18.heap.size) bk12) bk17) w18.heap.size w69) w69 w115 := (u100.nx u116)
  have B119 := (B113.kx u116)
  have nTb120 : ¬ TP (FX (FX (FX (MB mb w18.heap.size) bk12) bk17) (w115.heap.size + 1)) w18.heap.size w115 bk7 := TP.below (by omega) (by omega) (by omega) (by omega)
  have B121 := ((B94.keep u100 (show ¬ (TP (FX (FX (MB mb w18.heap.size) bk12) bk17) w18.heap.size w69 bk31) by first | omega | assumption)).kx u116)
  have nTb122 : ¬ TP (FX (FX (FX (MB mb w18.heap.size) bk12) bk17) (w115.heap.size + 1)) w18.heap.size w115 bk31 := TP.not (fun h => h.elim (fun h => h.elim (fun h => h.elim h8m (fun e => by omega)) (fun e => by omega)) (fun e => by omega)) B121 (by decide)
  have nTb123 : ¬ TP (FX (FX (MB mb w18.heap.size) bk12) bk17) w18.heap.size w115 bk7 := TP.below9 (by omega) (by omega) (by omega)
  have nTb124 : ¬ TP (FX (FX (MB mb w18.heap.size) bk12) bk17) w18.heap.size w115 bk31 := TP.not (fun h => h.elim (fun h => h.elim h8m (fun e => by omega)) (fun e => by omega)) B121 (by decide)
  have B125 := (I101.kx u116)
  have B126 := (I102.kx u116)
  have hcrR := (hcrk.ext ((Upd.refl (fun _ => False) _).nx u116))
  have lmbR := hcrR.row.row.acc.lt
  have l6 := B125.lt
  have l7 := B126.lt
  have lT4 := hT4.lt
  have lT3 := hT3.lt
  have hnx2 : 0 < xs.length → ¬ TP (FX (FX (FX (MB mb w18.heap.size) bk12) bk17) (w115.heap.size + 1)) w18.heap.size w115 bx := fun h => by have := hxs.lt h; exact TP.below (by omega) (by omega) (by omega) (by omega)
  have hFi : ∀ i, (FX (FX (FX (MB mb w18.heap.size) bk12) bk17) (w115.heap.size + 1)) i → i < w115.heap.size + 2 := fun i h => h.elim (fun h => h.elim (fun h => h.elim (fun h => by have := h.1; omega) (fun e => by omega)) (fun e => by omega)) (fun e => by omega)
  have hF9 : ∀ i, (FX (FX (MB mb w18.heap.size) bk12) bk17) i → i < w115.heap.size := fun i h => h.elim (fun h => h.elim (fun h => by have := h.1; omega) (fun e => by omega)) (fun e => by omega)
  refine WC.weak [(5, .pointer (some ⟨bk7, 0, none⟩)), (6, .pointer (some ⟨bk12, 0, none⟩)), (7, .pointer (some ⟨bk17, 0, none⟩)), (8, .pointer (some ⟨bk31, 0, none⟩)), (32, .int .i64 ((xs.length : Int) + 1)), (33, .int .i64 (many : Int)), (39, .func (.func 98) #[] #[.pointer (some ⟨bT4, 0, none⟩), .pointer (some ⟨bT5, 0, none⟩), .pointer (some ⟨bT3, 0, none⟩)])] ⟨rfl, rfl, rfl, rfl, rfl, rfl, rfl, trivial⟩ (c_rangeL (γ := HC) (δ := Unit) (lb := [.pointer (some ⟨bT4, 0, none⟩), .pointer (some ⟨bT5, 0, none⟩), .pointer (some ⟨bT3, 0, none⟩)]) (enc := encHC) own98 rfl rfl (YC (FX (FX (FX (MB mb w18.heap.size) bk12) bk17) (w115.heap.size + 1)) w18.heap.size w115.heap.size xs.length many (ShC (FX (FX (FX (MB mb w18.heap.size) bk12) bk17) (w115.heap.size + 1)) r xs w18.heap.size cO am mb cm ms.length ms bk12 bk17 w115)) (ZC (FX (FX (FX (MB mb w18.heap.size) bk12) bk17) (w115.heap.size + 1)) w18.heap.size (ShC (FX (FX (FX (MB mb w18.heap.size) bk12) bk17) (w115.heap.size + 1)) r xs w18.heap.size cO am mb cm ms.length ms bk12 bk17 w115)) (FC (FX (FX (FX (MB mb w18.heap.size) bk12) bk17) (w115.heap.size + 1)) w18.heap.size (ShF (FX (FX (FX (MB mb w18.heap.size) bk12) bk17) (w115.heap.size + 1)) r xs w18.heap.size mb ms bk12 bk17 w115)) (EC (FX (FX (FX (MB mb w18.heap.size) bk12) bk17) (w115.heap.size + 1)) w18.heap.size w115 (ShC (FX (FX (FX (MB mb w18.heap.size) bk12) bk17) (w115.heap.size + 1)) r xs w18.heap.size cO am mb cm ms.length ms bk12 bk17 w115 (chP xs.length many 0))) (EC (FX (FX (FX (MB mb w18.heap.size) bk12) bk17) (w115.heap.size + 1)) w18.heap.size w115 (EndC (chP xs.length many 0) (ShF (FX (FX (FX (MB mb w18.heap.size) bk12) bk17) (w115.heap.size + 1)) r xs w18.heap.size mb ms bk12 bk17 w115))) (ZC.turned ((ShC.bent (B := (w115.heap.size + 1)) (by omega) (Nat.le_succ _)).turned (Nat.le_refl _)) (.inr rfl)) (FC.turned ((ShF.bent (B := (w115.heap.size + 1)) (Nat.le_succ _)).turned (Nat.le_refl _)) (.inr rfl)) (EC.turned (fun _ => ((ShC.bent (B := (w115.heap.size + 1)) (by omega) (Nat.le_succ _)).turned (Nat.le_refl _)) _) (.inr rfl)) (EC.turned (EndC.turned ((ShF.bent (B := (w115.heap.size + 1)) (Nat.le_succ _)).turned (Nat.le_refl _))) (.inr rfl)) ?_ (fun x d => [(5, .pointer (some ⟨bk7, 0, none⟩)), (6, .pointer (some ⟨bk12, 0, none⟩)), (7, .pointer (some ⟨bk17, 0, none⟩)), (8, .pointer (some ⟨bk31, 0, none⟩)), (11, .slice x.ao x.xs.length x.cap), (32, .int .i64 ((xs.length : Int) + 1)), (33, .int .i64 (many : Int))]) (fun x (d : Unit) W => YC (FX (FX (FX (MB mb w18.heap.size) bk12) bk17) (w115.heap.size + 1)) w18.heap.size w115.heap.size xs.length many (ShC (FX (FX (FX (MB mb w18.heap.size) bk12) bk17) (w115.heap.size + 1)) r xs w18.heap.size cO am mb cm ms.length ms bk12 bk17 w115) x W) (fun d x W W' h hl u => YC.turned ((ShC.bent (B := (w115.heap.size + 1)) (by omega) (Nat.le_succ _)).turned (Nat.le_refl _)) _ _ _ h hl u) ?_ ?_ ?_ ?_)
  ·
   intro l_ D_ R_ Rf_ W hD_ hl_ hsz hE1 hH_ hR_
   subst hD_ hl_
   refine (choices1_c w18.heap.size xs.length many (FX (FX (FX (MB mb w18.heap.size) bk12) bk17) (w115.heap.size + 1)) _ w115.heap.size (ShC (FX (FX (FX (MB mb w18.heap.size) bk12) bk17) (w115.heap.size + 1)) r xs w18.heap.size cO am mb cm ms.length ms bk12 bk17 w115) (ShF (FX (FX (FX (MB mb w18.heap.size) bk12) bk17) (w115.heap.size + 1)) r xs w18.heap.size mb ms bk12 bk17 w115) R_ Rf_ bT4 bT5 bT3 0 W ⟨fun p W W' h u => ShC.ext p W W' h u, fun p W W' h u => ShF.ext p W W' h u, ShC.bent (by omega) (by omega), ShF.bent (by omega), hH_, hT4.kx hE1, hT5.kx hE1, hT3.kx hE1, fun i h => by have := hFi i h; omega, (fun h => h.elim (fun h => h.elim (fun h => h.elim (fun h => by have := h.1; omega) (fun e => by omega)) (fun e => by omega)) (fun e => by omega)), (fun h => h.elim (fun h => h.elim (fun h => h.elim (fun h => by have := h.1; omega) (fun e => by omega)) (fun e => by omega)) (fun e => by omega)), .inr rfl, rfl, by omega, ⟨by omega, by omega⟩, by omega, by omega, by omega, ⟨hcrR.ext hE1, fun _ h => (by cases h), B125.kx hE1, B126.kx hE1, hE1.to⟩, hR_⟩).mono fun _ w9 h9 => ?_
   have h8 := (hE1.to (S := TP (FX (FX (FX (MB mb w18.heap.size) bk12) bk17) (w115.heap.size + 1)) w18.heap.size w115)).next h9.2 (fun i hi h => TP.backE hE1 hi h)
   exact h9.1.elim (fun q => .inl ⟨⟨q.1, h8⟩, q.2⟩) (fun q => .inr ⟨⟨q.1, h8⟩, q.2⟩)
  ·
   intro lq x W K127 hI hK127
   change WC _ _ _ _ _ _ [(40, .slice x.ao x.xs.length x.cap), (5, .pointer (some ⟨bk7, 0, none⟩)), (6, .pointer (some ⟨bk12, 0, none⟩)), (7, .pointer (some ⟨bk17, 0, none⟩)), (8, .pointer (some ⟨bk31, 0, none⟩)), (32, .int .i64 ((xs.length : Int) + 1)), (33, .int .i64 (many : Int)), (39, .func (.func 98) #[] #[.pointer (some ⟨bT4, 0, none⟩), .pointer (some ⟨bT5, 0, none⟩), .pointer (some ⟨bT3, 0, none⟩)])] _
   refine c_region (t_assign rfl rfl rfl (t_nil' ?_))
   exact hK127 () _ _ ⟨rfl, rfl, rfl, rfl, rfl, rfl, rfl, trivial⟩ (Upd.refl (fun _ => False) W) hI
  ·
   intro lq x d w128 hY
   have huR := hY.hc.hu
   have hlx := hY.len.1
   have hcrY0 := hY.hc.cr
   have lmbY := hcrY0.row.row.acc.lt
   have zhuR := huR.size
   have lt_x_g := hY.num.lt
   change WC _ _ _ _ _ _ [(5, .pointer (some ⟨bk7, 0, none⟩)), (6, .pointer (some ⟨bk12, 0, none⟩)), (7, .pointer (some ⟨bk17, 0, none⟩)), (8, .pointer (some ⟨bk31, 0, none⟩)), (11, .slice x.ao x.xs.length x.cap), (32, .int .i64 ((xs.length : Int) + 1)), (33, .int .i64 (many : Int))] _
   have hcellsR := (TP.cellsB (F := (FX (FX (MB mb w18.heap.size) bk12) bk17)) (pb := w18.heap.size) (B := w115.heap.size) (w := w128) hF9)
   refine c_block (c_seq fun K130 hK130 => (c_region (t_assign rfl rfl rfl (t_nil' (hK130 _ _ (c_seq fun K131 hK131 => (c_seq fun K132 hK132 => (c_region (t_move rfl rfl rfl (t_len underlying60 rfl rfl rfl rfl (t_move rfl rfl rfl (t_nil' (hK132 _ _ (c_block (c_loop (γ := Nat × Option Addr × Nat × Nat × List Leg) (fun gg => [(5, .pointer (some ⟨bk7, 0, none⟩)), (6, .pointer (some ⟨bk12, 0, none⟩)), (7, .pointer (some ⟨bk17, 0, none⟩)), (8, .pointer (some ⟨bk31, 0, none⟩)), (11, .slice x.ao x.xs.length x.cap), (12, .slice gg.2.1 gg.2.2.2.2.length gg.2.2.2.1), (32, .int .i64 ((xs.length : Int) + 1)), (33, .int .i64 (many : Int)), (41, .slice x.ao x.xs.length x.cap), (42, .int .i64 (x.xs.length : Int)), (43, .int .i64 (gg.1 : Int))]) (fun gg w => Upd (fun i => w128.heap.size ≤ i) w128 w ∧ (gg.1 ≤ x.xs.length) ∧ (Acc encLeg 7 68 w128.heap.size w gg.2.1 gg.2.2.1 gg.2.2.2.1 gg.2.2.2.2) ∧ (gg.2.2.2.2 = pickL xs (x.xs.take gg.1))) (fun gg => x.xs.length - gg.1) (0, none, 0, 0, []) ⟨rfl, rfl, rfl, rfl, rfl, rfl, rfl, rfl, rfl, rfl, rfl, trivial⟩ ⟨Upd.refl _ _, (Nat.zero_le _), (Acc.nil _ _ _ _ _ (by omega) (by omega)), rfl⟩ ?_)))))))))))))))
   intro gg w134 hW K133 hK133
   obtain ⟨j, ao, gs, cs, so⟩ := gg
   change WC _ _ _ _ _ _ [(5, .pointer (some ⟨bk7, 0, none⟩)), (6, .pointer (some ⟨bk12, 0, none⟩)), (7, .pointer (some ⟨bk17, 0, none⟩)), (8, .pointer (some ⟨bk31, 0, none⟩)), (11, .slice x.ao x.xs.length x.cap), (12, .slice ao so.length cs), (32, .int .i64 ((xs.length : Int) + 1)), (33, .int .i64 (many : Int)), (41, .slice x.ao x.xs.length x.cap), (42, .int .i64 (x.xs.length : Int)), (43, .int .i64 (j : Int))] _
   change Upd (fun i => w128.heap.size ≤ i) w128 w134 ∧ (j ≤ x.xs.length) ∧ (Acc encLeg 7 68 w128.heap.size w134 ao gs cs so) ∧ (so = pickL xs (x.xs.take j)) at hW
   obtain ⟨u135, I136, I137, I138⟩ := hW
   have zu135 := u135.size
   have hj := I136; clear I136
   have hso := I137; clear I137
   have hse := I138; clear I138
   have lt_gs := hso.lt
   have hxj := hY.len.2
   refine c_seq fun K140 hK140 => (c_region (t_cmp rfl rfl rfl rfl rfl (t_nil' (hK140 _ _ (c_seq fun K141 hK141 => (c_condp rfl (fun g44 => ?_) (fun g44 => ?_)))))))
   ·
    have hjx := hY.len.2 _ (nth_mem (xs := x.xs) (i := j) (by omega))
    have hsol : so.length = j := by rw [hse]; simp [pickL]; omega
    refine c_skip (hK141 _ _ (c_seq fun K142 hK142 => (c_block (c_seq fun K143 hK143 => (c_region ?_)))))
    have D144 := (hY.num.keep u135 (fun hb => show ¬ (w128.heap.size ≤ x.g) by first | omega | assumption | exact nTx hb))
    have i145 : j < x.xs.length := (by omega)
    refine t_index (j := j) underlying60 sizeOf3 rfl rfl rfl rfl ((D144.sl (fun _ => rfl)).addr (by omega)) rfl i145 (t_load isAgg3 rfl rfl rfl (((D144.sl (fun _ => rfl)).at_ j (by omega)) 0 _ rfl) (t_assign rfl rfl rfl (t_nil' (hK143 _ _ (c_region (t_move rfl rfl rfl ?_))))))
    have B146 := ((B119.keep huR (show ¬ (TP (FX (FX (FX (MB mb w18.heap.size) bk12) bk17) (w115.heap.size + 1)) w18.heap.size w115 bk7) by first | omega | assumption)).keep u135 (show ¬ (w128.heap.size ≤ bk7) by first | omega | assumption))
    refine t_load isAgg55 rfl rfl rfl (B146.get rfl) (t_move rfl rfl rfl ?_)
    have D147 := (((((D67.keep u70 (fun h9 => by have h7 := hxs.lt h9; show ¬ (TP (MB mb w18.heap.size) w18.heap.size w36 bx); first | omega | exact TP.belowM (by omega) | exact hnx h9 | exact hnx2 h9)).keep u100 (fun h9 => by have h7 := hxs.lt h9; show ¬ (TP (FX (FX (MB mb w18.heap.size) bk12) bk17) w18.heap.size w69 bx); first | omega | exact TP.belowM (by omega) | exact hnx h9 | exact hnx2 h9)).kE u116).keep huR (fun h9 => by have h7 := hxs.lt h9; show ¬ (TP (FX (FX (FX (MB mb w18.heap.size) bk12) bk17) (w115.heap.size + 1)) w18.heap.size w115 bx); first | omega | exact TP.belowM (by omega) | exact hnx h9 | exact hnx2 h9)).keep u135 (fun h9 => by have h7 := hxs.lt h9; show ¬ (w128.heap.size ≤ bx); first | omega | exact TP.belowM (by omega) | exact hnx h9 | exact hnx2 h9))
    have i148 : (nth x.xs j).toNat < xs.length := (by omega)
    refine t_index (j := (nth x.xs j).toNat) underlying55 sizeOf68 rfl rfl rfl rfl (D147.addr (by omega)) (by omega) i148 (t_loadN (vs := [.int .i64 ((nth xs ((nth x.xs j).toNat)).r), .int .i64 ((nth xs ((nth x.xs j).toNat)).t.bl), .int .i64 ((nth xs ((nth x.xs j).toNat)).t.bh), .int .i64 ((nth xs ((nth x.xs j).toNat)).t.el), .int .i64 ((nth xs ((nth x.xs j).toNat)).t.eh), .int .i64 ((nth xs ((nth x.xs j).toNat)).h), .int .i64 ((nth xs ((nth x.xs j).toNat)).p)]) isAgg68 sizeOf68 rfl rfl rfl ((D147.at_ ((nth x.xs j).toNat) (by omega)).sub 0 7) rfl (t_bslice (ps := [(0, .agg #[.int .i64 ((nth xs ((nth x.xs j).toNat)).r), .int .i64 ((nth xs ((nth x.xs j).toNat)).t.bl), .int .i64 ((nth xs ((nth x.xs j).toNat)).t.bh), .int .i64 ((nth xs ((nth x.xs j).toNat)).t.el), .int .i64 ((nth xs ((nth x.xs j).toNat)).t.eh), .int .i64 ((nth xs ((nth x.xs j).toNat)).h), .int .i64 ((nth xs ((nth x.xs j).toNat)).p)])]) (cs := [.int .i64 ((nth xs ((nth x.xs j).toNat)).r), .int .i64 ((nth xs ((nth x.xs j).toNat)).t.bl), .int .i64 ((nth xs ((nth x.xs j).toNat)).t.bh), .int .i64 ((nth xs ((nth x.xs j).toNat)).t.el), .int .i64 ((nth xs ((nth x.xs j).toNat)).t.eh), .int .i64 ((nth xs ((nth x.xs j).toNat)).h), .int .i64 ((nth xs ((nth x.xs j).toNat)).p)]) (e := 68) rfl rfl ⟨rfl, rfl⟩ (fun w => by kernel_rfl) (fun bk149 w150 ebk149 sbk149 B151 u152 => ?_)))
    have zu152 := u152.size
    have D154 := (hso.kE u152)
    refine t_append (z := .agg #[.int .i64 0, .int .i64 0, .int .i64 0, .int .i64 0, .int .i64 0, .int .i64 0, .int .i64 0]) (bytes := 56) (k := 7) (base := w128.heap.size) (nth xs (nth x.xs j).toNat) underlying55 (by kernel_rfl) rfl (by decide) (fun _ => rfl) (by intro x; simp [encLeg, Value.oneCell']) rfl rfl rfl rfl D154 B151 (by omega) (by omega) (by decide) (fun ao155 gb156 cp157 w158 A159 u160 gegb156 lngb156 => ?_)
    have zu160 := u160.size
    have lt_gb156 := A159.lt
    refine t_assign rfl rfl rfl (t_nil' (hK142 _ _ (c_region (t_ari rfl rfl rfl rfl rfl (by omega) (t_move rfl rfl rfl (t_nil' ?_))))))
    exact hK133 (j + 1, ao155, gb156, cp157, (so ++ [(nth xs (nth x.xs j).toNat)])) _ _ (by show x.xs.length - (j + 1) < x.xs.length - j; omega) ⟨rfl, rfl, rfl, rfl, rfl, rfl, rfl, rfl, rfl, rfl, rfl, trivial⟩ ⟨((u135.nx u152).next u160 (fun i hi (h : (i = gs ∧ w128.heap.size ≤ i)) => show w128.heap.size ≤ i by first | omega | assumption | exact TP.back (by assumption) hi h | exact TP.back (by assumption) hi h.fx.fx | exact h.elim (fun h => by have := h.2; omega) (fun h => by have := h.1; omega) | exact h.elim (fun h => h.elim (fun h => h.elim (fun h => by have := h.1; have := h.2; omega) (fun h => by omega)) (fun h => by omega)) (fun h => by have := h.1; omega) | exact Or.inl (Or.inl (Or.inr h)) | exact Or.inl (Or.inr h))), (by omega), A159, (by rw [hse, take_nth (by omega)]; simp [pickL])⟩
   have hje : so = pickL xs x.xs := by rw [hse, List.take_of_length_le (by omega)]
   rw [hje] at hso
   refine c_same 12 (v := .slice ao ((pickL xs x.xs).length) cs) rfl (by rw [hje]) ?_
   have lt_gs := hso.lt
   refine c_exit (hK131 _ _ (c_seq fun K162 hK162 => (c_region ?_)))
   have B163 := ((B121.keep huR (show ¬ (TP (FX (FX (FX (MB mb w18.heap.size) bk12) bk17) (w115.heap.size + 1)) w18.heap.size w115 bk31) by first | omega | assumption)).keep u135 (show ¬ (w128.heap.size ≤ bk31) by first | omega | assumption))
   refine t_load isAgg117 rfl rfl rfl (B163.get rfl) (t_move rfl rfl rfl ?_)
   have hcS_w134 := (hcrY0.ext ((Upd.refl (fun _ => False) _).next u135 (fun i hi (h : w128.heap.size ≤ i) => show False by first | omega | assumption)))
   have uPB : Upd (TP (FX (FX (MB mb w18.heap.size) bk12) bk17) w18.heap.size w128) w128 w134 := ((Upd.refl (TP (FX (FX (MB mb w18.heap.size) bk12) bk17) w18.heap.size w128) _).next u135 (fun i hi h => by omega))
   have nTb165 : ¬ TP (MB mb w18.heap.size) w18.heap.size w134 bk7 := TP.belowM (by omega)
   have B166 := (hY.hc.b6.keep u135 (show ¬ (w128.heap.size ≤ bk12) by first | omega | assumption))
   have nTb167 : ¬ TP (MB mb w18.heap.size) w18.heap.size w134 bk12 := TP.belowM (by omega)
   have B168 := (hY.hc.b7.keep u135 (show ¬ (w128.heap.size ≤ bk17) by first | omega | assumption))
   have nTb169 : ¬ TP (MB mb w18.heap.size) w18.heap.size w134 bk17 := TP.belowM (by omega)
   have nTb170 : ¬ TP (MB mb w18.heap.size) w18.heap.size w134 bk31 := TP.not (fun h => h8m h) B163 (by decide)
   have hsoA := hso
   have hnl : ∀ y ∈ pickL xs x.xs, okLeg y = true := fun y hy => by
     obtain ⟨i, hi, rfl⟩ := List.mem_map.1 hy
     have := hY.len.2 i hi; exact h9 _ (nth_mem (by omega))
   have hpl : (pickL xs x.xs).length = x.xs.length := List.length_map ..
   have hcrY := hY.hc.cr
   have D171 := (hY.num.keep u135 (fun hb => show ¬ (w128.heap.size ≤ x.g) by first | omega | assumption | exact nTx hb))
   have nTx : w18.heap.size ≤ x.g → ¬ TP (MB mb w18.heap.size) w18.heap.size w134 x.g := (D171).notTP (fun hb hm => hY.nf hb (.inl (.inl (.inl hm)))) (by decide)
   refine t_call own70 rfl rfl rfl rfl (safe_c r w18.heap.size cO am mb cm ms.length 20 ms (pickL xs x.xs) ao gs 0 cs _ (hcrY0.ext ((Upd.refl (fun _ => False) _).next u135 (fun i hi (h : w128.heap.size ≤ i) => show False by first | omega | assumption))) hnl (by omega) (by omega) (hsoA.sl (fun _ => rfl)) hsoA.cap_le (fun hp hb => by
     have h1 : w128.heap.size ≤ gs := hsoA.at_.elim (fun q => by rw [q.2.1] at hp; cases hp) (fun q => q.2.1)
     obtain ⟨cs, hB⟩ := hsoA.blkT h1
     exact ⟨fun e => by have := hcrY.row.row.acc.lt; omega, _, cs, by decide, hB⟩)) (fun v172 w173 r175 => ?_)
   obtain ⟨rfl, hrowS, u174⟩ := r175
   have zu174 := u174.size
   have hcr177 : CrewM r w18.heap.size cO am mb cm ms.length 20 ms w173 := ⟨hcr.hr, hrowS, hcr.hn, hcr.hB, ⟨hcr.hpb.1, by omega⟩, hcr.hc⟩
   refine t_not rfl rfl rfl (t_nil' (hK162 _ _ (c_cond rfl (fun g58 => ?_) (fun g58 => ?_))))
   ·
    have hsq : sfP r (pickL xs x.xs) (ms.map HM.mb) = false := by unfold sfP; simpa using g58
    refine c_seq fun K178 hK178 => (c_region (t_move rfl rfl rfl ?_))
    have B179 := (B166.keep u174 (show ¬ (TP (MB mb w18.heap.size) w18.heap.size w134 bk12) by first | omega | assumption))
    refine t_st (vs := [.slice x.ao x.xs.length x.cap]) sizeOf60 rfl rfl rfl B179 rfl rfl rfl rfl (fun w180 sw180 B182 u181 => ?_)
    have zu181 := u181.size
    have B182 : Blk w180 bk12 60 [.slice x.ao x.xs.length x.cap] := B182
    have B184 := ((B168.keep u174 (show ¬ (TP (MB mb w18.heap.size) w18.heap.size w134 bk17) by first | omega | assumption)).keep u181 (by omega))
    refine t_st (vs := [.int .i64 0]) sizeOf27 rfl rfl rfl B184 rfl rfl rfl rfl (fun w185 sw185 B187 u186 => ?_)
    have zu186 := u186.size
    have B187 : Blk w185 bk17 27 [.int .i64 0] := B187
    refine t_nil' (hK178 _ _ (c_ret ?_))
    have hUr := (((((Upd.refl (fun i => TP (FX (FX (MB mb w18.heap.size) bk12) bk17) w18.heap.size w128 i) w128).next u135 (fun i hi (h : w128.heap.size ≤ i) => show TP (FX (FX (MB mb w18.heap.size) bk12) bk17) w18.heap.size w128 i by first | omega | assumption | exact TP.back (by assumption) hi h | exact TP.back (by assumption) hi h.fx.fx | exact h.elim (fun h => by have := h.2; omega) (fun h => by have := h.1; omega) | exact h.elim (fun h => h.elim (fun h => h.elim (fun h => by have := h.1; have := h.2; omega) (fun h => by omega)) (fun h => by omega)) (fun h => by have := h.1; omega) | exact Or.inl (Or.inl (Or.inr h)) | exact Or.inl (Or.inr h))).next u174 (fun i hi (h : TP (MB mb w18.heap.size) w18.heap.size w134 i) => show TP (FX (FX (MB mb w18.heap.size) bk12) bk17) w18.heap.size w128 i by first | omega | assumption | exact TP.back (by assumption) hi h | exact TP.back (by assumption) hi h.fx.fx | exact h.elim (fun h => by have := h.2; omega) (fun h => by have := h.1; omega) | exact h.elim (fun h => h.elim (fun h => h.elim (fun h => by have := h.1; have := h.2; omega) (fun h => by omega)) (fun h => by omega)) (fun h => by have := h.1; omega) | exact Or.inl (Or.inl (Or.inr h)) | exact Or.inl (Or.inr h))).next u181 (fun i hi (h : i = bk12) => show TP (FX (FX (MB mb w18.heap.size) bk12) bk17) w18.heap.size w128 i by first | omega | assumption | exact TP.back (by assumption) hi h | exact TP.back (by assumption) hi h.fx.fx | exact h.elim (fun h => by have := h.2; omega) (fun h => by have := h.1; omega) | exact h.elim (fun h => h.elim (fun h => h.elim (fun h => by have := h.1; have := h.2; omega) (fun h => by omega)) (fun h => by omega)) (fun h => by have := h.1; omega) | exact Or.inl (Or.inl (Or.inr h)) | exact Or.inl (Or.inr h))).next u186 (fun i hi (h : i = bk17) => show TP (FX (FX (MB mb w18.heap.size) bk12) bk17) w18.heap.size w128 i by first | omega | assumption | exact TP.back (by assumption) hi h | exact TP.back (by assumption) hi h.fx.fx | exact h.elim (fun h => by have := h.2; omega) (fun h => by have := h.1; omega) | exact h.elim (fun h => h.elim (fun h => h.elim (fun h => by have := h.1; have := h.2; omega) (fun h => by omega)) (fun h => by omega)) (fun h => by have := h.1; omega) | exact Or.inl (Or.inl (Or.inr h)) | exact Or.inl (Or.inr h)))
    have uW : Upd (TP (FX (FX (FX (MB mb w18.heap.size) bk12) bk17) (w115.heap.size + 1)) w18.heap.size w128) _ _ := hUr.mono (fun i h => h.fx)
    have B189 := (B182.keep u186 (by omega))
    have D190 := (((D171.keep u174 (fun hb => show ¬ (TP (MB mb w18.heap.size) w18.heap.size w134 x.g) by first | omega | assumption | exact nTx hb)).keep u181 (fun hb => show ¬ (x.g = bk12) by first | omega | assumption | exact nTx hb)).keep u186 (fun hb => show ¬ (x.g = bk17) by first | omega | assumption | exact nTx hb))
    exact fun a ha => ⟨KeepsFrom.of_updB hUr hcellsR, (⟨⟨hY.hc.ok, hsq, ⟨_, _, _, B189, D190⟩, B187, hY.hc.hu.next uW (fun i hi h => TP.back hY.hc.hu hi h)⟩, (hY.upd.mono fun i e => .inl (.inr e)).next uW (fun i hi h => TP.back (hY.upd.mono fun i e => .inl (.inr e)) hi h)⟩ : FC (FX (FX (FX (MB mb w18.heap.size) bk12) bk17) (w115.heap.size + 1)) w18.heap.size (ShF (FX (FX (FX (MB mb w18.heap.size) bk12) bk17) (w115.heap.size + 1)) r xs w18.heap.size mb ms bk12 bk17 w115) x _)⟩
   have hsq : sfP r (pickL xs x.xs) (ms.map HM.mb) = true := by unfold sfP; simpa using g58
   refine c_skip ?_
   have hUr := (((Upd.refl (fun i => TP (FX (FX (MB mb w18.heap.size) bk12) bk17) w18.heap.size w128 i) w128).next u135 (fun i hi (h : w128.heap.size ≤ i) => show TP (FX (FX (MB mb w18.heap.size) bk12) bk17) w18.heap.size w128 i by first | omega | assumption | exact TP.back (by assumption) hi h | exact TP.back (by assumption) hi h.fx.fx | exact h.elim (fun h => by have := h.2; omega) (fun h => by have := h.1; omega) | exact h.elim (fun h => h.elim (fun h => h.elim (fun h => by have := h.1; have := h.2; omega) (fun h => by omega)) (fun h => by omega)) (fun h => by have := h.1; omega) | exact Or.inl (Or.inl (Or.inr h)) | exact Or.inl (Or.inr h))).next u174 (fun i hi (h : TP (MB mb w18.heap.size) w18.heap.size w134 i) => show TP (FX (FX (MB mb w18.heap.size) bk12) bk17) w18.heap.size w128 i by first | omega | assumption | exact TP.back (by assumption) hi h | exact TP.back (by assumption) hi h.fx.fx | exact h.elim (fun h => by have := h.2; omega) (fun h => by have := h.1; omega) | exact h.elim (fun h => h.elim (fun h => h.elim (fun h => by have := h.1; have := h.2; omega) (fun h => by omega)) (fun h => by omega)) (fun h => by have := h.1; omega) | exact Or.inl (Or.inl (Or.inr h)) | exact Or.inl (Or.inr h)))
   have uW : Upd (TP (FX (FX (FX (MB mb w18.heap.size) bk12) bk17) (w115.heap.size + 1)) w18.heap.size w128) _ _ := hUr.mono (fun i h => h.fx)
   have B191 := (B166.keep u174 (show ¬ (TP (MB mb w18.heap.size) w18.heap.size w134 bk12) by first | omega | assumption))
   have B192 := (B168.keep u174 (show ¬ (TP (MB mb w18.heap.size) w18.heap.size w134 bk17) by first | omega | assumption))
   exact fun a ha => ⟨KeepsFrom.of_updB hUr hcellsR, (⟨⟨hcr177, fun q hq => (List.mem_append.1 hq).elim (hY.hc.ok q) (fun e => by rw [List.mem_singleton.1 e]; exact hsq), B191, B192, hY.hc.hu.next uW (fun i hi h => TP.back hY.hc.hu hi h)⟩, (hY.upd.mono fun i e => .inl (.inr e)).next uW (fun i hi h => TP.back (hY.upd.mono fun i e => .inl (.inr e)) hi h)⟩ : ZC (FX (FX (FX (MB mb w18.heap.size) bk12) bk17) (w115.heap.size + 1)) w18.heap.size (ShC (FX (FX (FX (MB mb w18.heap.size) bk12) bk17) (w115.heap.size + 1)) r xs w18.heap.size cO am mb cm ms.length ms bk12 bk17 w115) x _)⟩
  ·
   have hmk0 := (hmkl.keep ((Upd.refl (fun _ => False) _).nx u116) (CellsIn.none _))
   have hmc0 := (sh_cells (by omega) B125 B126 hcrR)
   intro D194 w193 hD194 hE hdD194
   have hu9 : Upd (TP (FX (FX (MB mb w18.heap.size) bk12) bk17) w18.heap.size w115) w115 w193 := ⟨hE.hu.os, hE.hu.tape, hE.hu.output, hE.hu.size, fun k hk hn => hE.hu.block k hk (fun h => hn (h.unfx (by omega)))⟩
   have zhu9 := hu9.size
   obtain ⟨pr9, v9, po9, e9, hf9⟩ := hE.hi
   obtain ⟨aoF, gF, cpF, hbF, haF⟩ := hf9.b6
   have mk196 := (hmk0.keepB hu9 hmc0).push (D := D194) (by omega) hdD194 (fun d hd D' e => Nat.lt_of_lt_of_le (hmk0.lt d hd D' e) hD194)
   have hmkE := mk196
   refine f_retMc2 (v1 := .slice aoF (List.length v9) cpF) (v2 := .int .i64 0) results37 (.cell mk196 rfl isAgg60 hbF rfl) (.cell mk196 rfl isAgg27 hf9.b7 rfl) mk196 (fun w197 u198 omw197 => ?_)
   have zu198 := u198.size
   have E199 := ((E107.nx u116).next hu9 (fun i hi (h : TP (FX (FX (MB mb w18.heap.size) bk12) bk17) w18.heap.size w115 i) => show False by first | omega | assumption | exact TP.back (by assumption) hi h | exact TP.back (by assumption) hi h.fx.fx | exact h.elim (fun h => by have := h.2; omega) (fun h => by have := h.1; omega) | exact h.elim (fun h => h.elim (fun h => h.elim (fun h => by have := h.1; have := h.2; omega) (fun h => by omega)) (fun h => by omega)) (fun h => by have := h.1; omega) | exact Or.inl (Or.inl (Or.inr h)) | exact Or.inl (Or.inr h))).next u198 (fun i hi (h : w0.heap.size ≤ i) => show False by first | omega | assumption | exact TP.back (by assumption) hi h | exact TP.back (by assumption) hi h.fx.fx | exact h.elim (fun h => by have := h.2; omega) (fun h => by have := h.1; omega) | exact h.elim (fun h => h.elim (fun h => h.elim (fun h => by have := h.1; have := h.2; omega) (fun h => by omega)) (fun h => by omega)) (fun h => by have := h.1; omega) | exact Or.inl (Or.inl (Or.inr h)) | exact Or.inl (Or.inr h))
   have haZ := haF.keep omw197 (fun hb q => by
     obtain ⟨cs, hB⟩ := haF.blkT hb
     exact hmkE.notBlk hB q)
   rw [hma] at hsf hfew
   have hok9 := hf9.ok
   have hno9 := hf9.no
   rw [hma] at hok9 hno9
   exact ⟨⟨aoF, gF, cpF, v9, 0, rfl, haZ.sl (fun _ => rfl), .inr (.inr (.inl ⟨h0, hsf, rfl, many, pr9, po9, by omega, hfew, e9, hok9, hno9⟩))⟩, E199⟩
  ·
   have hmk0 := (hmkl.keep ((Upd.refl (fun _ => False) _).nx u116) (CellsIn.none _))
   have hmc0 := (sh_cells (by omega) B125 B126 hcrR)
   intro D201 w200 hD201 hE hdD201
   have hu9 : Upd (TP (FX (FX (MB mb w18.heap.size) bk12) bk17) w18.heap.size w115) w115 w200 := ⟨hE.hu.os, hE.hu.tape, hE.hu.output, hE.hu.size, fun k hk hn => hE.hu.block k hk (fun h => hn (h.unfx (by omega)))⟩
   have zhu9 := hu9.size
   have mk203 := (hmk0.keepB hu9 hmc0).push (D := D201) (by omega) hdD201 (fun d hd D' e => Nat.lt_of_lt_of_le (hmk0.lt d hd D' e) hD201)
   refine hK110 _ _ (c_region (t_ari rfl rfl rfl rfl rfl (by omega) (t_move rfl rfl rfl (t_nil' ?_))))
   exact hK98 (many + 1, (mark D201 :: dl)) _ _ (by show xs.length + 1 - (many + 1) < xs.length + 1 - many; omega) ⟨rfl, rfl, rfl, rfl, rfl, rfl, trivial⟩ ⟨((u100.nx u116).next hu9 (fun i hi (h : TP (FX (FX (MB mb w18.heap.size) bk12) bk17) w18.heap.size w115 i) => show TP (FX (FX (MB mb w18.heap.size) bk12) bk17) w18.heap.size w69 i by first | omega | assumption | exact TP.back (by assumption) hi h | exact TP.back (by assumption) hi h.fx.fx | exact h.elim (fun h => by have := h.2; omega) (fun h => by have := h.1; omega) | exact h.elim (fun h => h.elim (fun h => h.elim (fun h => by have := h.1; have := h.2; omega) (fun h => by omega)) (fun h => by omega)) (fun h => by have := h.1; omega) | exact Or.inl (Or.inl (Or.inr h)) | exact Or.inl (Or.inr h))), hE.hi.b6, hE.hi.b7, (by omega), hE.hi.cr, (fun m hm l hl => by
     rcases Nat.lt_or_ge m many with h | h
     · exact hfew m h l hl
     · rw [show m = many by omega] at hl; exact hE.hi.ok l hl), mk203⟩
 refine c_exit (hK90 _ _ (c_seq fun K204 hK204 => (c_region (t_st (vs := [.slice none 0 0]) sizeOf60 rfl rfl rfl I101 rfl rfl rfl rfl (fun w205 sw205 B207 u206 => ?_)))))
 have zu206 := u206.size
 have B207 : Blk w205 bk12 60 [.slice none 0 0] := B207
 have B209 := (I102.keep u206 (by omega))
 refine t_st (vs := [.int .i64 9]) sizeOf27 rfl rfl rfl B209 rfl rfl rfl rfl (fun w210 sw210 B212 u211 => ?_)
 have zu211 := u211.size
 have B212 : Blk w210 bk17 27 [.int .i64 9] := B212
 refine t_nil' (hK204 _ _ (c_ret ?_))
 have B214 := (B207.keep u211 (by omega))
 have D217 := ((hmkl.keepB u206 (CellsB.of (I101).cellsIn)).keepB u211 (CellsB.of (B209).cellsIn))
 have hmkE := D217
 refine f_retMc2 (v1 := .slice none 0 0) (v2 := .int .i64 9) results37 (.cell D217 rfl isAgg60 B214 rfl) (.cell D217 rfl isAgg27 B212 rfl) D217 (fun w215 u216 omw215 => ?_)
 have zu216 := u216.size
 exact ⟨⟨none, 0, 0, [], _, rfl, Sl.nil _ _ _ _ _ _, .inr (.inr (.inr ⟨h0, by rw [← hma]; exact hsf, by rw [← hma, ← show many = xs.length + 1 by omega]; exact hfew, rfl, rfl⟩))⟩, (((E107.next u206 (fun i hi h => by omega)).next u211 (fun i hi h => by omega)).next u216 (fun i hi (h : w0.heap.size ≤ i) => show False by first | omega | assumption | exact TP.back (by assumption) hi h | exact TP.back (by assumption) hi h.fx.fx | exact h.elim (fun h => by have := h.2; omega) (fun h => by have := h.1; omega) | exact h.elim (fun h => h.elim (fun h => h.elim (fun h => by have := h.1; have := h.2; omega) (fun h => by omega)) (fun h => by omega)) (fun h => by have := h.1; omega) | exact Or.inl (Or.inl (Or.inr h)) | exact Or.inl (Or.inr h)))⟩

end Go.Proofs.YtagmodjadmecdaaGreat
