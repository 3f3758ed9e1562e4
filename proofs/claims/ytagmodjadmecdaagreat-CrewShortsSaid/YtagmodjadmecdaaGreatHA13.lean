/-
  The iterator over choices. Conditions: none.
-/
import Derived.Test.YtagmodjadmecdaaGreatHA12
namespace Go.Proofs.YtagmodjadmecdaaGreat
open Go Go.RowKit Tryz

def chP (n : Nat) : Nat → Nat → List (List Int)
  | 0, _ => [[]]
  | m + 1, i => (List.range' i (n - m - i)).flatMap fun i => (chP n m (i + 1)).map ((i : Int) :: ·)
theorem ch_end {n m i : Nat} (hm : 0 < m) (h : n < i + m) : chP n m i = [] := by
  cases m with
  | zero => cases hm
  | succ m => unfold chP; rw [show n - m - i = 0 by omega]; rfl
theorem ch_step {n m i : Nat} (hm : 0 < m) (h : i + m ≤ n) : chP n m i = (chP n (m - 1) (i + 1)).map ((i : Int) :: ·) ++ chP n m (i + 1) := by
  cases m with
  | zero => cases hm
  | succ m => rw [chP, show n - m - i = (n - m - (i + 1)) + 1 by omega, List.range'_succ, List.flatMap_cons, chP]; rfl
structure HC where
  pre : List (List Int)
  xs : List Int
  ao : Option Addr
  g : Nat
  cap : Nat
  w : World
def encHC (x : HC) : Value := .slice x.ao x.xs.length x.cap
structure YC (F : Nat → Prop) (pb D n m : Nat) (C : List (List Int) → World → Prop) (x : HC) (W : World) : Prop where
  hc : C x.pre W
  num : Acc encI 1 3 pb W x.ao x.g x.cap x.xs
  nf : pb ≤ x.g → ¬ F x.g
  len : x.xs.length ≤ m ∧ ∀ i ∈ x.xs, 0 ≤ i ∧ i < (n : Int)
  hD : D + 1 < W.heap.size
  upd : Upd (· = D + 1) x.w W
structure ZC (F : Nat → Prop) (pb : Nat) (C : List (List Int) → World → Prop) (x : HC) (W : World) : Prop where
  hc : C (x.pre ++ [x.xs]) W
  upd : Upd (TP F pb x.w) x.w W
structure FC (F : Nat → Prop) (pb : Nat) (Cf : List (List Int) × List Int → World → Prop) (x : HC) (W : World) : Prop where
  hc : Cf (x.pre, x.xs) W
  upd : Upd (TP F pb x.w) x.w W
def EndC (ts : List (List Int)) (Cf : List (List Int) × List Int → World → Prop) (W : World) : Prop := ∃ pre v post, ts = pre ++ v :: post ∧ Cf (pre, v) W
theorem YC.turned {F : Nat → Prop} {pb D n m : Nat} {C : List (List Int) → World → Prop} (hC : Turned (D + 1) C) : Turned (D + 1) (YC F pb D n m C) := fun x W W' h hl u =>
  ⟨hC _ _ _ h.hc hl u, h.num.keep u (h.num.notLoop hl), h.nf, h.len, Nat.lt_of_lt_of_le h.hD u.size, h.upd.trans u⟩
theorem ZC.turned {F : Nat → Prop} {pb l : Nat} {C : List (List Int) → World → Prop} (hC : Turned l C) (hT : F l) : Turned l (ZC F pb C) := fun x W W' h hl u => ⟨hC _ _ _ h.hc hl u, tp_turn h.upd hT u⟩
theorem FC.turned {F : Nat → Prop} {pb l : Nat} {C : List (List Int) × List Int → World → Prop} (hC : Turned l C) (hT : F l) : Turned l (FC F pb C) := fun x W W' h hl u => ⟨hC _ _ _ h.hc hl u, tp_turn h.upd hT u⟩
theorem EndC.turned {ts : List (List Int)} {Cf : List (List Int) × List Int → World → Prop} {l : Nat} (h : Turned l Cf) : Turned l (fun (_ : Unit) W => EndC ts Cf W) := fun _ W W' ⟨pre, v, post, e, hc⟩ hr u => ⟨pre, v, post, e, h _ _ _ hc hr u⟩
structure ChP (P : Program) (pb n : Nat) (F : Nat → Prop) (l D : Nat) (C : List (List Int) → World → Prop) (Cf : List (List Int) × List Int → World → Prop) (R Rf : World → Prop) (b4 b5 b3 m i0 : Nat) (w0 : World) : Prop where
  hC : ∀ pre W W', C pre W → Ext W W' → C pre W'
  hCf : ∀ p W W', Cf p W → Ext W W' → Cf p W'
  hCt : Bent w0.heap.size C
  hCft : Bent w0.heap.size Cf
  hH : HandsL P l D encHC (YC F pb D n m C) (ZC F pb C) (FC F pb Cf) R Rf
  h4 : Blk w0 b4 3 [.int .i64 (m : Int)]
  h5 : Blk w0 b5 3 [.int .i64 (i0 : Int)]
  h3 : Blk w0 b3 3 [.int .i64 (n : Int)]
  hF : ∀ i, F i → i < w0.heap.size
  n4 : ¬ F b4
  n3 : ¬ F b3
  hFl : F l
  hl : l = D + 1
  hD : D + 1 < w0.heap.size
  hpb : 0 < pb ∧ pb ≤ D
  hn : n ≤ 20
  hm : m ≤ 20
  hi : i0 ≤ 20
  c0 : C [] w0
  r0 : R w0
def ChQ (n : Nat) (F : Nat → Prop) (pb : Nat) (C : List (List Int) → World → Prop) (Cf : List (List Int) × List Int → World → Prop) (R Rf : World → Prop) (m i0 : Nat) (w0 w' : World) : Prop :=
  ((C (chP n m i0) w' ∧ R w') ∨ (EndC (chP n m i0) Cf w' ∧ Rf w')) ∧ Upd (TP F pb w0) w0 w'
def ChoicesQ (P : Program) (pb n m : Nat) : Prop := ∀ F l D C Cf R Rf b4 b5 b3 i0 w0, ChP P pb n F l D C Cf R Rf b4 b5 b3 m i0 w0 →
  CallsV P 98 [.func (.yield l) #[] #[], .pointer (some ⟨b4, 0, none⟩), .pointer (some ⟨b5, 0, none⟩), .pointer (some ⟨b3, 0, none⟩)] w0 (fun _ w' => ChQ n F pb C Cf R Rf m i0 w0 w')
structure DX (F : Nat → Prop) (pb : Nat) (wR : World) (C : List (List Int) → World → Prop) (R : World → Prop) (ts : List (List Int)) (k : Nat) (pre : List (List Int)) (W : World) : Prop where
  hc : C (ts ++ pre.map ((k : Int) :: ·)) W
  hr : R W
  hu : Upd (TP F pb wR) wR W
structure DfX (F : Nat → Prop) (pb : Nat) (wR : World) (Cf : List (List Int) × List Int → World → Prop) (Rf : World → Prop) (ts : List (List Int)) (k : Nat) (p : List (List Int) × List Int) (W : World) : Prop where
  hc : Cf (ts ++ p.1.map ((k : Int) :: ·), (k : Int) :: p.2) W
  hr : Rf W
  hu : Upd (TP F pb wR) wR W
theorem DX.bent {F : Nat → Prop} {pb B B' k : Nat} {wR : World} {C : List (List Int) → World → Prop} {R : World → Prop} {ts : List (List Int)} (hC : Bent B C) (hR : Bent B (fun (_ : Unit) W => R W)) (hb : B ≤ B') (hw : wR.heap.size ≤ B') : Bent B' (DX F pb wR C R ts k) := fun x W W' S h u hS =>
  ⟨(hC.mono hb) _ _ _ _ h.hc u hS, (hR.mono hb) () _ _ _ h.hr u hS, h.hu.next u (fun i hi hs => by have := (hS i hs).1; omega)⟩
theorem DfX.bent {F : Nat → Prop} {pb B B' k : Nat} {wR : World} {C : List (List Int) × List Int → World → Prop} {R : World → Prop} {ts : List (List Int)} (hC : Bent B C) (hR : Bent B (fun (_ : Unit) W => R W)) (hb : B ≤ B') (hw : wR.heap.size ≤ B') : Bent B' (DfX F pb wR C R ts k) := fun x W W' S h u hS =>
  ⟨(hC.mono hb) _ _ _ _ h.hc u hS, (hR.mono hb) () _ _ _ h.hr u hS, h.hu.next u (fun i hi hs => by have := (hS i hs).1; omega)⟩
theorem bentR' {γ : Type} {P : Program} {l D B : Nat} {enc : γ → Value} {Y Z Zf : γ → World → Prop} {R Rf : World → Prop} (h : HandsL P l D enc Y Z Zf R Rf) (hl : l < B) (hD : D < B) : Bent B (fun (_ : Unit) W => R W) ∧ Bent B (fun (_ : Unit) W => Rf W) :=
  ⟨fun _ W W' S hr u hS => h.keep hr u (fun q => by have := (hS _ q).1; omega) (fun q => by have := (hS _ q).1; omega), fun _ W W' S hr u hS => h.keepf hr u (fun q => by have := (hS _ q).1; omega) (fun q => by have := (hS _ q).1; omega)⟩
structure EC (F : Nat → Prop) (pb : Nat) (wR : World) (I : World → Prop) (W : World) : Prop where
  hi : I W
  hu : Upd (TP F pb wR) wR W
theorem EC.turned {F : Nat → Prop} {pb l : Nat} {wR : World} {I : World → Prop} (hI : Turned l (fun (_ : Unit) W => I W)) (hl : F l) : Turned l (fun (_ : Unit) W => EC F pb wR I W) := fun _ W W' h hr u => ⟨hI () _ _ h.hi hr u, tp_turn h.hu hl u⟩
theorem own71 : Own Tryz.prog 71 := ⟨Tryz.f71, func71, by kernel_rfl, by kernel_rfl⟩
theorem own98 : Own Tryz.prog 98 := ⟨Tryz.f98, func98, by kernel_rfl, by kernel_rfl⟩

theorem choices_c (n m i : Int) (w0 : World) :
    CallsV Tryz.prog 71 [.int .i64 n, .int .i64 m, .int .i64 i] w0 (fun v w' => (∃ b4 b5 b3, v = .func (.func 98) #[] #[.pointer (some ⟨b4, 0, none⟩), .pointer (some ⟨b5, 0, none⟩), .pointer (some ⟨b3, 0, none⟩)] ∧ Blk w' b4 3 [.int .i64 m] ∧ Blk w' b5 3 [.int .i64 i] ∧ Blk w' b3 3 [.int .i64 n] ∧ w0.heap.size ≤ b4 ∧ w0.heap.size ≤ b5 ∧ w0.heap.size ≤ b3) ∧ Ext w0 w') := by
 refine f_enter (N := 8) func71 rfl rfl rfl (c_seq fun K1 hK1 => (c_region (t_box (cs := [.int .i64 n]) rfl rfl rfl rfl (fun bk2 w3 ebk2 sbk2 B4 u5 => ?_))))
 have zu5 := u5.size
 refine t_box (cs := [.int .i64 m]) rfl rfl rfl rfl (fun bk7 w8 ebk7 sbk7 B9 u10 => ?_)
 have zu10 := u10.size
 refine t_box (cs := [.int .i64 i]) rfl rfl rfl rfl (fun bk12 w13 ebk12 sbk12 B14 u15 => ?_)
 have zu15 := u15.size
 refine t_assign rfl rfl rfl (t_nil' (hK1 _ _ (c_seq fun K17 hK17 => (c_region (t_mkfunc (vs := []) (us := [.pointer (some ⟨bk7, 0, none⟩), .pointer (some ⟨bk12, 0, none⟩), .pointer (some ⟨bk2, 0, none⟩)]) rfl rfl rfl rfl (t_assign rfl rfl rfl (t_nil' (hK17 _ _ (c_ret (f_ret1 (v := .func (.func 98) #[] #[.pointer (some ⟨bk7, 0, none⟩), .pointer (some ⟨bk12, 0, none⟩), .pointer (some ⟨bk2, 0, none⟩)]) results71 rfl ?_))))))))))
 have B18 := (B9.kx u15)
 have B19 := ((B4.kx u10).kx u15)
 exact ⟨⟨bk7, bk12, bk2, rfl, B18, B14, B19, by omega, by omega, by omega⟩, ((((Upd.refl (fun _ => False) w0).nx u5).nx u10).nx u15)⟩

set_option maxHeartbeats 1000000 in
theorem choices1_s (pb n m : Nat) (F : Nat → Prop) (l D : Nat) (C : List (List Int) → World → Prop) (Cf : List (List Int) × List Int → World → Prop) (R Rf : World → Prop) (b4 b5 b3 i0 : Nat) (w0 : World) (hp : ChP Tryz.prog pb n F l D C Cf R Rf b4 b5 b3 m i0 w0) (ih : ∀ q, q < m → ChoicesQ Tryz.prog pb n q) :
    CallsV Tryz.prog 98 [.func (.yield l) #[] #[], .pointer (some ⟨b4, 0, none⟩), .pointer (some ⟨b5, 0, none⟩), .pointer (some ⟨b3, 0, none⟩)] w0 (fun _ w' => ChQ n F pb C Cf R Rf m i0 w0 w') := by
 have hpb := hp.hpb
 have hD := hp.hD
 have hl := hp.hl
 have hn20 := hp.hn
 have hm20 := hp.hm
 have l4 := hp.h4.lt
 have l5 := hp.h5.lt
 have l3 := hp.h3.lt
 have hbR := bentR' hp.hH (B := w0.heap.size) (by omega) (by omega)
 have hR2 : ∀ W W', R W → Ext W W' → R W' := fun W W' h u => hp.hH.keep h u (fun h => h) (fun h => h)
 have hRf2 : ∀ W W', Rf W → Ext W W' → Rf W' := fun W W' h u => hp.hH.keepf h u (fun h => h) (fun h => h)
 refine f_enterM (N := 34) func98 rfl rfl rfl (c_seq fun K1 hK1 => (c_region (t_box (cs := [.func (.yield l) #[] #[]]) rfl rfl rfl rfl (fun bk2 w3 ebk2 sbk2 B4 u5 => ?_))))
 have zu5 := u5.size
 have E6 := (Upd.refl (fun i => TP F pb w0 i) w0).nx u5
 refine t_nil' (hK1 _ _ (c_seq fun K7 hK7 => (c_seq fun K8 hK8 => (c_region ?_))))
 have B9 := (hp.h4.kx u5)
 refine t_load isAgg3 rfl rfl rfl (B9.get rfl) (t_cmp rfl rfl rfl rfl rfl (t_nil' (hK8 _ _ (c_condp rfl (fun g8 => ?_) (fun g8 => ?_)))))
 ·
  have hm0 : m = 0 := by omega
  refine c_seq fun K10 hK10 => (c_region (t_load isAgg125 rfl rfl rfl (B4.get rfl) (t_yield (vs := [.slice none 0 0]) rfl rfl rfl rfl (hp.hH.hand ⟨[], [], none, 0, 0, w3⟩ _ ⟨(hp.hC _ _ _ hp.c0 ((Upd.refl (fun _ => False) _).nx u5)), Acc.nil _ _ _ _ _ hp.hpb.1 (by omega), fun h => absurd h (by show ¬ pb ≤ 0; omega), ⟨Nat.zero_le _, fun _ h => by cases h⟩, by have := hp.hD; omega, Upd.refl _ _⟩ (hR2 _ _ hp.r0 ((Upd.refl (fun _ => False) _).nx u5))) (by rintro e w' (⟨rfl, _⟩ | ⟨rfl, _⟩) <;> exact ⟨_, rfl⟩) (fun v11 w12 r13 => ?_))))
  rcases r13 with ⟨hvr13, hrr13⟩ | ⟨hvr13, hrr13⟩ <;> injection hvr13 with hvr13 <;> subst hvr13
  ·
   obtain ⟨⟨hzC, u14⟩, hzR⟩ := hrr13
   have zu14 := u14.size
   refine t_nil' (hK10 _ _ (c_ret ?_))
   have D18 := (((show Marks w0.heap.size [] w0 from trivial).keepB u5 (CellsB.of (CellsIn.none _))).keepB u14 (TP.cellsB (fun i h => hp.hF i h)))
   have hmkE := D18
   refine f_retMc0  results98  D18 (fun w16 u17 omw16 => ?_)
   have zu17 := u17.size
   unfold ChQ
   have e9 : chP n m i0 = [[]] := by rw [hm0, chP]
   exact ⟨.inl ⟨by rw [e9]; exact hp.hCt _ _ _ _ hzC omw16 hmkE.bent, hbR.1 () _ _ _ hzR omw16 hmkE.bent⟩, ((E6.next u14 (fun i hi (h : TP F pb w3 i) => show TP F pb w0 i by first | omega | assumption | exact TP.back (by assumption) hi h | exact h.elim (fun h => TP.back (by assumption) hi h) (fun h => by omega) | exact h.elim id (fun h => by omega))).next u17 (fun i hi (h : w0.heap.size ≤ i) => show TP F pb w0 i by first | omega | assumption | exact TP.back (by assumption) hi h | exact h.elim (fun h => TP.back (by assumption) hi h) (fun h => by omega) | exact h.elim id (fun h => by omega)))⟩
  obtain ⟨⟨hzC, u14⟩, hzR⟩ := hrr13
  have zu14 := u14.size
  refine t_nil' (hK10 _ _ (c_ret ?_))
  have D23 := (((show Marks w0.heap.size [] w0 from trivial).keepB u5 (CellsB.of (CellsIn.none _))).keepB u14 (TP.cellsB (fun i h => hp.hF i h)))
  have hmkE := D23
  refine f_retMc0  results98  D23 (fun w21 u22 omw21 => ?_)
  have zu22 := u22.size
  unfold ChQ
  have e9 : chP n m i0 = [[]] := by rw [hm0, chP]
  exact ⟨.inr ⟨⟨[], [], [], by rw [e9]; rfl, hp.hCft _ _ _ _ hzC omw21 hmkE.bent⟩, hbR.2 () _ _ _ hzR omw21 hmkE.bent⟩, ((E6.next u14 (fun i hi (h : TP F pb w3 i) => show TP F pb w0 i by first | omega | assumption | exact TP.back (by assumption) hi h | exact h.elim (fun h => TP.back (by assumption) hi h) (fun h => by omega) | exact h.elim id (fun h => by omega))).next u22 (fun i hi (h : w0.heap.size ≤ i) => show TP F pb w0 i by first | omega | assumption | exact TP.back (by assumption) hi h | exact h.elim (fun h => TP.back (by assumption) hi h) (fun h => by omega) | exact h.elim id (fun h => by omega)))⟩
 have hm1 : 0 < m := by omega
 refine c_skip (hK7 _ _ (c_seq fun K25 hK25 => (c_region ?_)))
 have B26 := (hp.h5.kx u5)
 refine t_load isAgg3 rfl rfl rfl (B26.get rfl) (t_alloc (cs := [.int .i64 0]) zeroValue3 rfl rfl rfl (fun bk27 w28 ebk27 sbk27 B29 u30 => ?_))
 have zu30 := u30.size
 refine t_st (vs := [.int .i64 (i0 : Int)]) sizeOf3 rfl rfl rfl B29 rfl rfl rfl rfl (fun w32 sw32 B34 u33 => ?_)
 have zu33 := u33.size
 have E35 := (E6.nx u30).next u33 (fun i hi (h : i = bk27) => show TP F pb w0 i by first | omega | assumption | exact TP.back (by assumption) hi h | exact h.elim (fun h => TP.back (by assumption) hi h) (fun h => by omega) | exact h.elim id (fun h => by omega))
 have B34 : Blk w32 bk27 3 [.int .i64 (i0 : Int)] := B34
 refine t_nil' (hK25 _ _ (c_block ?_))
 have hP0 : Upd (TP F pb w0) w0 w32 := E35
 have B37 := ((B9.kx u30).keep u33 (by omega))
 have nTb36 : ¬ TP F pb w32 b4 := TP.not hp.n4 B37 (by decide)
 have B39 := (((hp.h3.kx u5).kx u30).keep u33 (by omega))
 have nTb38 : ¬ TP F pb w32 b3 := TP.not hp.n3 B39 (by decide)
 have B41 := ((B4.kx u30).keep u33 (by omega))
 have nTb40 : ¬ TP F pb w32 bk2 := TP.not (fun h => by have := hp.hF _ h; omega) B41 (by decide)
 refine c_loopm (γ := Nat × Nat × List (List Int) × List Deferred) (fun gg => [(1, .pointer (some ⟨b4, 0, none⟩)), (3, .pointer (some ⟨b3, 0, none⟩)), (4, .pointer (some ⟨bk2, 0, none⟩)), (5, .pointer (some ⟨gg.2.1, 0, none⟩))]) (fun gg => gg.2.2.2) (fun gg w => Upd (fun i => TP F pb w32 i) w32 w ∧ (i0 ≤ gg.1 ∧ gg.1 ≤ 21) ∧ (Blk w gg.2.1 3 [.int .i64 (gg.1 : Int)]) ∧ (w0.heap.size ≤ gg.2.1) ∧ (chP n m i0 = gg.2.2.1 ++ chP n m gg.1) ∧ (C gg.2.2.1 w) ∧ (R w) ∧ (Marks w0.heap.size gg.2.2.2 w)) (fun gg => 22 - gg.1) (i0, bk27, [], []) rfl ⟨rfl, rfl, rfl, rfl, trivial⟩ ⟨Upd.refl _ _, ⟨Nat.le_refl _, by have := hp.hi; show i0 ≤ 21; omega⟩, B34, (by show w0.heap.size ≤ bk27; omega), rfl, (hp.hC _ _ _ hp.c0 ((((Upd.refl (fun _ => False) _).nx u5).nx u30).next u33 (fun i hi (h : i = bk27) => show False by first | omega | assumption))), (hR2 _ _ hp.r0 ((((Upd.refl (fun _ => False) _).nx u5).nx u30).next u33 (fun i hi (h : i = bk27) => show False by first | omega | assumption))), trivial⟩ ?_
 intro gg w43 hW K42 hK42
 obtain ⟨k, bq, ts, dl⟩ := gg
 change WC _ _ _ _ _ _ [(1, .pointer (some ⟨b4, 0, none⟩)), (3, .pointer (some ⟨b3, 0, none⟩)), (4, .pointer (some ⟨bk2, 0, none⟩)), (5, .pointer (some ⟨bq, 0, none⟩))] _
 change Upd (fun i => TP F pb w32 i) w32 w43 ∧ (i0 ≤ k ∧ k ≤ 21) ∧ (Blk w43 bq 3 [.int .i64 (k : Int)]) ∧ (w0.heap.size ≤ bq) ∧ (chP n m i0 = ts ++ chP n m k) ∧ (C ts w43) ∧ (R w43) ∧ (Marks w0.heap.size dl w43) at hW
 obtain ⟨u44, I45, I46, I47, I48, I49, I50, I51⟩ := hW
 have zu44 := u44.size
 have E52 := E35.next u44 (fun i hi (h : TP F pb w32 i) => show TP F pb w0 i by first | omega | assumption | exact TP.back (by assumption) hi h | exact h.elim (fun h => TP.back (by assumption) hi h) (fun h => by omega) | exact h.elim id (fun h => by omega))
 have hi0 := I45; clear I45
 have hbq := I46; clear I46
 have hbq0 := I47; clear I47
 have htk := I48; clear I48
 have hCk := I49; clear I49
 have hRk := I50; clear I50
 have hmkl := I51; clear I51
 have hbql := hbq.lt
 have hPl : Upd (TP F pb w0) w0 w43 := E52
 refine c_seq fun K53 hK53 => (c_seq fun K54 hK54 => (c_region (t_load isAgg3 rfl rfl rfl (hbq.get rfl) ?_)))
 have B55 := (B39.keep u44 (show ¬ (TP F pb w32 b3) by first | omega | assumption))
 refine t_load isAgg3 rfl rfl rfl (B55.get rfl) ?_
 have B56 := (B37.keep u44 (show ¬ (TP F pb w32 b4) by first | omega | assumption))
 refine t_load isAgg3 rfl rfl rfl (B56.get rfl) (t_ari rfl rfl rfl rfl rfl (by omega) (t_cmp rfl rfl rfl rfl rfl (t_nil' (hK54 _ _ (c_condp rfl (fun g16 => ?_) (fun g16 => ?_))))))
 ·
  have hkn : k + m ≤ n := by omega
  refine c_skip (hK53 _ _ (c_seq fun K57 hK57 => (c_block (c_seq fun K58 hK58 => (c_region (t_load isAgg3 rfl rfl rfl (B55.get rfl) (t_load isAgg3 rfl rfl rfl (B56.get rfl) (t_ari rfl rfl rfl rfl rfl (by omega) (t_load isAgg3 rfl rfl rfl (hbq.get rfl) (t_ari rfl rfl rfl rfl rfl (by omega) (t_call own71 rfl rfl rfl rfl (choices_c (n : Int) ((m : Int) - 1) ((k : Int) + 1) _) (fun v59 w60 r62 => ?_))))))))))))
  obtain ⟨⟨bT4, bT5, bT3, rfl, hT4, hT5, hT3, gT4, gT5, gT3⟩, u61⟩ := r62
  have zu61 := u61.size
  have E63 := E52.nx u61
  refine t_nil' (hK58 _ _ (c_block ?_))
  have hPR : Upd (TP F pb w32) w32 w60 := (u44.nx u61)
  have hPR0 : Upd (TP F pb w0) w0 w60 := E63
  have hCR := (hp.hC _ _ _ hCk ((Upd.refl (fun _ => False) _).nx u61))
  have hRR := (hR2 _ _ hRk ((Upd.refl (fun _ => False) _).nx u61))
  have B65 := (B56.kx u61)
  have nTb64 : ¬ TP (FX F (w60.heap.size + 1)) pb w60 b4 := TP.not (fun h => h.elim (hp.n4) (by omega)) B65 (by decide)
  have B67 := (B55.kx u61)
  have nTb66 : ¬ TP (FX F (w60.heap.size + 1)) pb w60 b3 := TP.not (fun h => h.elim (hp.n3) (by omega)) B67 (by decide)
  have B69 := ((B41.keep u44 (show ¬ (TP F pb w32 bk2) by first | omega | assumption)).kx u61)
  have nTb68 : ¬ TP (FX F (w60.heap.size + 1)) pb w60 bk2 := TP.not (fun h => h.elim ((fun h => by have := hp.hF _ h; omega)) (by omega)) B69 (by decide)
  have B71 := (hbq.kx u61)
  have nTb70 : ¬ TP (FX F (w60.heap.size + 1)) pb w60 bq := TP.not (fun h => h.elim ((fun h => by have := hp.hF _ h; omega)) (by omega)) B71 (by decide)
  have nTb72 : ¬ TP F pb w60 b4 := TP.not hp.n4 B65 (by decide)
  have nTb73 : ¬ TP F pb w60 b3 := TP.not hp.n3 B67 (by decide)
  have nTb74 : ¬ TP F pb w60 bk2 := TP.not (fun h => by have := hp.hF _ h; omega) B69 (by decide)
  have nTb75 : ¬ TP F pb w60 bq := TP.not (fun h => by have := hp.hF _ h; omega) B71 (by decide)
  have lT4 := hT4.lt
  have lT3 := hT3.lt
  have hBC := DX.bent (F := (FX F (w60.heap.size + 1))) (pb := pb) (B' := (w60.heap.size + 1)) (wR := w60) (ts := ts) (k := k) hp.hCt hbR.1 (by omega) (Nat.le_succ _)
  have hBF := DfX.bent (F := (FX F (w60.heap.size + 1))) (pb := pb) (B' := (w60.heap.size + 1)) (wR := w60) (ts := ts) (k := k) hp.hCft hbR.2 (by omega) (Nat.le_succ _)
  refine WC.weak [(1, .pointer (some ⟨b4, 0, none⟩)), (3, .pointer (some ⟨b3, 0, none⟩)), (4, .pointer (some ⟨bk2, 0, none⟩)), (5, .pointer (some ⟨bq, 0, none⟩)), (24, .func (.func 98) #[] #[.pointer (some ⟨bT4, 0, none⟩), .pointer (some ⟨bT5, 0, none⟩), .pointer (some ⟨bT3, 0, none⟩)])] ⟨rfl, rfl, rfl, rfl, rfl, trivial⟩ (c_rangeL (γ := HC) (δ := Unit) (lb := [.pointer (some ⟨bT4, 0, none⟩), .pointer (some ⟨bT5, 0, none⟩), .pointer (some ⟨bT3, 0, none⟩)]) (enc := encHC) own98 rfl rfl (YC (FX F (w60.heap.size + 1)) pb w60.heap.size n (m - 1) (DX (FX F (w60.heap.size + 1)) pb w60 C R ts k)) (ZC (FX F (w60.heap.size + 1)) pb (DX (FX F (w60.heap.size + 1)) pb w60 C R ts k)) (FC (FX F (w60.heap.size + 1)) pb (DfX (FX F (w60.heap.size + 1)) pb w60 Cf Rf ts k)) (EC (FX F (w60.heap.size + 1)) pb w60 (DX (FX F (w60.heap.size + 1)) pb w60 C R ts k (chP n (m - 1) (k + 1)))) (EC (FX F (w60.heap.size + 1)) pb w60 (EndC (chP n (m - 1) (k + 1)) (DfX (FX F (w60.heap.size + 1)) pb w60 Cf Rf ts k))) (ZC.turned (hBC.turned (Nat.le_refl _)) (.inr rfl)) (FC.turned (hBF.turned (Nat.le_refl _)) (.inr rfl)) (EC.turned (fun _ => (hBC.turned (Nat.le_refl _)) _) (.inr rfl)) (EC.turned (EndC.turned (hBF.turned (Nat.le_refl _))) (.inr rfl)) ?_ (fun x d => [(1, .pointer (some ⟨b4, 0, none⟩)), (3, .pointer (some ⟨b3, 0, none⟩)), (4, .pointer (some ⟨bk2, 0, none⟩)), (5, .pointer (some ⟨bq, 0, none⟩)), (6, .slice x.ao x.xs.length x.cap)]) (fun x (d : Unit) W => YC (FX F (w60.heap.size + 1)) pb w60.heap.size n (m - 1) (DX (FX F (w60.heap.size + 1)) pb w60 C R ts k) x W) (fun d x W W' h hl u => YC.turned (hBC.turned (Nat.le_refl _)) _ _ _ h hl u) ?_ ?_ ?_ ?_)
  ·
   intro l_ D_ R_ Rf_ W hD_ hl_ hsz hE1 hH_ hR_
   subst hD_ hl_
   have hm9 : (((m - 1 : Nat) : Int)) = (m : Int) - 1 := by omega
   refine (ih (m - 1) (by omega) (FX F (w60.heap.size + 1)) (w60.heap.size + 1) w60.heap.size (DX (FX F (w60.heap.size + 1)) pb w60 C R ts k) (DfX (FX F (w60.heap.size + 1)) pb w60 Cf Rf ts k) R_ Rf_ bT4 bT5 bT3 (k + 1) W ⟨?_, ?_, hBC.mono (by omega), hBF.mono (by omega), hH_, by rw [hm9]; exact hT4.kx hE1, hT5.kx hE1, hT3.kx hE1, fun i h => h.elim (fun h => by have := hp.hF _ h; omega) (fun h => by omega), fun h => h.elim ((fun h => by have := hp.hF _ h; omega)) (by omega), fun h => h.elim ((fun h => by have := hp.hF _ h; omega)) (by omega), .inr rfl, rfl, by omega, ⟨hp.hpb.1, by omega⟩, hp.hn, by omega, by omega, ⟨by simpa using hp.hC _ _ _ hCR hE1, hR2 _ _ hRR hE1, hE1.to⟩, hR_⟩).mono fun _ w9 h9 => ?_
   · exact fun p W W' h u => ⟨hp.hC _ _ _ h.hc u, hR2 _ _ h.hr u, h.hu.nx u⟩
   · exact fun p W W' h u => ⟨hp.hCf _ _ _ h.hc u, hRf2 _ _ h.hr u, h.hu.nx u⟩
   have h8 := (hE1.to (S := TP (FX F (w60.heap.size + 1)) pb w60)).next h9.2 (fun i hi h => TP.backE hE1 hi h)
   exact h9.1.elim (fun q => .inl ⟨⟨q.1, h8⟩, q.2⟩) (fun q => .inr ⟨⟨q.1, h8⟩, q.2⟩)
  ·
   intro lq x W K76 hI hK76
   change WC _ _ _ _ _ _ [(25, .slice x.ao x.xs.length x.cap), (1, .pointer (some ⟨b4, 0, none⟩)), (3, .pointer (some ⟨b3, 0, none⟩)), (4, .pointer (some ⟨bk2, 0, none⟩)), (5, .pointer (some ⟨bq, 0, none⟩)), (24, .func (.func 98) #[] #[.pointer (some ⟨bT4, 0, none⟩), .pointer (some ⟨bT5, 0, none⟩), .pointer (some ⟨bT3, 0, none⟩)])] _
   refine c_region (t_assign rfl rfl rfl (t_nil' ?_))
   exact hK76 () _ _ ⟨rfl, rfl, rfl, rfl, rfl, trivial⟩ (Upd.refl (fun _ => False) W) hI
  ·
   intro lq x d w77 hY
   have huR := hY.hc.hu
   have hlx := hY.len.1
   have zhuR := huR.size
   have lt_x_g := hY.num.lt
   have B80 := (B65.keep huR (show ¬ (TP (FX F (w60.heap.size + 1)) pb w60 b4) by first | omega | assumption))
   have nTb79 : ¬ TP F pb w77 b4 := TP.not hp.n4 B80 (by decide)
   have B82 := (B67.keep huR (show ¬ (TP (FX F (w60.heap.size + 1)) pb w60 b3) by first | omega | assumption))
   have nTb81 : ¬ TP F pb w77 b3 := TP.not hp.n3 B82 (by decide)
   have B84 := (B69.keep huR (show ¬ (TP (FX F (w60.heap.size + 1)) pb w60 bk2) by first | omega | assumption))
   have nTb83 : ¬ TP F pb w77 bk2 := TP.not (fun h => by have := hp.hF _ h; omega) B84 (by decide)
   have B86 := (B71.keep huR (show ¬ (TP (FX F (w60.heap.size + 1)) pb w60 bq) by first | omega | assumption))
   have nTb85 : ¬ TP F pb w77 bq := TP.not (fun h => by have := hp.hF _ h; omega) B86 (by decide)
   change WC _ _ _ _ _ _ [(1, .pointer (some ⟨b4, 0, none⟩)), (3, .pointer (some ⟨b3, 0, none⟩)), (4, .pointer (some ⟨bk2, 0, none⟩)), (5, .pointer (some ⟨bq, 0, none⟩)), (6, .slice x.ao x.xs.length x.cap)] _
   have hcellsR := (TP.cellsB (F := F) (pb := pb) (B := w60.heap.size) (w := w77) (fun i h => by have := hp.hF i h; omega))
   refine c_block (c_seq fun K87 hK87 => ?_)
   have nTb88 : ¬ TQ F pb w77 bk2 := TQ.not (Upd.refl _ _) (fun h => by have := hp.hF _ h; omega) (by omega) B84 (by decide)
   have nTb89 : ¬ TQ F pb w77 bq := TQ.not (Upd.refl _ _) (fun h => by have := hp.hF _ h; omega) (by omega) B86 (by decide)
   refine c_drawnM follows (fun i => TQ F pb w77 i) (.look 0 (.look 1 (.look 3 (.act 2 (.act 4 (.act 5 (.look 6 .done) .stop) .stop) .stop)))) (by kernel_rfl) fun w90 u91 => ?_
   have zu91 := u91.size
   have B93 := (B84.kx u91)
   refine y_load isAgg125 rfl rfl rfl (B93.get rfl) (by show ¬ (TQ F pb w77 bk2); first | omega | assumption) ?_
   have B94 := (B86.kx u91)
   refine y_load isAgg3 rfl rfl rfl (B94.get rfl) (by show ¬ (TQ F pb w77 bq); first | omega | assumption) (y_move rfl rfl rfl (s_do (t_bslice (ps := [(0, .int .i64 (k : Int))]) (cs := [.int .i64 (k : Int)]) (e := 3) rfl rfl ⟨rfl, rfl⟩ (fun w => by kernel_rfl) (fun bk95 w96 ebk95 sbk95 B97 u98 => ?_))))
   have zu98 := u98.size
   refine s_next ((Upd.refl _ _).nx u98) (s_do ?_)
   have D100 := ((hY.num.kE u91).kE u98)
   refine t_appLit (enc := encI) (z := .int .i64 0) (bytes := 8) (k := 1) (xs := [(k : Int)]) (ys := x.xs) underlying60 (by kernel_rfl) rfl (by decide) (fun _ => rfl) (by intro x; simp [encI, Value.oneCell']) rfl rfl rfl rfl B97 (D100.sl (fun _ => rfl)) (by first | decide | simp) (by omega) (by decide) (fun ao101 gb102 cp103 w104 A105 u106 gegb102 => ?_)
   have zu106 := u106.size
   have lt_gb102 := A105.lt
   refine s_next ((Upd.refl _ _).next u106 (fun i hi (h : (i = bk95 ∧ bk95 ≤ i)) => show w90.heap.size ≤ i ∨ (TQ F pb w77 i) by first | omega | exact .inr h)) (s_do ?_)
   have uE9 : Ext w77 w104 := ((((Upd.refl (fun _ => False) w77).nx u91).nx u98).next u106 (fun i hi h => by omega))
   obtain ⟨gZ, haZ, hgZ⟩ := (A105).lower' (base' := pb) (by omega) hp.hpb.1
   refine t_yield (vs := [.slice ao101 ((([(k : Int)] ++ x.xs)).length) cp103]) rfl rfl rfl rfl (hp.hH.hand ⟨ts ++ x.pre.map ((k : Int) :: ·), (k : Int) :: x.xs, ao101, gZ, cp103, w104⟩ _ ⟨hp.hC _ _ _ hY.hc.hc uE9, haZ, fun h hf => by have h7 := hgZ h; have h8 : gZ < w0.heap.size := hp.hF _ hf; omega, ⟨by show x.xs.length + 1 ≤ m; omega, fun i hi => by
     rcases List.mem_cons.1 hi with e | e
     · omega
     · exact hY.len.2 i e⟩, by have := hp.hD; omega, Upd.refl _ _⟩ (hR2 _ _ hY.hc.hr uE9)) (by rintro e w' (⟨rfl, _⟩ | ⟨rfl, _⟩) <;> exact ⟨_, rfl⟩) (fun v108 w109 r110 => ?_)
   rcases r110 with ⟨hvr110, hrr110⟩ | ⟨hvr110, hrr110⟩ <;> injection hvr110 with hvr110 <;> subst hvr110
   ·
    obtain ⟨⟨hzC, u111x⟩, hzR⟩ := hrr110
    have u111 := u111x.mono (fun i h => TQ.of uE9 h)
    have zu111 := u111.size
    refine s_next ((Upd.refl _ _).next u111 (fun i hi (h : TQ F pb w77 i) => show w90.heap.size ≤ i ∨ (TQ F pb w77 i) by first | omega | exact .inr h)) (y_not rfl rfl rfl (s_nil (hK87 _ _ (c_cond_f rfl (c_skip ?_)))))
    have hUr := (((((Upd.refl (fun i => TP F pb w77 i) w77).nx u91).nx u98).next u106 (fun i hi (h : (i = bk95 ∧ bk95 ≤ i)) => show TP F pb w77 i by first | omega | assumption | exact TP.back (by assumption) hi h | exact h.elim (fun h => TP.back (by assumption) hi h) (fun h => by omega) | exact h.elim id (fun h => by omega))).next u111 (fun i hi (h : TQ F pb w77 i) => show TP F pb w77 i by first | omega | assumption | exact TP.back (by assumption) hi h | exact h.elim (fun h => TP.back (by assumption) hi h) (fun h => by omega) | exact h.elim id (fun h => by omega)))
    have uW : Upd (TP (FX F (w60.heap.size + 1)) pb w77) _ _ := hUr.mono (fun i h => h.fx)
    exact fun a ha => ⟨KeepsFrom.of_updB hUr hcellsR, (⟨⟨by rw [List.map_append, ← List.append_assoc]; exact hzC, hzR, hY.hc.hu.next uW (fun i hi h => TP.back hY.hc.hu hi h)⟩, (hY.upd.mono fun i e => .inl (.inr e)).next uW (fun i hi h => TP.back (hY.upd.mono fun i e => .inl (.inr e)) hi h)⟩ : ZC (FX F (w60.heap.size + 1)) pb (DX (FX F (w60.heap.size + 1)) pb w60 C R ts k) x _)⟩
   obtain ⟨⟨hzC, u111x⟩, hzR⟩ := hrr110
   have u111 := u111x.mono (fun i h => TQ.of uE9 h)
   have zu111 := u111.size
   refine s_next ((Upd.refl _ _).next u111 (fun i hi (h : TQ F pb w77 i) => show w90.heap.size ≤ i ∨ (TQ F pb w77 i) by first | omega | exact .inr h)) (y_not rfl rfl rfl (s_nil (hK87 _ _ (c_cond_t rfl (c_ret ?_)))))
   have hUr := (((((Upd.refl (fun i => TP F pb w77 i) w77).nx u91).nx u98).next u106 (fun i hi (h : (i = bk95 ∧ bk95 ≤ i)) => show TP F pb w77 i by first | omega | assumption | exact TP.back (by assumption) hi h | exact h.elim (fun h => TP.back (by assumption) hi h) (fun h => by omega) | exact h.elim id (fun h => by omega))).next u111 (fun i hi (h : TQ F pb w77 i) => show TP F pb w77 i by first | omega | assumption | exact TP.back (by assumption) hi h | exact h.elim (fun h => TP.back (by assumption) hi h) (fun h => by omega) | exact h.elim id (fun h => by omega)))
   have uW : Upd (TP (FX F (w60.heap.size + 1)) pb w77) _ _ := hUr.mono (fun i h => h.fx)
   exact fun a ha => ⟨KeepsFrom.of_updB hUr hcellsR, (⟨⟨hzC, hzR, hY.hc.hu.next uW (fun i hi h => TP.back hY.hc.hu hi h)⟩, (hY.upd.mono fun i e => .inl (.inr e)).next uW (fun i hi h => TP.back (hY.upd.mono fun i e => .inl (.inr e)) hi h)⟩ : FC (FX F (w60.heap.size + 1)) pb (DfX (FX F (w60.heap.size + 1)) pb w60 Cf Rf ts k) x _)⟩
  ·
   have hmk0 := (hmkl.keep ((Upd.refl (fun _ => False) _).nx u61) (CellsIn.none _))
   have hmc0 := (TP.cellsB (F := F) (pb := pb) (B := w0.heap.size) (w := w60) (fun i h => hp.hF i h))
   intro D115 w114 hD115 hE hdD115
   have hu9 : Upd (TP F pb w60) w60 w114 := ⟨hE.hu.os, hE.hu.tape, hE.hu.output, hE.hu.size, fun k hk hn => hE.hu.block k hk (fun h => hn (h.unfx (by omega)))⟩
   have zhu9 := hu9.size
   have hstep : chP n m i0 = (ts ++ (chP n (m - 1) (k + 1)).map ((k : Int) :: ·)) ++ chP n m (k + 1) := by rw [htk, ch_step hm1 hkn, List.append_assoc]
   have mk117 := (hmk0.keepB hu9 hmc0).push (D := D115) (by omega) hdD115 (fun d hd D' e => Nat.lt_of_lt_of_le (hmk0.lt d hd D' e) hD115)
   obtain ⟨pr9, v9, po9, e9, hcf9⟩ := hE.hi
   have hmkE := mk117
   refine f_retMc0  results98  mk117 (fun w118 u119 omw118 => ?_)
   have zu119 := u119.size
   unfold ChQ
   exact ⟨.inr ⟨⟨_, _, po9.map ((k : Int) :: ·) ++ chP n m (k + 1), by rw [hstep, e9]; simp, hp.hCft _ _ _ _ hcf9.hc omw118 hmkE.bent⟩, hbR.2 () _ _ _ hcf9.hr omw118 hmkE.bent⟩, ((E63.next hu9 (fun i hi (h : TP F pb w60 i) => show TP F pb w0 i by first | omega | assumption | exact TP.back (by assumption) hi h | exact h.elim (fun h => TP.back (by assumption) hi h) (fun h => by omega) | exact h.elim id (fun h => by omega))).next u119 (fun i hi (h : w0.heap.size ≤ i) => show TP F pb w0 i by first | omega | assumption | exact TP.back (by assumption) hi h | exact h.elim (fun h => TP.back (by assumption) hi h) (fun h => by omega) | exact h.elim id (fun h => by omega)))⟩
  ·
   have hmk0 := (hmkl.keep ((Upd.refl (fun _ => False) _).nx u61) (CellsIn.none _))
   have hmc0 := (TP.cellsB (F := F) (pb := pb) (B := w0.heap.size) (w := w60) (fun i h => hp.hF i h))
   intro D122 w121 hD122 hE hdD122
   have hu9 : Upd (TP F pb w60) w60 w121 := ⟨hE.hu.os, hE.hu.tape, hE.hu.output, hE.hu.size, fun k hk hn => hE.hu.block k hk (fun h => hn (h.unfx (by omega)))⟩
   have zhu9 := hu9.size
   have hstep : chP n m i0 = (ts ++ (chP n (m - 1) (k + 1)).map ((k : Int) :: ·)) ++ chP n m (k + 1) := by rw [htk, ch_step hm1 hkn, List.append_assoc]
   have mk124 := (hmk0.keepB hu9 hmc0).push (D := D122) (by omega) hdD122 (fun d hd D' e => Nat.lt_of_lt_of_le (hmk0.lt d hd D' e) hD122)
   refine hK57 _ _ (c_seq fun K125 hK125 => (c_seq fun K126 hK126 => (c_region ?_)))
   have B127 := (B71.keep hu9 (show ¬ (TP F pb w60 bq) by first | omega | assumption))
   refine t_load isAgg3 rfl rfl rfl (B127.get rfl) (t_nil' (hK126 _ _ (c_region (t_alloc (cs := [.int .i64 0]) zeroValue3 rfl rfl rfl (fun bk128 w129 ebk128 sbk128 B130 u131 => ?_)))))
   have zu131 := u131.size
   refine t_st (vs := [.int .i64 (k : Int)]) sizeOf3 rfl rfl rfl B130 rfl rfl rfl rfl (fun w133 sw133 B135 u134 => ?_)
   have zu134 := u134.size
   have B135 : Blk w133 bk128 3 [.int .i64 (k : Int)] := B135
   refine t_nil' (hK125 _ _ (c_region (t_load isAgg3 rfl rfl rfl (B135.get rfl) (t_ari rfl rfl rfl rfl rfl (by omega) (t_st (vs := [.int .i64 ((k : Int) + 1)]) sizeOf3 rfl rfl rfl B135 rfl rfl rfl rfl (fun w137 sw137 B139 u138 => ?_))))))
   have zu138 := u138.size
   have B139 : Blk w137 bk128 3 [.int .i64 ((k : Int) + 1)] := B139
   refine t_nil' ?_
   have D141 := (((mk124.keepB u131 (CellsB.of (CellsIn.none _))).keepB u134 (CellsB.of (B130).cellsIn)).keepB u138 (CellsB.of (B135).cellsIn))
   exact hK42 (k + 1, bk128, ts ++ (chP n (m - 1) (k + 1)).map ((k : Int) :: ·), (mark D122 :: dl)) _ _ (by show 22 - (k + 1) < 22 - k; omega) ⟨rfl, rfl, rfl, rfl, trivial⟩ ⟨(((((u44.nx u61).next hu9 (fun i hi (h : TP F pb w60 i) => show TP F pb w32 i by first | omega | assumption | exact TP.back (by assumption) hi h | exact h.elim (fun h => TP.back (by assumption) hi h) (fun h => by omega) | exact h.elim id (fun h => by omega))).nx u131).next u134 (fun i hi (h : i = bk128) => show TP F pb w32 i by first | omega | assumption | exact TP.back (by assumption) hi h | exact h.elim (fun h => TP.back (by assumption) hi h) (fun h => by omega) | exact h.elim id (fun h => by omega))).next u138 (fun i hi (h : i = bk128) => show TP F pb w32 i by first | omega | assumption | exact TP.back (by assumption) hi h | exact h.elim (fun h => TP.back (by assumption) hi h) (fun h => by omega) | exact h.elim id (fun h => by omega))), (by show i0 ≤ k + 1 ∧ k + 1 ≤ 21; omega), B139, (by show w0.heap.size ≤ bk128; omega), hstep, (hp.hC _ _ _ hE.hi.hc ((((Upd.refl (fun _ => False) _).nx u131).next u134 (fun i hi (h : i = bk128) => show False by first | omega | assumption)).next u138 (fun i hi (h : i = bk128) => show False by first | omega | assumption))), (hR2 _ _ hE.hi.hr ((((Upd.refl (fun _ => False) _).nx u131).next u134 (fun i hi (h : i = bk128) => show False by first | omega | assumption)).next u138 (fun i hi (h : i = bk128) => show False by first | omega | assumption))), D141⟩
 have hkn : n < k + m := by omega
 refine c_exit ?_
 have hCe := hCk
 have hRe := hRk
 have hmkE := hmkl
 refine f_retMc0  results98  hmkl (fun w142 u143 omw142 => ?_)
 have zu143 := u143.size
 unfold ChQ
 have e9 : chP n m i0 = ts := by rw [htk, ch_end hm1 hkn, List.append_nil]
 exact ⟨.inl ⟨by rw [e9]; exact hp.hCt _ _ _ _ hCe omw142 hmkE.bent, hbR.1 () _ _ _ hRe omw142 hmkE.bent⟩, (E52.next u143 (fun i hi (h : w0.heap.size ≤ i) => show TP F pb w0 i by first | omega | assumption | exact TP.back (by assumption) hi h | exact h.elim (fun h => TP.back (by assumption) hi h) (fun h => by omega) | exact h.elim id (fun h => by omega)))⟩


theorem choices1_c (pb n : Nat) : ∀ m, ChoicesQ Tryz.prog pb n m := by
  intro m
  induction m using Nat.strongRecOn with
  | _ m ih => exact fun F l D C Cf R Rf b4 b5 b3 i0 w0 hp => choices1_s pb n m F l D C Cf R Rf b4 b5 b3 i0 w0 hp ih

end Go.Proofs.YtagmodjadmecdaaGreat
