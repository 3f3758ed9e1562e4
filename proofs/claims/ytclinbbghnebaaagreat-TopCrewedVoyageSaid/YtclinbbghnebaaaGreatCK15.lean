/-
  Part 15 of the proof: contracts and plain laws. Conditions: none.
-/
import Derived.Test.YtclinbbghnebaaaGreatCK14
namespace Go.Proofs.YtclinbbghnebaaaGreat
open Go Go.RowKit Go.Proofs.Tryz
set_option maxRecDepth 10000

/-- All ascending lists of so many numbers below n, from one on. -/
def chP (n : Nat) : Nat → Nat → List (List Int)
  | 0, _ => [[]]
  | m + 1, i => (List.range' i (n - m - i)).flatMap fun i => (chP n m (i + 1)).map ((i : Int) :: ·)
theorem ch_end {n m i : Nat} (hm : 0 < m) (h : n < i + m) : chP n m i = [] := by
  cases m with
  | zero => cases hm
  | succ m => unfold chP; rw [show n - m - i = 0 by omega]; rfl
theorem ch_step {n m i : Nat} (hm : 0 < m) (h : i + m ≤ n) : chP n m i = (chP n (m - 1) (i + 1)).map ((i : Int) :: ·) ++ chP n m (i + 1) := by
  cases m with
  | zero => cases hm
  | succ m => rw [chP, show n - m - i = (n - m - (i + 1)) + 1 by omega, List.range'_succ, List.flatMap_cons, chP]; rfl
structure HC where
  pre : List (List Int)
  xs : List Int
  ao : Option Addr
  g : Nat
  cap : Nat
  w : World
def encHC (x : HC) : Value := .slice x.ao x.xs.length x.cap
structure YC (F : Nat → Prop) (pb D n m : Nat) (C : List (List Int) → World → Prop) (x : HC) (W : World) : Prop where
  hc : C x.pre W
  num : Acc encI 1 3 pb W x.ao x.g x.cap x.xs
  nf : pb ≤ x.g → ¬ F x.g
  len : x.xs.length ≤ m ∧ ∀ i ∈ x.xs, 0 ≤ i ∧ i < (n : Int)
  hD : D + 1 < W.heap.size
  upd : Upd (· = D + 1) x.w W
structure ZC (F : Nat → Prop) (pb : Nat) (C : List (List Int) → World → Prop) (x : HC) (W : World) : Prop where
  hc : C (x.pre ++ [x.xs]) W
  upd : Upd (TP F pb x.w) x.w W
structure FC (F : Nat → Prop) (pb : Nat) (Cf : List (List Int) × List Int → World → Prop) (x : HC) (W : World) : Prop where
  hc : Cf (x.pre, x.xs) W
  upd : Upd (TP F pb x.w) x.w W
def EndC (ts : List (List Int)) (Cf : List (List Int) × List Int → World → Prop) (W : World) : Prop := ∃ pre v post, ts = pre ++ v :: post ∧ Cf (pre, v) W
theorem YC.turned {F : Nat → Prop} {pb D n m : Nat} {C : List (List Int) → World → Prop} (hC : Turned (D + 1) C) : Turned (D + 1) (YC F pb D n m C) := fun _x _W _W' h hl u =>
  ⟨hC _ _ _ h.hc hl u, h.num.keep u (h.num.notLoop hl), h.nf, h.len, Nat.lt_of_lt_of_le h.hD u.size, h.upd.trans u⟩
theorem ZC.turned {F : Nat → Prop} {pb l : Nat} {C : List (List Int) → World → Prop} (hC : Turned l C) (hT : F l) : Turned l (ZC F pb C) := fun _x _W _W' h hl u => ⟨hC _ _ _ h.hc hl u, tp_turn h.upd hT u⟩
theorem FC.turned {F : Nat → Prop} {pb l : Nat} {C : List (List Int) × List Int → World → Prop} (hC : Turned l C) (hT : F l) : Turned l (FC F pb C) := fun _x _W _W' h hl u => ⟨hC _ _ _ h.hc hl u, tp_turn h.upd hT u⟩
theorem EndC.turned {ts : List (List Int)} {Cf : List (List Int) × List Int → World → Prop} {l : Nat} (h : Turned l Cf) : Turned l (fun (_ : Unit) W => EndC ts Cf W) := fun _ _W _W' ⟨pre, v, post, e, hc⟩ hr u => ⟨pre, v, post, e, h _ _ _ hc hr u⟩
/-- What holds ahead of an iterator over choices. -/
structure ChP (P : Program) (pb n : Nat) (F : Nat → Prop) (l D : Nat) (C : List (List Int) → World → Prop) (Cf : List (List Int) × List Int → World → Prop) (R Rf : World → Prop) (b4 b5 b3 m i0 : Nat) (w0 : World) : Prop where
  hC : ∀ pre W W', C pre W → Ext W W' → C pre W'
  hCf : ∀ p W W', Cf p W → Ext W W' → Cf p W'
  hCt : Bent w0.heap.size C
  hCft : Bent w0.heap.size Cf
  hH : HandsL P l D encHC (YC F pb D n m C) (ZC F pb C) (FC F pb Cf) R Rf
  h4 : Blk w0 b4 3 [.int .i64 (m : Int)]
  h5 : Blk w0 b5 3 [.int .i64 (i0 : Int)]
  h3 : Blk w0 b3 3 [.int .i64 (n : Int)]
  hF : ∀ i, F i → i < w0.heap.size
  n4 : ¬ F b4
  n3 : ¬ F b3
  hFl : F l
  hl : l = D + 1
  hD : D + 1 < w0.heap.size
  hpb : 0 < pb ∧ pb ≤ D
  hn : n ≤ 20
  hm : m ≤ 20
  hi : i0 ≤ 20
  c0 : C [] w0
  r0 : R w0
def ChQ (n : Nat) (F : Nat → Prop) (pb : Nat) (C : List (List Int) → World → Prop) (Cf : List (List Int) × List Int → World → Prop) (R Rf : World → Prop) (m i0 : Nat) (w0 w' : World) : Prop :=
  ((C (chP n m i0) w' ∧ R w') ∨ (EndC (chP n m i0) Cf w' ∧ Rf w')) ∧ Upd (TP F pb w0) w0 w'
def ChoicesQ (P : Program) (pb n m : Nat) : Prop := ∀ F l D C Cf R Rf b4 b5 b3 i0 w0, ChP P pb n F l D C Cf R Rf b4 b5 b3 m i0 w0 →
  CallsV P 125 [.func (.yield l) #[] #[], .pointer (some ⟨b4, 0, none⟩), .pointer (some ⟨b5, 0, none⟩), .pointer (some ⟨b3, 0, none⟩)] w0 (fun _ w' => ChQ n F pb C Cf R Rf m i0 w0 w')
structure DX (F : Nat → Prop) (pb : Nat) (wR : World) (C : List (List Int) → World → Prop) (R : World → Prop) (ts : List (List Int)) (k : Nat) (pre : List (List Int)) (W : World) : Prop where
  hc : C (ts ++ pre.map ((k : Int) :: ·)) W
  hr : R W
  hu : Upd (TP F pb wR) wR W
structure DfX (F : Nat → Prop) (pb : Nat) (wR : World) (Cf : List (List Int) × List Int → World → Prop) (Rf : World → Prop) (ts : List (List Int)) (k : Nat) (p : List (List Int) × List Int) (W : World) : Prop where
  hc : Cf (ts ++ p.1.map ((k : Int) :: ·), (k : Int) :: p.2) W
  hr : Rf W
  hu : Upd (TP F pb wR) wR W
theorem DX.bent {F : Nat → Prop} {pb B B' k : Nat} {wR : World} {C : List (List Int) → World → Prop} {R : World → Prop} {ts : List (List Int)} (hC : Bent B C) (hR : Bent B (fun (_ : Unit) W => R W)) (hb : B ≤ B') (hw : wR.heap.size ≤ B') : Bent B' (DX F pb wR C R ts k) := fun x W W' S h u hS =>
  ⟨(hC.mono hb) _ _ _ _ h.hc u hS, (hR.mono hb) () _ _ _ h.hr u hS, h.hu.next u (fun i hi hs => by have := (hS i hs).1; omega)⟩
theorem DfX.bent {F : Nat → Prop} {pb B B' k : Nat} {wR : World} {C : List (List Int) × List Int → World → Prop} {R : World → Prop} {ts : List (List Int)} (hC : Bent B C) (hR : Bent B (fun (_ : Unit) W => R W)) (hb : B ≤ B') (hw : wR.heap.size ≤ B') : Bent B' (DfX F pb wR C R ts k) := fun x W W' S h u hS =>
  ⟨(hC.mono hb) _ _ _ _ h.hc u hS, (hR.mono hb) () _ _ _ h.hr u hS, h.hu.next u (fun i hi hs => by have := (hS i hs).1; omega)⟩
theorem bentR' {γ : Type} {P : Program} {l D B : Nat} {enc : γ → Value} {Y Z Zf : γ → World → Prop} {R Rf : World → Prop} (h : HandsL P l D enc Y Z Zf R Rf) (hl : l < B) (hD : D < B) : Bent B (fun (_ : Unit) W => R W) ∧ Bent B (fun (_ : Unit) W => Rf W) :=
  ⟨fun _ W W' S hr u hS => h.keep hr u (fun q => by have := (hS _ q).1; omega) (fun q => by have := (hS _ q).1; omega), fun _ W W' S hr u hS => h.keepf hr u (fun q => by have := (hS _ q).1; omega) (fun q => by have := (hS _ q).1; omega)⟩
structure EC (F : Nat → Prop) (pb : Nat) (wR : World) (I : World → Prop) (W : World) : Prop where
  hi : I W
  hu : Upd (TP F pb wR) wR W
theorem EC.turned {F : Nat → Prop} {pb l : Nat} {wR : World} {I : World → Prop} (hI : Turned l (fun (_ : Unit) W => I W)) (hl : F l) : Turned l (fun (_ : Unit) W => EC F pb wR I W) := fun _ _W _W' h hr u => ⟨hI () _ _ h.hi hr u, tp_turn h.hu hl u⟩
theorem own125 : Own Tryz.prog 125 := ⟨Tryz.f125, func125, by kernel_rfl, by kernel_rfl⟩
theorem choices_c (n m i : Int) (w0 : World) :
    CallsV Tryz.prog 59 [.int .i64 n, .int .i64 m, .int .i64 i] w0 (fun v w' => (∃ b4 b5 b3, v = .func (.func 125) #[] #[.pointer (some ⟨b4, 0, none⟩), .pointer (some ⟨b5, 0, none⟩), .pointer (some ⟨b3, 0, none⟩)] ∧ Blk w' b4 3 [.int .i64 m] ∧ Blk w' b5 3 [.int .i64 i] ∧ Blk w' b3 3 [.int .i64 n] ∧ w0.heap.size ≤ b4 ∧ w0.heap.size ≤ b5 ∧ w0.heap.size ≤ b3) ∧ Ext w0 w') := by
 have Y0 := Sc.mk (Upd.refl (fun _ => False) w0)
 refine f_n func59 ?_
 refine go ?_
 refine x_b fun bk2 w3 ebk2 sbk2 B4 u5 => ?_
 try have Y6 := Sc.mk (Y0.u.nx u5)
 refine x_b fun bk7 w8 ebk7 sbk7 B9 u10 => ?_
 try have Y11 := Sc.mk (Y6.u.nx u10)
 refine x_b fun bk12 w13 ebk12 sbk12 B14 u15 => ?_
 try have Y16 := Sc.mk (Y11.u.nx u15)
 refine go ?_
 refine t_mkfunc (vs := []) (us := [.pointer (some ⟨bk7, 0, none⟩), .pointer (some ⟨bk12, 0, none⟩), .pointer (some ⟨bk2, 0, none⟩)]) rfl rfl rfl rfl ?_
 refine go ?_
 refine f_1 results59 ?_
 have B18 := (B9.kx u15)
 have B19 := ((B4.kx u10).kx u15)
 exact ⟨⟨bk7, bk12, bk2, rfl, B18, B14, B19, by omega, by omega, by omega⟩, Y16.u⟩
set_option maxHeartbeats 4000000 in
theorem choices1_s (pb n m : Nat) (F : Nat → Prop) (l D : Nat) (C : List (List Int) → World → Prop) (Cf : List (List Int) × List Int → World → Prop) (R Rf : World → Prop) (b4 b5 b3 i0 : Nat) (w0 : World) (hp : ChP Tryz.prog pb n F l D C Cf R Rf b4 b5 b3 m i0 w0) (ih : ∀ q, q < m → ChoicesQ Tryz.prog pb n q) :
    CallsV Tryz.prog 125 [.func (.yield l) #[] #[], .pointer (some ⟨b4, 0, none⟩), .pointer (some ⟨b5, 0, none⟩), .pointer (some ⟨b3, 0, none⟩)] w0 (fun _ w' => ChQ n F pb C Cf R Rf m i0 w0 w') := by
 have hpb := hp.hpb
 have hD := hp.hD
 have hl := hp.hl
 have hn20 := hp.hn
 have hm20 := hp.hm
 have l4 := hp.h4.lt
 have l5 := hp.h5.lt
 have l3 := hp.h3.lt
 have hbR := bentR' hp.hH (B := w0.heap.size) (by omega) (by omega)
 have hR2 : ∀ W W', R W → Ext W W' → R W' := fun W W' h u => hp.hH.keep h u (fun h => h) (fun h => h)
 have hRf2 : ∀ W W', Rf W → Ext W W' → Rf W' := fun W W' h u => hp.hH.keepf h u (fun h => h) (fun h => h)
 have k1 := hp.h4
 have k2 := hp.h5
 have k3 := hp.h3
 have Y0 := Sc.mk (Upd.refl (fun i => TP F pb w0 i) w0)
 refine f_enterM (N := 34) func125 rfl rfl rfl (q_of ?_)
 refine go ?_
 refine x_b fun bk5 w6 ebk5 sbk5 B7 u8 => ?_
 try have Y9 := Sc.mk (Y0.u.nx u8)
 refine go ?_
 refine q_p (fun g8 => ?_) fun g8 => ?_
 ·
  have hm0 : m = 0 := by omega
  refine go ?_
  refine t_yield (vs := [.slice none 0 0]) rfl rfl rfl rfl (hp.hH.hand ⟨[], [], none, 0, 0, w6⟩ _ ⟨(hp.hC _ _ _ hp.c0 ((Upd.refl (fun _ => False) _).nx u8)), Acc.nil _ _ _ _ _ hp.hpb.1 (by omega), fun h => absurd h (by show ¬ pb ≤ 0; omega), ⟨Nat.zero_le _, fun _ h => by cases h⟩, by have := hp.hD; omega, Upd.refl _ _⟩ (hR2 _ _ hp.r0 ((Upd.refl (fun _ => False) _).nx u8))) (by rintro e w' (⟨rfl, _⟩ | ⟨rfl, _⟩) <;> exact ⟨_, rfl⟩) (fun v13 w14 r15 => ?_)
  rcases r15 with ⟨hvr15, hrr15⟩ | ⟨hvr15, hrr15⟩ <;> injection hvr15 with hvr15 <;> subst hvr15
  ·
   obtain ⟨⟨hzC, u16⟩, hzR⟩ := hrr15
   have zu16 := u16.size
   try have Y17 := Sc.mk (Y9.u.next u16 (fun i hi (h : TP F pb w6 i) => show TP F pb w0 i by first | omega | assumption | exact TP.back (Sc.u (by assumption)) hi h | exact h.elim (fun h => TP.back (Sc.u (by assumption)) hi h) (fun h => by omega) | exact h.elim id (fun h => by omega)))
   refine go ?_
   have D20 := (((show Marks w0.heap.size [] w0 from trivial).keepB u8 (CellsB.of (CellsIn.none _))).keepB u16 (TP.cellsB (fun i h => hp.hF i h)))
   have hmkE := D20
   refine f_retMc0  results125  D20 (fun w18 u19 omw18 => ?_)
   have zu19 := u19.size
   try have Y21 := Sc.mk (Y17.u.next u19 (fun i hi (h : w0.heap.size ≤ i) => show TP F pb w0 i by first | omega | assumption | exact TP.back (Sc.u (by assumption)) hi h | exact h.elim (fun h => TP.back (Sc.u (by assumption)) hi h) (fun h => by omega) | exact h.elim id (fun h => by omega)))
   unfold ChQ
   have e9 : chP n m i0 = [[]] := by rw [hm0, chP]
   exact ⟨.inl ⟨by rw [e9]; exact hp.hCt _ _ _ _ hzC omw18 hmkE.bent, hbR.1 () _ _ _ hzR omw18 hmkE.bent⟩, Y21.u⟩
  obtain ⟨⟨hzC, u16⟩, hzR⟩ := hrr15
  have zu16 := u16.size
  try have Y22 := Sc.mk (Y9.u.next u16 (fun i hi (h : TP F pb w6 i) => show TP F pb w0 i by first | omega | assumption | exact TP.back (Sc.u (by assumption)) hi h | exact h.elim (fun h => TP.back (Sc.u (by assumption)) hi h) (fun h => by omega) | exact h.elim id (fun h => by omega)))
  refine go ?_
  have D25 := (((show Marks w0.heap.size [] w0 from trivial).keepB u8 (CellsB.of (CellsIn.none _))).keepB u16 (TP.cellsB (fun i h => hp.hF i h)))
  have hmkE := D25
  refine f_retMc0  results125  D25 (fun w23 u24 omw23 => ?_)
  have zu24 := u24.size
  try have Y26 := Sc.mk (Y22.u.next u24 (fun i hi (h : w0.heap.size ≤ i) => show TP F pb w0 i by first | omega | assumption | exact TP.back (Sc.u (by assumption)) hi h | exact h.elim (fun h => TP.back (Sc.u (by assumption)) hi h) (fun h => by omega) | exact h.elim id (fun h => by omega)))
  unfold ChQ
  have e9 : chP n m i0 = [[]] := by rw [hm0, chP]
  exact ⟨.inr ⟨⟨[], [], [], by rw [e9]; rfl, hp.hCft _ _ _ _ hzC omw23 hmkE.bent⟩, hbR.2 () _ _ _ hzR omw23 hmkE.bent⟩, Y26.u⟩
 have hm1 : 0 < m := by omega
 refine go ?_
 refine x_n fun bk28 w29 ebk28 sbk28 B30 u31 => ?_
 try have Y32 := Sc.mk (Y9.u.nx u31)
 refine x_s fun w33 sw33 B35 u34 => ?_
 try have Y36 := Sc.mk (Y32.u.next u34 (fun i hi (h : i = bk28) => show TP F pb w0 i by first | omega | assumption | exact TP.back (Sc.u (by assumption)) hi h | exact h.elim (fun h => TP.back (Sc.u (by assumption)) hi h) (fun h => by omega) | exact h.elim id (fun h => by omega)))
 refine go ?_
 have hP0 : Sc (TP F pb w0) w0 w33 := ⟨Y36.u⟩
 have B38 := (((k1.kx u8).kx u31).keep u34 (by omega))
 have nTb37 : ¬ TP F pb w33 b4 := TP.not hp.n4 B38 (by decide)
 have B40 := (((k3.kx u8).kx u31).keep u34 (by omega))
 have nTb39 : ¬ TP F pb w33 b3 := TP.not hp.n3 B40 (by decide)
 have B42 := ((B7.kx u31).keep u34 (by omega))
 have nTb41 : ¬ TP F pb w33 bk5 := TP.not (fun h => by have := hp.hF _ h; omega) B42 (by decide)
 refine q_loopm (γ := Nat × Nat × List (List Int) × List Deferred) (fun gg => [(1, .pointer (some ⟨b4, 0, none⟩)), (3, .pointer (some ⟨b3, 0, none⟩)), (4, .pointer (some ⟨bk5, 0, none⟩)), (5, .pointer (some ⟨gg.2.1, 0, none⟩))]) (fun gg => gg.2.2.2) (fun gg w => Upd (fun i => TP F pb w33 i) w33 w ∧ (i0 ≤ gg.1 ∧ gg.1 ≤ 21) ∧ (Blk w gg.2.1 3 [.int .i64 (gg.1 : Int)]) ∧ (w0.heap.size ≤ gg.2.1) ∧ (chP n m i0 = gg.2.2.1 ++ chP n m gg.1) ∧ (C gg.2.2.1 w) ∧ (R w) ∧ (Marks w0.heap.size gg.2.2.2 w)) (fun gg => 22 - gg.1) (i0, bk28, [], []) rfl ⟨rfl, rfl, rfl, rfl, trivial⟩ ⟨Upd.refl _ _, ⟨Nat.le_refl _, by have := hp.hi; show i0 ≤ 21; omega⟩, B35, (by show w0.heap.size ≤ bk28; omega), rfl, (hp.hC _ _ _ hp.c0 ((((Upd.refl (fun _ => False) _).nx u8).nx u31).next u34 (fun i hi (h : i = bk28) => show False by first | omega | assumption))), (hR2 _ _ hp.r0 ((((Upd.refl (fun _ => False) _).nx u8).nx u31).next u34 (fun i hi (h : i = bk28) => show False by first | omega | assumption))), trivial⟩ ?_
 intro gg w44 hW K43 hK43
 obtain ⟨k, bq, ts, dl⟩ := gg
 change WC _ _ _ _ _ _ [(1, .pointer (some ⟨b4, 0, none⟩)), (3, .pointer (some ⟨b3, 0, none⟩)), (4, .pointer (some ⟨bk5, 0, none⟩)), (5, .pointer (some ⟨bq, 0, none⟩))] _
 change Upd (fun i => TP F pb w33 i) w33 w44 ∧ (i0 ≤ k ∧ k ≤ 21) ∧ (Blk w44 bq 3 [.int .i64 (k : Int)]) ∧ (w0.heap.size ≤ bq) ∧ (chP n m i0 = ts ++ chP n m k) ∧ (C ts w44) ∧ (R w44) ∧ (Marks w0.heap.size dl w44) at hW
 obtain ⟨u45, I46, I47, I48, I49, I50, I51, I52⟩ := hW
 have zu45 := u45.size
 try have Y53 := Sc.mk (Y36.u.next u45 (fun i hi (h : TP F pb w33 i) => show TP F pb w0 i by first | omega | assumption | exact TP.back (Sc.u (by assumption)) hi h | exact h.elim (fun h => TP.back (Sc.u (by assumption)) hi h) (fun h => by omega) | exact h.elim id (fun h => by omega)))
 have hi0 := I46; clear I46
 have hbq := I47; clear I47
 have hbq0 := I48; clear I48
 have htk := I49; clear I49
 have hCk := I50; clear I50
 have hRk := I51; clear I51
 have hmkl := I52; clear I52
 have hbql := hbq.lt
 have hPl : Sc (TP F pb w0) w0 w44 := ⟨Y53.u⟩
 refine go ?_
 refine q_p (fun g16 => ?_) fun g16 => ?_
 ·
  have hkn : k + m ≤ n := by omega
  refine go ?_
  refine x_c func59 rfl rfl (choices_c (n : Int) ((m : Int) - 1) ((k : Int) + 1) _) ?_
  rintro _ w59 ⟨⟨bT4, bT5, bT3, rfl, hT4, hT5, hT3, gT4, gT5, gT3⟩, u60⟩ zu60
  try have Y62 := Sc.mk (Y53.u.nx u60)
  refine go ?_
  have hPR : Sc (TP F pb w33) w33 w59 := ⟨(u45.nx u60)⟩
  have hPR0 : Sc (TP F pb w0) w0 w59 := ⟨Y62.u⟩
  have hCR := (hp.hC _ _ _ hCk ((Upd.refl (fun _ => False) _).nx u60))
  have hRR := (hR2 _ _ hRk ((Upd.refl (fun _ => False) _).nx u60))
  have B64 := ((B38.keep u45 (show ¬ (TP F pb w33 b4) by first | omega | assumption)).kx u60)
  have nTb63 : ¬ TP (FX F (w59.heap.size + 1)) pb w59 b4 := TP.not (fun h => h.elim (hp.n4) (by omega)) B64 (by decide)
  have B66 := ((B40.keep u45 (show ¬ (TP F pb w33 b3) by first | omega | assumption)).kx u60)
  have nTb65 : ¬ TP (FX F (w59.heap.size + 1)) pb w59 b3 := TP.not (fun h => h.elim (hp.n3) (by omega)) B66 (by decide)
  have B68 := ((B42.keep u45 (show ¬ (TP F pb w33 bk5) by first | omega | assumption)).kx u60)
  have nTb67 : ¬ TP (FX F (w59.heap.size + 1)) pb w59 bk5 := TP.not (fun h => h.elim ((fun h => by have := hp.hF _ h; omega)) (by omega)) B68 (by decide)
  have B70 := (hbq.kx u60)
  have nTb69 : ¬ TP (FX F (w59.heap.size + 1)) pb w59 bq := TP.not (fun h => h.elim ((fun h => by have := hp.hF _ h; omega)) (by omega)) B70 (by decide)
  have nTb71 : ¬ TP F pb w59 b4 := TP.not hp.n4 B64 (by decide)
  have nTb72 : ¬ TP F pb w59 b3 := TP.not hp.n3 B66 (by decide)
  have nTb73 : ¬ TP F pb w59 bk5 := TP.not (fun h => by have := hp.hF _ h; omega) B68 (by decide)
  have nTb74 : ¬ TP F pb w59 bq := TP.not (fun h => by have := hp.hF _ h; omega) B70 (by decide)
  have lT4 := hT4.lt
  have lT3 := hT3.lt
  have hBC := DX.bent (F := (FX F (w59.heap.size + 1))) (pb := pb) (B' := (w59.heap.size + 1)) (wR := w59) (ts := ts) (k := k) hp.hCt hbR.1 (by omega) (Nat.le_succ _)
  have hBF := DfX.bent (F := (FX F (w59.heap.size + 1))) (pb := pb) (B' := (w59.heap.size + 1)) (wR := w59) (ts := ts) (k := k) hp.hCft hbR.2 (by omega) (Nat.le_succ _)
  refine WC.weak [(1, .pointer (some ⟨b4, 0, none⟩)), (3, .pointer (some ⟨b3, 0, none⟩)), (4, .pointer (some ⟨bk5, 0, none⟩)), (5, .pointer (some ⟨bq, 0, none⟩)), (24, .func (.func 125) #[] #[.pointer (some ⟨bT4, 0, none⟩), .pointer (some ⟨bT5, 0, none⟩), .pointer (some ⟨bT3, 0, none⟩)])] ⟨rfl, rfl, rfl, rfl, rfl, trivial⟩ (c_rangeL (γ := HC) (δ := Unit) (lb := [.pointer (some ⟨bT4, 0, none⟩), .pointer (some ⟨bT5, 0, none⟩), .pointer (some ⟨bT3, 0, none⟩)]) (enc := encHC) own125 rfl rfl (YC (FX F (w59.heap.size + 1)) pb w59.heap.size n (m - 1) (DX (FX F (w59.heap.size + 1)) pb w59 C R ts k)) (ZC (FX F (w59.heap.size + 1)) pb (DX (FX F (w59.heap.size + 1)) pb w59 C R ts k)) (FC (FX F (w59.heap.size + 1)) pb (DfX (FX F (w59.heap.size + 1)) pb w59 Cf Rf ts k)) (EC (FX F (w59.heap.size + 1)) pb w59 (DX (FX F (w59.heap.size + 1)) pb w59 C R ts k (chP n (m - 1) (k + 1)))) (EC (FX F (w59.heap.size + 1)) pb w59 (EndC (chP n (m - 1) (k + 1)) (DfX (FX F (w59.heap.size + 1)) pb w59 Cf Rf ts k))) (ZC.turned (hBC.turned (Nat.le_refl _)) (.inr rfl)) (FC.turned (hBF.turned (Nat.le_refl _)) (.inr rfl)) (EC.turned (fun _ => (hBC.turned (Nat.le_refl _)) _) (.inr rfl)) (EC.turned (EndC.turned (hBF.turned (Nat.le_refl _))) (.inr rfl)) ?_ (fun x d => [(1, .pointer (some ⟨b4, 0, none⟩)), (3, .pointer (some ⟨b3, 0, none⟩)), (4, .pointer (some ⟨bk5, 0, none⟩)), (5, .pointer (some ⟨bq, 0, none⟩)), (6, .slice x.ao x.xs.length x.cap)]) (fun x (d : Unit) W => YC (FX F (w59.heap.size + 1)) pb w59.heap.size n (m - 1) (DX (FX F (w59.heap.size + 1)) pb w59 C R ts k) x W) (fun d x W W' h hl u => YC.turned (hBC.turned (Nat.le_refl _)) _ _ _ h hl u) ?_ ?_ ?_ ?_)
  ·
   intro l_ D_ R_ Rf_ W hD_ hl_ hsz hE1 hH_ hR_
   subst hD_ hl_
   have hm9 : (((m - 1 : Nat) : Int)) = (m : Int) - 1 := by omega
   refine (ih (m - 1) (by omega) (FX F (w59.heap.size + 1)) (w59.heap.size + 1) w59.heap.size (DX (FX F (w59.heap.size + 1)) pb w59 C R ts k) (DfX (FX F (w59.heap.size + 1)) pb w59 Cf Rf ts k) R_ Rf_ bT4 bT5 bT3 (k + 1) W ⟨?_, ?_, hBC.mono (by omega), hBF.mono (by omega), hH_, by rw [hm9]; exact hT4.kx hE1, hT5.kx hE1, hT3.kx hE1, fun i h => h.elim (fun h => by have := hp.hF _ h; omega) (fun h => by omega), fun h => h.elim ((fun h => by have := hp.hF _ h; omega)) (by omega), fun h => h.elim ((fun h => by have := hp.hF _ h; omega)) (by omega), .inr rfl, rfl, by omega, ⟨hp.hpb.1, by omega⟩, hp.hn, by omega, by omega, ⟨by simpa using hp.hC _ _ _ hCR hE1, hR2 _ _ hRR hE1, hE1.to⟩, hR_⟩).mono fun _ w9 h9 => ?_
   · exact fun p W W' h u => ⟨hp.hC _ _ _ h.hc u, hR2 _ _ h.hr u, h.hu.nx u⟩
   · exact fun p W W' h u => ⟨hp.hCf _ _ _ h.hc u, hRf2 _ _ h.hr u, h.hu.nx u⟩
   have h8 := (hE1.to (S := TP (FX F (w59.heap.size + 1)) pb w59)).next h9.2 (fun i hi h => TP.backE hE1 hi h)
   exact h9.1.elim (fun q => .inl ⟨⟨q.1, h8⟩, q.2⟩) (fun q => .inr ⟨⟨q.1, h8⟩, q.2⟩)
  ·
   intro lq x W K75 hI hK75
   change WC _ _ _ _ _ _ [(25, .slice x.ao x.xs.length x.cap), (1, .pointer (some ⟨b4, 0, none⟩)), (3, .pointer (some ⟨b3, 0, none⟩)), (4, .pointer (some ⟨bk5, 0, none⟩)), (5, .pointer (some ⟨bq, 0, none⟩)), (24, .func (.func 125) #[] #[.pointer (some ⟨bT4, 0, none⟩), .pointer (some ⟨bT5, 0, none⟩), .pointer (some ⟨bT3, 0, none⟩)])] _
   refine (q_of ?_)
   refine go ?_
   exact hK75 () _ _ ⟨rfl, rfl, rfl, rfl, rfl, trivial⟩ (Upd.refl (fun _ => False) W) hI
  ·
   intro lq x d w76 hY
   have huR := hY.hc.hu
   have hlx := hY.len.1
   have zhuR := huR.size
   try have Y77 := Sc.mk (Y62.u.next huR (fun i hi (h : TP (FX F (w59.heap.size + 1)) pb w59 i) => show TP F pb w0 i by first | omega | assumption | exact TP.back (Sc.u (by assumption)) hi h | exact h.elim (fun h => TP.back (Sc.u (by assumption)) hi h) (fun h => by omega) | exact h.elim id (fun h => by omega)))
   have lt_x_g := hY.num.lt
   have B79 := (B64.keep huR (show ¬ (TP (FX F (w59.heap.size + 1)) pb w59 b4) by first | omega | assumption))
   have nTb78 : ¬ TP F pb w76 b4 := TP.not hp.n4 B79 (by decide)
   have B81 := (B66.keep huR (show ¬ (TP (FX F (w59.heap.size + 1)) pb w59 b3) by first | omega | assumption))
   have nTb80 : ¬ TP F pb w76 b3 := TP.not hp.n3 B81 (by decide)
   have B83 := (B68.keep huR (show ¬ (TP (FX F (w59.heap.size + 1)) pb w59 bk5) by first | omega | assumption))
   have nTb82 : ¬ TP F pb w76 bk5 := TP.not (fun h => by have := hp.hF _ h; omega) B83 (by decide)
   have B85 := (B70.keep huR (show ¬ (TP (FX F (w59.heap.size + 1)) pb w59 bq) by first | omega | assumption))
   have nTb84 : ¬ TP F pb w76 bq := TP.not (fun h => by have := hp.hF _ h; omega) B85 (by decide)
   change WC _ _ _ _ _ _ [(1, .pointer (some ⟨b4, 0, none⟩)), (3, .pointer (some ⟨b3, 0, none⟩)), (4, .pointer (some ⟨bk5, 0, none⟩)), (5, .pointer (some ⟨bq, 0, none⟩)), (6, .slice x.ao x.xs.length x.cap)] _
   refine (q_of ?_)
   have hcellsR := (TP.cellsB (F := F) (pb := pb) (B := w59.heap.size) (w := w76) (fun i h => by have := hp.hF i h; omega))
   refine go ?_
   have nTb87 : ¬ TQ F pb w76 bk5 := TQ.not (Upd.refl _ _) (fun h => by have := hp.hF _ h; omega) (by omega) B83 (by decide)
   have nTb88 : ¬ TQ F pb w76 bq := TQ.not (Upd.refl _ _) (fun h => by have := hp.hF _ h; omega) (by omega) B85 (by decide)
   refine c_drawnM follows (fun i => TQ F pb w76 i) (OTl [0, 2, 6, 5, 9, 11, 12]) (by kernel_rfl) fun w89 u90 => ?_
   have zu90 := u90.size
   try have Y91 := Sc.mk (Y77.u.nx u90)
   refine go ?_
   refine x_l fun bk92 w93 ebk92 sbk92 B94 u95 => ?_
   try have Y96 := Sc.mk (Y91.u.nx u95)
   refine go ?_
   have D97 := ((hY.num.keep u90 (fun _ h => h)).keep u95 (fun _ h => h))
   refine t_appLit (enc := encI) (z := .int .i64 0) (bytes := 8) (k := 1) (xs := [(k : Int)]) (ys := x.xs) underlying38 (by kernel_rfl) rfl (by decide) (fun _ => rfl) (by intro x; simp [encI, Value.oneCell']) rfl rfl rfl rfl B94 (D97.sl (fun _ => rfl)) (by first | decide | simp) (by omega) (by decide) (fun ao98 gb99 cp100 w101 A102 u103 gegb99 => ?_)
   have zu103 := u103.size
   try have Y104 := Sc.mk (Y96.u.next u103 (fun i hi (h : (i = bk92 ∧ bk92 ≤ i)) => show TP F pb w0 i by first | omega | assumption | exact TP.back (Sc.u (by assumption)) hi h | exact h.elim (fun h => TP.back (Sc.u (by assumption)) hi h) (fun h => by omega) | exact h.elim id (fun h => by omega)))
   have lt_gb99 := A102.lt
   refine go ?_
   have uE9 : Sc (fun _ => False) w76 w101 := ⟨((((Upd.refl (fun _ => False) w76).nx u90).nx u95).next u103 (fun i hi h => by omega))⟩
   obtain ⟨gZ, haZ, hgZ⟩ := (A102).lower' (base' := pb) (by omega) hp.hpb.1
   refine t_yield (vs := [.slice ao98 ((([(k : Int)] ++ x.xs)).length) cp100]) rfl rfl rfl rfl (hp.hH.hand ⟨ts ++ x.pre.map ((k : Int) :: ·), (k : Int) :: x.xs, ao98, gZ, cp100, w101⟩ _ ⟨hp.hC _ _ _ hY.hc.hc uE9.u, haZ, fun h hf => by have h7 := hgZ h; have h8 : gZ < w0.heap.size := hp.hF _ hf; omega, ⟨by show x.xs.length + 1 ≤ m; omega, fun i hi => by
     rcases List.mem_cons.1 hi with e | e
     · omega
     · exact hY.len.2 i e⟩, by have := hp.hD; omega, Upd.refl _ _⟩ (hR2 _ _ hY.hc.hr uE9.u)) (by rintro e w' (⟨rfl, _⟩ | ⟨rfl, _⟩) <;> exact ⟨_, rfl⟩) (fun v105 w106 r107 => ?_)
   rcases r107 with ⟨hvr107, hrr107⟩ | ⟨hvr107, hrr107⟩ <;> injection hvr107 with hvr107 <;> subst hvr107
   ·
    obtain ⟨⟨hzC, u108x⟩, hzR⟩ := hrr107
    have u108 := u108x.mono (fun i h => TQ.of uE9.u h)
    have zu108 := u108.size
    try have Y109 := Sc.mk (Y104.u.next u108 (fun i hi (h : TQ F pb w76 i) => show TP F pb w0 i by first | omega | assumption | exact TP.back (Sc.u (by assumption)) hi h | exact h.elim (fun h => TP.back (Sc.u (by assumption)) hi h) (fun h => by omega) | exact h.elim id (fun h => by omega)))
    refine s_next ((Upd.refl _ _).next u108 (fun i hi (h : TQ F pb w76 i) => show w89.heap.size ≤ i ∨ (TQ F pb w76 i) by first | omega | exact .inr h)) ?_
    refine go ?_
    have hUr := (((((Upd.refl (fun i => TP F pb w76 i) w76).nx u90).nx u95).next u103 (fun i hi (h : (i = bk92 ∧ bk92 ≤ i)) => show TP F pb w76 i by first | omega | assumption | exact TP.back (Sc.u (by assumption)) hi h | exact h.elim (fun h => TP.back (Sc.u (by assumption)) hi h) (fun h => by omega) | exact h.elim id (fun h => by omega))).next u108 (fun i hi (h : TQ F pb w76 i) => show TP F pb w76 i by first | omega | assumption | exact TP.back (Sc.u (by assumption)) hi h | exact h.elim (fun h => TP.back (Sc.u (by assumption)) hi h) (fun h => by omega) | exact h.elim id (fun h => by omega)))
    have uW : Sc (TP (FX F (w59.heap.size + 1)) pb w76) _ _ := ⟨hUr.mono (fun i h => h.fx)⟩
    exact ⟨fun a ha => ⟨KeepsFrom.of_updB hUr hcellsR, (⟨⟨by rw [List.map_append, ← List.append_assoc]; exact hzC, hzR, hY.hc.hu.next uW.u (fun i hi h => TP.back hY.hc.hu hi h)⟩, (hY.upd.mono fun i e => .inl (.inr e)).next uW.u (fun i hi h => TP.back (hY.upd.mono fun i e => .inl (.inr e)) hi h)⟩ : ZC (FX F (w59.heap.size + 1)) pb (DX (FX F (w59.heap.size + 1)) pb w59 C R ts k) x _)⟩⟩
   obtain ⟨⟨hzC, u108x⟩, hzR⟩ := hrr107
   have u108 := u108x.mono (fun i h => TQ.of uE9.u h)
   have zu108 := u108.size
   try have Y110 := Sc.mk (Y104.u.next u108 (fun i hi (h : TQ F pb w76 i) => show TP F pb w0 i by first | omega | assumption | exact TP.back (Sc.u (by assumption)) hi h | exact h.elim (fun h => TP.back (Sc.u (by assumption)) hi h) (fun h => by omega) | exact h.elim id (fun h => by omega)))
   refine s_next ((Upd.refl _ _).next u108 (fun i hi (h : TQ F pb w76 i) => show w89.heap.size ≤ i ∨ (TQ F pb w76 i) by first | omega | exact .inr h)) ?_
   refine go ?_
   have hUr := (((((Upd.refl (fun i => TP F pb w76 i) w76).nx u90).nx u95).next u103 (fun i hi (h : (i = bk92 ∧ bk92 ≤ i)) => show TP F pb w76 i by first | omega | assumption | exact TP.back (Sc.u (by assumption)) hi h | exact h.elim (fun h => TP.back (Sc.u (by assumption)) hi h) (fun h => by omega) | exact h.elim id (fun h => by omega))).next u108 (fun i hi (h : TQ F pb w76 i) => show TP F pb w76 i by first | omega | assumption | exact TP.back (Sc.u (by assumption)) hi h | exact h.elim (fun h => TP.back (Sc.u (by assumption)) hi h) (fun h => by omega) | exact h.elim id (fun h => by omega)))
   have uW : Sc (TP (FX F (w59.heap.size + 1)) pb w76) _ _ := ⟨hUr.mono (fun i h => h.fx)⟩
   exact ⟨fun a ha => ⟨KeepsFrom.of_updB hUr hcellsR, (⟨⟨hzC, hzR, hY.hc.hu.next uW.u (fun i hi h => TP.back hY.hc.hu hi h)⟩, (hY.upd.mono fun i e => .inl (.inr e)).next uW.u (fun i hi h => TP.back (hY.upd.mono fun i e => .inl (.inr e)) hi h)⟩ : FC (FX F (w59.heap.size + 1)) pb (DfX (FX F (w59.heap.size + 1)) pb w59 Cf Rf ts k) x _)⟩⟩
  ·
   have hmk0 := (hmkl.keep ((Upd.refl (fun _ => False) _).nx u60) (CellsIn.none _))
   have hmc0 := (TP.cellsB (F := F) (pb := pb) (B := w0.heap.size) (w := w59) (fun i h => hp.hF i h))
   intro D112 w111 hD112 hE hdD112
   have hu9 : Sc (TP F pb w59) w59 w111 := ⟨⟨hE.hu.os, hE.hu.tape, hE.hu.output, hE.hu.size, fun k hk hn => hE.hu.block k hk (fun h => hn (h.unfx (by omega)))⟩⟩
   have zhu9 := hu9.u.size
   try have Y113 := Sc.mk (Y62.u.next hu9.u (fun i hi (h : TP F pb w59 i) => show TP F pb w0 i by first | omega | assumption | exact TP.back (Sc.u (by assumption)) hi h | exact h.elim (fun h => TP.back (Sc.u (by assumption)) hi h) (fun h => by omega) | exact h.elim id (fun h => by omega)))
   have hstep : chP n m i0 = (ts ++ (chP n (m - 1) (k + 1)).map ((k : Int) :: ·)) ++ chP n m (k + 1) := by rw [htk, ch_step hm1 hkn, List.append_assoc]
   have mk114 := (hmk0.keepB hu9.u hmc0).push (D := D112) (by omega) hdD112 (fun d hd D' e => Nat.lt_of_lt_of_le (hmk0.lt d hd D' e) hD112)
   refine go ?_
   obtain ⟨pr9, v9, po9, e9, hcf9⟩ := hE.hi
   have hmkE := mk114
   refine f_retMc0  results125  mk114 (fun w115 u116 omw115 => ?_)
   have zu116 := u116.size
   try have Y117 := Sc.mk (Y113.u.next u116 (fun i hi (h : w0.heap.size ≤ i) => show TP F pb w0 i by first | omega | assumption | exact TP.back (Sc.u (by assumption)) hi h | exact h.elim (fun h => TP.back (Sc.u (by assumption)) hi h) (fun h => by omega) | exact h.elim id (fun h => by omega)))
   unfold ChQ
   exact ⟨.inr ⟨⟨_, _, po9.map ((k : Int) :: ·) ++ chP n m (k + 1), by rw [hstep, e9]; simp, hp.hCft _ _ _ _ hcf9.hc omw115 hmkE.bent⟩, hbR.2 () _ _ _ hcf9.hr omw115 hmkE.bent⟩, Y117.u⟩
  ·
   have hmk0 := (hmkl.keep ((Upd.refl (fun _ => False) _).nx u60) (CellsIn.none _))
   have hmc0 := (TP.cellsB (F := F) (pb := pb) (B := w0.heap.size) (w := w59) (fun i h => hp.hF i h))
   intro D119 w118 hD119 hE hdD119
   have hu9 : Sc (TP F pb w59) w59 w118 := ⟨⟨hE.hu.os, hE.hu.tape, hE.hu.output, hE.hu.size, fun k hk hn => hE.hu.block k hk (fun h => hn (h.unfx (by omega)))⟩⟩
   have zhu9 := hu9.u.size
   try have Y120 := Sc.mk (Y62.u.next hu9.u (fun i hi (h : TP F pb w59 i) => show TP F pb w0 i by first | omega | assumption | exact TP.back (Sc.u (by assumption)) hi h | exact h.elim (fun h => TP.back (Sc.u (by assumption)) hi h) (fun h => by omega) | exact h.elim id (fun h => by omega)))
   have hstep : chP n m i0 = (ts ++ (chP n (m - 1) (k + 1)).map ((k : Int) :: ·)) ++ chP n m (k + 1) := by rw [htk, ch_step hm1 hkn, List.append_assoc]
   have mk121 := (hmk0.keepB hu9.u hmc0).push (D := D119) (by omega) hdD119 (fun d hd D' e => Nat.lt_of_lt_of_le (hmk0.lt d hd D' e) hD119)
   refine go ?_
   have k124 := (B70.keep hu9.u (show ¬ (TP F pb w59 bq) by first | omega | assumption))
   refine go ?_
   refine x_n fun bk125 w126 ebk125 sbk125 B127 u128 => ?_
   try have Y129 := Sc.mk (Y120.u.nx u128)
   refine x_s fun w130 sw130 B132 u131 => ?_
   try have Y133 := Sc.mk (Y129.u.next u131 (fun i hi (h : i = bk125) => show TP F pb w0 i by first | omega | assumption | exact TP.back (Sc.u (by assumption)) hi h | exact h.elim (fun h => TP.back (Sc.u (by assumption)) hi h) (fun h => by omega) | exact h.elim id (fun h => by omega)))
   refine go ?_
   refine x_s fun w134 sw134 B136 u135 => ?_
   try have Y137 := Sc.mk (Y133.u.next u135 (fun i hi (h : i = bk125) => show TP F pb w0 i by first | omega | assumption | exact TP.back (Sc.u (by assumption)) hi h | exact h.elim (fun h => TP.back (Sc.u (by assumption)) hi h) (fun h => by omega) | exact h.elim id (fun h => by omega)))
   refine go ?_
   have D138 := (((mk121.keepB u128 (CellsB.of (CellsIn.none _))).keepB u131 (CellsB.of (B127).cellsIn)).keepB u135 (CellsB.of (B132).cellsIn))
   exact hK43 (k + 1, bk125, ts ++ (chP n (m - 1) (k + 1)).map ((k : Int) :: ·), (mark D119 :: dl)) _ _ (by show 22 - (k + 1) < 22 - k; omega) ⟨rfl, rfl, rfl, rfl, trivial⟩ ⟨(((((u45.nx u60).next hu9.u (fun i hi (h : TP F pb w59 i) => show TP F pb w33 i by first | omega | assumption | exact TP.back (Sc.u (by assumption)) hi h | exact h.elim (fun h => TP.back (Sc.u (by assumption)) hi h) (fun h => by omega) | exact h.elim id (fun h => by omega))).nx u128).next u131 (fun i hi (h : i = bk125) => show TP F pb w33 i by first | omega | assumption | exact TP.back (Sc.u (by assumption)) hi h | exact h.elim (fun h => TP.back (Sc.u (by assumption)) hi h) (fun h => by omega) | exact h.elim id (fun h => by omega))).next u135 (fun i hi (h : i = bk125) => show TP F pb w33 i by first | omega | assumption | exact TP.back (Sc.u (by assumption)) hi h | exact h.elim (fun h => TP.back (Sc.u (by assumption)) hi h) (fun h => by omega) | exact h.elim id (fun h => by omega))), (by show i0 ≤ k + 1 ∧ k + 1 ≤ 21; omega), B136, (by show w0.heap.size ≤ bk125; omega), hstep, (hp.hC _ _ _ hE.hi.hc ((((Upd.refl (fun _ => False) _).nx u128).next u131 (fun i hi (h : i = bk125) => show False by first | omega | assumption)).next u135 (fun i hi (h : i = bk125) => show False by first | omega | assumption))), (hR2 _ _ hE.hi.hr ((((Upd.refl (fun _ => False) _).nx u128).next u131 (fun i hi (h : i = bk125) => show False by first | omega | assumption)).next u135 (fun i hi (h : i = bk125) => show False by first | omega | assumption))), D138⟩
 have hkn : n < k + m := by omega
 refine go ?_
 have hCe := hCk
 have hRe := hRk
 have hmkE := hmkl
 refine f_retMc0  results125  hmkl (fun w139 u140 omw139 => ?_)
 have zu140 := u140.size
 try have Y141 := Sc.mk (Y53.u.next u140 (fun i hi (h : w0.heap.size ≤ i) => show TP F pb w0 i by first | omega | assumption | exact TP.back (Sc.u (by assumption)) hi h | exact h.elim (fun h => TP.back (Sc.u (by assumption)) hi h) (fun h => by omega) | exact h.elim id (fun h => by omega)))
 unfold ChQ
 have e9 : chP n m i0 = ts := by rw [htk, ch_end hm1 hkn, List.append_nil]
 exact ⟨.inl ⟨by rw [e9]; exact hp.hCt _ _ _ _ hCe omw139 hmkE.bent, hbR.1 () _ _ _ hRe omw139 hmkE.bent⟩, Y141.u⟩

theorem choices1_c (pb n : Nat) : ∀ m, ChoicesQ Tryz.prog pb n m := by
  intro m
  induction m using Nat.strongRecOn with
  | _ m ih => exact fun F l D C Cf R Rf b4 b5 b3 i0 w0 hp => choices1_s pb n m F l D C Cf R Rf b4 b5 b3 i0 w0 hp ih

end Go.Proofs.YtclinbbghnebaaaGreat
