/-
  The contract of do. Conditions: none.
-/
import Derived.Test.YtblkphbblkncdaaA10
import Derived.Test.YtblkphbblkncdaaYl2
import Derived.Test.YtblkphbblkncdaaMc
namespace Go.Proofs.Ytblkphbblkncdaa
open Go Go.RowKit

theorem Voy.marks {base pv B : Nat} {w w' : World} {V : VG} {ds : List Deferred} (h : Voy base pv w V) (hm : Marks B ds w) (u1 : Upd (fun i => B ≤ i) w w') (u2 : OffMarks ds w w') (hr : V.r < B) (hb : base ≤ B) : Voy base pv w' V := by
  have u : Upd (fun i => B ≤ i ∧ ∃ d ∈ ds, d = mark i) w w' := ⟨u1.os, u1.tape, u1.output, u1.size, fun k hk hn => by
    by_cases h1 : B ≤ k
    · exact u2.block k hk (fun h2 => hn ⟨h1, h2⟩)
    · exact u1.block k hk h1⟩
  have ne : ∀ b c t f, w.heap[b]? = some (.cells c t f) → ¬ (B ≤ b ∧ ∃ d ∈ ds, d = mark b) := fun b c t f hc e => hm.notCells hc e.2
  have accNe : ∀ {α : Type} {enc : α → List Value} {k : Nat} {e : TypeId} {ao : Option Addr} {g cap : Nat} {xs : List α}, Acc enc k e base w ao g cap xs → base ≤ g → ¬ (B ≤ g ∧ ∃ d ∈ ds, d = mark g) := fun ha hg => by
    obtain ⟨_, h1⟩ := ha.own hg
    exact ne _ _ _ _ h1
  exact h.keepS u ⟨ne _ _ _ _ h.blk, fun hq e => by have := h.bold hq; omega, accNe h.pacc, fun x hx => ⟨ne _ _ _ _ (h.hold x hx).blk, accNe (h.hold x hx).lays.acc, fun y hy => accNe ((h.hold x hx).lays.path y hy).1⟩, ne _ _ _ _ h.lblk, fun e => by omega, accNe h.dacc, fun x hx => ⟨accNe (h.land x hx).acc, fun y hy => accNe ((h.land x hx).path y hy).1⟩⟩
theorem un_path {yl : List HLay} {ps : List Lay} {ev : Int} (hm : yl.map HLay.v = ps.map (movL ev)) {x : HLay} (hx : x ∈ yl) : 0 < x.v.path.length := by
  have : x.v ∈ ps.map (movL ev) := by rw [← hm]; exact List.mem_map.2 ⟨x, hx, rfl⟩
  obtain ⟨y, _, e⟩ := List.mem_map.1 this
  rw [← e]; simp [movL]
theorem Acc.mono2 {α : Type} {enc : α → List Value} {k : Nat} {e : TypeId} {base base' : Nat} {w : World} {g cap : Nat} {xs : List α} {g' : Nat} (h : Acc enc k e base w (some ⟨g', 0, none⟩) g cap xs) (hb : base' ≤ g) : Acc enc k e base' w (some ⟨g', 0, none⟩) g cap xs := by
  refine ⟨h.lt, ?_⟩
  rcases h.at_ with ⟨h1, _⟩ | ⟨h1, h2, h3⟩
  · cases h1
  · exact .inr ⟨h1, hb, h3⟩
/-- The voyage behind an event. -/
def Fin (V V' : VG) (x : Ev) (n : Nat) : Prop := V'.st = stepF V.st x n ∧ V'.mi = x.minute ∧ V'.bs = V.bs ∧ V'.hl.map HG.cap = V.hl.map HG.cap ∧ V'.bb = V.bb
theorem map_setH {α : Type} (f : HG → α) {hl : List HG} {i : Nat} {q : HG} (h : i < hl.length) (hq : f q = f (nth hl i)) : (hl.set i q).map f = hl.map f := by
  rw [List.map_set]
  refine List.ext_getElem? fun j => ?_
  by_cases hj : i = j
  · subst hj
    rw [List.getElem?_set_self (by simpa using h), List.getElem?_map, List.getElem?_eq_getElem h, ← nth_eq h, hq]; rfl
  · rw [List.getElem?_set_ne hj]
theorem fin1 {V : VG} {x : Ev} {n : Nat} (hk : x.kind = 1) (hi : (x.to).toNat < V.hl.length) (ao : Option Addr) (g cp : Nat) (a : Option Addr) (g2 c2 : Nat) :
    Fin V (VG.setH { V with mi := x.minute, ls := V.ls.set (x.bill).toNat (nth V.ls (x.bill).toNat + x.tons) } (x.to).toNat { nth V.hl (x.to).toNat with ao := ao, g := g, cp := cp, xs := (nth V.hl (x.to).toNat).xs ++ [(⟨⟨x.bill, x.tons, [] ++ [(n : Int)]⟩, a, g2, c2⟩ : HLay)] }) x n := by
  refine ⟨?_, rfl, rfl, map_setH HG.cap hi rfl, rfl⟩
  unfold stepF
  rw [if_pos hk, st_hold hi]
  simp only [VG.st, VG.setH, Stt.mk.injEq, and_true, true_and]
  exact ⟨by rw [List.map_set, List.map_append]; rfl, map_setH HG.sealed hi rfl⟩
theorem fin2 {V V' : VG} {x : Ev} {n : Nat} {wR : World} (hk : x.kind = 2) (hi : (x.frm).toNat < V.hl.length) (hj : (x.to).toNat < V.hl.length) (hij : (x.frm).toNat ≠ (x.to).toNat) (h : ShSt (x.frm).toNat (x.to).toNat { V with mi := x.minute } x.tons n n wR [] 0 V') : Fin V V' x n := by
  obtain ⟨xf, ao, g, cp, xt, ps, rfl, _, hm, ht, _, _⟩ := h
  rw [takV_zero _ _ (Int.le_refl 0)] at ht
  simp only [List.nil_append, List.append_nil] at ht
  have hj2 : (x.to).toNat < (V.hl.set (x.frm).toNat { nth V.hl (x.frm).toNat with xs := xf }).length := by rw [List.length_set]; exact hj
  refine ⟨?_, rfl, rfl, (map_setH HG.cap hj2 (by rw [nth_set_ne hij.symm])).trans (map_setH HG.cap hi rfl), rfl⟩
  unfold stepF
  rw [if_neg (by omega), if_pos hk, st_hold hi, st_hold hj]
  rw [ht]
  simp only [VG.st, VG.setH, Stt.mk.injEq, and_true, true_and]
  refine ⟨?_, (map_setH HG.sealed hj2 (by rw [nth_set_ne hij.symm])).trans (map_setH HG.sealed hi rfl)⟩
  rw [List.map_set, List.map_set, ← hm]
theorem fin3 {V VE : VG} {x : Ev} {n : Nat} {xf : List HLay} {ps : List Lay} {yl : List HLay} (hk : x.kind = 3) (hi : (x.frm).toNat < V.hl.length) (hV : VE = VG.setH { V with mi := x.minute } (x.frm).toNat { nth V.hl (x.frm).toNat with xs := xf }) (hm : yl.map HLay.v = ps.map (movL n)) (ht : takV ((nth V.hl (x.frm).toNat).xs.map HLay.v) x.tons = ((takV (xf.map HLay.v) 0).1, ps ++ ([] ++ (takV (xf.map HLay.v) 0).2)))
    (da : Option Addr) (dg dc : Nat) (ao : Option Addr) (g cp : Nat) : Fin V { VE with ld := VE.ld ++ [(⟨(n : Int), x.port, ao, g, cp, yl⟩ : LG)], da := da, dg := dg, dc := dc } x n := by
  subst hV
  rw [takV_zero _ _ (Int.le_refl 0)] at ht
  simp only [List.nil_append, List.append_nil] at ht
  refine ⟨?_, rfl, rfl, map_setH HG.cap hi rfl, rfl⟩
  unfold stepF
  rw [if_neg (by omega), if_neg (by omega), if_pos hk, st_hold hi]
  rw [ht]
  simp only [VG.st, VG.setH, Stt.mk.injEq, and_true, true_and]
  refine ⟨?_, map_setH HG.sealed hi rfl, ?_⟩
  · rw [List.map_set]
  · rw [List.map_append, ← hm]; rfl
theorem fin4 {V : VG} {x : Ev} {n : Nat} (hk : x.kind = 4) (hi : (x.to).toNat < V.hl.length) : Fin V { VG.setH { V with mi := x.minute } (x.to).toNat { nth V.hl (x.to).toNat with sealed := true } with sl := V.sl ++ [x.sn] } x n := by
  refine ⟨?_, rfl, rfl, map_setH HG.cap hi rfl, rfl⟩
  unfold stepF
  rw [if_neg (by omega), if_neg (by omega), if_neg (by omega), if_pos hk]
  simp only [VG.st, VG.setH, Stt.mk.injEq, and_true, true_and]
  exact ⟨map_setH (fun h => h.xs.map HLay.v) hi rfl, by rw [List.map_set]⟩
theorem fin5 {V : VG} {x : Ev} {n : Nat} (hk : x.kind = 5) (hi : (x.frm).toNat < V.hl.length) : Fin V (VG.setH { V with mi := x.minute } (x.frm).toNat { nth V.hl (x.frm).toNat with sealed := false }) x n := by
  refine ⟨?_, rfl, rfl, map_setH HG.cap hi rfl, rfl⟩
  unfold stepF
  rw [if_neg (by omega), if_neg (by omega), if_neg (by omega), if_neg (by omega)]
  simp only [VG.st, VG.setH, Stt.mk.injEq, and_true, true_and]
  exact ⟨map_setH (fun h => h.xs.map HLay.v) hi rfl, by rw [List.map_set]⟩
def ShM (base pv iF jT pF bt bs : Nat) (V0 : VG) (t0 ev : Int) (n : Nat) (wR : World) (part : HLay) (t : Int) (V : VG) (W : World) : Prop := ShS base pv iF jT pF bt bs V0 t0 ev n wR [part.v] t V W ∧ PathM base W V.lb part ∧ 1 ≤ part.v.tons ∧ part.v.path.length ≤ n
def UnM (Dd : Nat → Prop) (m base pv iF pF bt bs : Nat) (V0 : VG) (t0 ev port : Int) (n b10 : Nat) (wR : World) (part : HLay) (t : Int) (V : VG) (W : World) : Prop := UnS Dd m base pv iF pF bt bs V0 t0 ev port n b10 wR [part.v] t V W ∧ PathM base W V.lb part ∧ 1 ≤ part.v.tons ∧ part.v.path.length ≤ n
/-- A round: what was handed out, and its box d. -/
def RoY (M : Nat → HLay → Int → VG → World → Prop) (wR : World) (x : GrE) (d : Nat) (W : World) : Prop := M d x.part x.t x.V W ∧ Blk W d 97 (encHLay x.part) ∧ wR.heap.size + 1 < d ∧ Upd (fun _ => True) x.w W
theorem RoY.turned {M : Nat → HLay → Int → VG → World → Prop} {wR : World} (hM : ∀ d p t V W W', M d p t V W → (∃ r, W.heap[wR.heap.size + 1]? = some (.loop r)) → Upd (· = wR.heap.size + 1) W W' → M d p t V W') (d : Nat) : Turned (wR.heap.size + 1) (fun x W => RoY M wR x d W) := fun x W W' h hl u =>
  ⟨hM _ _ _ _ _ _ h.1 hl u, h.2.1.keep u (h.2.1.notLoop hl), h.2.2.1, h.2.2.2.trans (u.mono fun _ _ => trivial)⟩
theorem ZGr.turned {C : Int → VG → World → Prop} {l : Nat} (hC : ∀ t V W W', C t V W → (∃ r, W.heap[l]? = some (.loop r)) → Upd (· = l) W W' → C t V W') : Turned l (ZGr C) := fun x W W' h hl u =>
  ⟨by obtain ⟨V, h1⟩ := h.1; exact ⟨V, hC _ _ _ _ h1 hl u⟩, h.2.trans (u.mono fun _ _ => trivial)⟩
theorem ShSt.facts {iF jT : Nat} {V0 V : VG} {t0 ev t : Int} {n : Nat} {wR : World} {mid : List Lay} (h : ShSt iF jT V0 t0 ev n wR mid t V) (hj : jT < V0.hl.length) : jT < V.hl.length ∧ (nth V.hl jT).p = (nth V0.hl jT).p ∧ ((nth V.hl jT).xs.length : Int) ≤ sumT ((nth V0.hl jT).xs.map HLay.v) + (t0 - t - sumT mid) ∧ ((nth V.hl jT).g = (nth V0.hl jT).g ∨ wR.heap.size + 1 < (nth V.hl jT).g) := by
  obtain ⟨xf, ao, g, cp, xt, ps, rfl, hg, _, _, _, hl⟩ := h
  rw [VG.setH_len, VG.setH_len, setH_nth (by rw [VG.setH_len]; exact hj)]
  exact ⟨hj, rfl, hl, hg⟩
theorem own74 : Own Try.prog 74 := ⟨Try.f74, Try.func74, by kernel_rfl, by kernel_rfl⟩

set_option maxHeartbeats 4000000 in
theorem do_c (base pv n : Nat) (V : VG) (ee : Ev) (w0 : World) (hv : Voy base pv w0 V) (hvo : VOk n V) (hx : okEv ee = true) (hc : EvOk V.bs (V.hl.map HG.cap) V.st V.mi ee) (hn : n ≤ 100) :
    CallsV Try.prog 74 [.pointer (some ⟨pv, 0, none⟩), .int .i64 (n : Int), .agg #[.int .i64 ee.kind, .int .i64 ee.minute, .int .i64 ee.bill, .int .i64 ee.frm, .int .i64 ee.to, .int .i64 ee.tons, .int .i64 ee.port, .int .i64 ee.sn]] w0 (fun _ w' => (∃ V', Voy base pv w' V' ∧ Fin V V' ee n) ∧ Upd (fun i => base ≤ i) w0 w') := by
 have hpb := hv.blk
 have hpg := hv.pge
 have hlg := hv.lge
 have hrge := hv.rge
 have hb0 : base ≤ w0.heap.size := Nat.le_trans hpg (Nat.le_of_lt hpb.lt)
 have hrlt := hv.seals.set.lt
 obtain ⟨hxm, hxb, hxf, hxt, hxn, _⟩ := okEv_rng hx
 have hlsn := hvo.lsn
 have hlbk := hv.lblk
 have hlbl := hlbk.lt
 have hpbl := hpb.lt
 have hpvl := (hv.vne hlbk).pv (by decide)
 refine f_enterM (N := 164) Try.func74 rfl rfl rfl (c_seq fun K1 hK1 => (c_region (t_box (cs := [.int .i64 (n : Int)]) rfl rfl rfl rfl (fun bk2 w3 ebk2 sbk2 B4 u5 => ?_))))
 have zu5 := u5.size
 refine t_box (cs := [.int .i64 ee.kind, .int .i64 ee.minute, .int .i64 ee.bill, .int .i64 ee.frm, .int .i64 ee.to, .int .i64 ee.tons, .int .i64 ee.port, .int .i64 ee.sn]) rfl rfl rfl rfl (fun bk7 w8 ebk7 sbk7 B9 u10 => ?_)
 have zu10 := u10.size
 refine t_nil' (hK1 _ _ (c_seq fun K12 hK12 => (c_region (t_move rfl rfl rfl (t_field Try.underlying41 rfl Try.sizeOf3 (1) rfl rfl rfl rfl (t_load Try.isAgg3 rfl rfl rfl (B9.get rfl) (t_nilchk rfl rfl rfl (t_field Try.underlying118 rfl Try.sizeOf3 (6) rfl rfl rfl rfl ?_))))))))
 have B13 := ((hpb.kx u5).kx u10)
 refine t_st (vs := [.int .i64 ee.minute]) Try.sizeOf3 rfl rfl rfl B13 rfl rfl rfl rfl (fun w14 sw14 B16 u15 => ?_)
 have zu15 := u15.size
 have B16 : Blk w14 pv 118 [.slice V.ab V.bs.length V.cb, .slice V.ah V.hs.length V.ch, .slice V.pa V.hl.length V.pc, .slice (some ⟨V.lb, 0, none⟩) V.ls.length V.ls.length, .map (some V.r), .slice V.da V.ld.length V.dc, .int .i64 ee.minute] := B16
 have hv1 : Voy base pv w14 ({ V with mi := ee.minute }) := (hv.setMi ((((Upd.refl (fun i => i = pv) w0).next u5 (fun _ _ h => h.elim)).next u10 (fun _ _ h => h.elim)).next u15 (fun i hi h => by omega)) B16)
 have hbs : base ≤ w14.heap.size := Nat.le_trans hv1.pge (Nat.le_of_lt hv1.blk.lt)
 refine t_nil' (hK12 _ _ (c_seq fun K18 hK18 => (c_region (t_mkfunc (vs := []) (us := [.pointer (some ⟨bk2, 0, none⟩)]) rfl rfl rfl rfl (t_alloc (cs := [.nilFunc]) Try.zeroValue174 rfl rfl rfl (fun bk19 w20 ebk19 sbk19 B21 u22 => ?_))))))
 have zu22 := u22.size
 refine t_st (vs := [.func (.func 87) #[] #[.pointer (some ⟨bk2, 0, none⟩)]]) Try.sizeOf174 rfl rfl rfl B21 rfl rfl rfl rfl (fun w24 sw24 B26 u25 => ?_)
 have zu25 := u25.size
 have E27 := (((((Upd.refl (fun i => base ≤ i) w0).nx u5).nx u10).next u15 (fun i hi (h : i = pv) => show base ≤ i by first | omega | assumption)).nx u22).next u25 (fun i hi (h : i = bk19) => show base ≤ i by first | omega | assumption)
 have B26 : Blk w24 bk19 174 [.func (.func 87) #[] #[.pointer (some ⟨bk2, 0, none⟩)]] := B26
 refine t_nil' (hK18 _ _ (c_seq fun K28 hK28 => (c_region (t_field Try.underlying41 rfl Try.sizeOf39 (0) rfl rfl rfl rfl ?_))))
 have B29 := (((B9.keep u15 (by omega)).kx u22).keep u25 (by omega))
 refine t_load Try.isAgg39 rfl rfl rfl (B29.get rfl) (t_nil' (hK28 _ _ (c_block (c_seq fun K30 hK30 => (c_region (t_cmp rfl rfl rfl rfl rfl (t_assign rfl rfl rfl (t_nil' (hK30 _ _ (c_condp rfl (fun g20 => ?_) (fun g20 => ?_)))))))))))
 ·
  have uT : useT ee = true := by simp [useT, g20]
  have hti := hc.to uT
  rw [List.length_map] at hti
  have lT0 := (hv.hold _ (nth_mem hti)).blk.lt
  have lgT0 := (hv.hold _ (nth_mem hti)).lays.acc.lt
  have hpT := (hv.hold _ (nth_mem hti)).pge
  have htn := (okEv_rng hx).2.2.2.2.2.2.1 (by omega)
  have hbi := hc.bill g20
  have hlr := hvo.lsr (ee.bill).toNat (by omega)
  have hbr := hvo.bil _ (nth_mem hbi)
  simp only [okBil, decide_eq_true_eq] at hbr
  have hfT := hvo.few (nth_mem hti)
  have hrT := hc.room uT (by omega)
  rw [st_hold hti, nth_map HG.cap hti] at hrT
  have hfw := hc.few g20
  refine c_seq fun K31 hK31 => (c_drawnR follows 11 (by kernel_rfl) (p_move rfl rfl rfl (p_nilchk rfl rfl rfl (p_field Try.underlying118 rfl Try.sizeOf45 (3) rfl rfl rfl rfl ?_))))
  have B35 := ((B16.kx u22).keep u25 (by omega))
  refine p_load Try.isAgg45 rfl rfl rfl (B35.get rfl) (p_field Try.underlying41 rfl Try.sizeOf3 (2) rfl rfl rfl rfl (p_load Try.isAgg3 rfl rfl rfl (B29.get rfl) ?_))
  have B36 := (((((hlbk.kx u5).kx u10).keep u15 (by omega)).kx u22).keep u25 (by omega))
  have i37 : (ee.bill).toNat < V.ls.length := (by omega)
  refine p_index (j := (ee.bill).toNat) Try.underlying45 Try.sizeOf3 rfl rfl rfl rfl ((SlI.own B36).addr (by omega)) (by omega) i37 (p_load Try.isAgg3 rfl rfl rfl (((SlI.own B36).at_ ((ee.bill).toNat) (by omega)) 0 _ rfl) (p_field Try.underlying41 rfl Try.sizeOf3 (5) rfl rfl rfl rfl (p_load Try.isAgg3 rfl rfl rfl (B29.get rfl) (p_ari rfl rfl rfl rfl rfl (by omega) (p_nil fun w38 u39 => ?_)))))
  have zu39 := u39.size
  have B41 := (B36.kx u39)
  have i42 : (ee.bill).toNat < V.ls.length := (by omega)
  refine t_index (j := (ee.bill).toNat) Try.underlying45 Try.sizeOf3 rfl rfl rfl rfl ((SlI.own B41).addr (by omega)) (by omega) i42 (t_storeI (ls := V.ls) (v := ((nth V.ls ((ee.bill).toNat)) + ee.tons)) ((ee.bill).toNat) Try.sizeOf3 rfl rfl rfl B41 (by omega) (fun w43 sw43 B45 u44 => ?_))
  have zu44 := u44.size
  have hv2 : Voy base pv w43 ({ V with mi := ee.minute, ls := V.ls.set ((ee.bill).toNat) (nth V.ls ((ee.bill).toNat) + ee.tons) }) := (hv1.setL (i := (ee.bill).toNat) (v := nth V.ls ((ee.bill).toNat) + ee.tons) (((((Upd.refl (fun i => i = V.lb) w14).next u22 (fun _ _ h => h.elim)).next u25 (fun i hi h => by omega)).next u39 (fun _ _ h => h.elim)).next u44 (fun i hi h => by omega)) B45)
  refine t_nil' (hK31 _ _ (c_seq fun K47 hK47 => (c_drawnQ follows (by kernel_rfl) (p_move rfl rfl rfl (p_nilchk rfl rfl rfl (p_field Try.underlying118 rfl Try.sizeOf114 (2) rfl rfl rfl rfl ?_))))))
  have B51 := ((B35.kx u39).keep u44 (by omega))
  refine p_load Try.isAgg114 rfl rfl rfl (B51.get rfl) (p_field Try.underlying41 rfl Try.sizeOf3 (4) rfl rfl rfl rfl ?_)
  have B52 := ((B29.kx u39).keep u44 (by omega))
  refine p_load Try.isAgg3 rfl rfl rfl (B52.get rfl) ?_
  have i53 : (ee.to).toNat < V.hl.length := (by omega)
  refine p_index (j := (ee.to).toNat) Try.underlying114 Try.sizeOf119 rfl rfl rfl rfl ((show Sl encPt 1 _ V.pa V.pg 0 V.hl from (hv2).pacc.sl (fun _ => rfl)).addr (by omega)) (by omega) i53 (p_load Try.isAgg119 rfl rfl rfl (((show Sl encPt 1 _ V.pa V.pg 0 V.hl from (hv2).pacc.sl (fun _ => rfl)).at_ ((ee.to).toNat) (by omega)) 0 _ rfl) (p_assign rfl rfl rfl (p_nil fun w54 u55 => ?_)))
  have zu55 := u55.size
  refine t_nil' (hK47 _ _ ?_)
  have hH : HoldM base w54 V.lb (nth V.hl ((ee.to).toNat)) := (hv2.ext ((Upd.refl (fun _ => False) w43).next u55 (fun _ _ h => h.elim))).hold _ (nth_mem hti)
  have lt__nth_V_hl_ee_to_toNat_g := hH.lays.acc.lt
  have hneT : base ≤ (nth V.hl ((ee.to).toNat)).g → (nth V.hl ((ee.to).toNat)).g ≠ (nth V.hl ((ee.to).toNat)).p := fun h => hH.lays.acc.neB hH.blk (by decide) h
  have hl9 := hH.blk.lt
  have hl8 := hH.lays.acc.lt
  have B57 := (B52.kx u55)
  have B58 := (((B26.kx u39).keep u44 (by omega)).kx u55)
  refine c_drawn follows 17 [some (42, some (.pointer (some ⟨(nth V.hl ((ee.to).toNat)).p, 0, none⟩))), some (43, some (.pointer (some ⟨(nth V.hl ((ee.to).toNat)).p, 0, none⟩))), some (44, some (.pointer (some ⟨(nth V.hl ((ee.to).toNat)).p, 0, none⟩))), some (45, some (.pointer (some ⟨(nth V.hl ((ee.to).toNat)).p, 2, none⟩))), some (46, some (.slice ((nth V.hl ((ee.to).toNat)).ao) (((nth V.hl ((ee.to).toNat)).xs).length) ((nth V.hl ((ee.to).toNat)).cp))), some (47, some (.func (.func 87) #[] #[.pointer (some ⟨bk2, 0, none⟩)])), some (48, some (.pointer (some ⟨bk7, 2, none⟩))), some (49, some (.int .i64 ee.bill)), some (50, some (.pointer (some ⟨bk7, 5, none⟩))), some (51, some (.int .i64 ee.tons)), some (52, some (.agg #[.int .i64 ee.bill, .int .i64 ee.tons, .slice none 0 0])), some (53, none), some (54, none), some (55, none), some (56, some (.pointer (some ⟨(nth V.hl ((ee.to).toNat)).p, 0, none⟩))), some (57, some (.pointer (some ⟨(nth V.hl ((ee.to).toNat)).p, 2, none⟩))), none] [[],[],[1],[2],[3],[],[],[6],[],[8],[7,9],[5,10],[11],[4,12,11],[0,0,1,2,3,4,5,6,7,8,9,10,11,12,13],[14,0,1,2,3,4,5,6,7,8,9,10,11,12,13],[15,13,13,0,1,2,3,4,5,6,7,8,9,10,11,12,13]] (fun D ρ w => Upd (fun i => i = (nth V.hl ((ee.to).toNat)).p ∨ (i = (nth V.hl ((ee.to).toNat)).g ∧ base ≤ i)) w54 w ∧ (D 13 = false → Acc encHLay 3 97 base w (nth V.hl ((ee.to).toNat)).ao (nth V.hl ((ee.to).toNat)).g (nth V.hl ((ee.to).toNat)).cp ((nth V.hl ((ee.to).toNat)).xs)) ∧ (D 13 = false → Blk w (nth V.hl ((ee.to).toNat)).p 122 [.int .i64 ((nth V.hl ((ee.to).toNat)).hull), .int .i64 ((nth V.hl ((ee.to).toNat)).cap), .slice ((nth V.hl ((ee.to).toNat)).ao) (((nth V.hl ((ee.to).toNat)).xs).length) ((nth V.hl ((ee.to).toNat)).cp), .bool ((nth V.hl ((ee.to).toNat)).sealed)]) ∧ (D 11 = true → ∃ gA cA, ρ 11 = .agg #[.int .i64 ee.bill, .int .i64 ee.tons, .slice (some ⟨gA, 0, none⟩) (List.length ([] ++ [(n : Int)])) cA] ∧ (D 12 = false → (Acc encI 1 3 base w (some ⟨gA, 0, none⟩) gA cA ([] ++ [(n : Int)]) ∧ w54.heap.size ≤ gA))) ∧ (D 12 = true → ∃ gA cA bk65, ρ 12 = .slice (some ⟨bk65, 0, none⟩) 1 1 ∧ w54.heap.size ≤ bk65 ∧ Blk w bk65 97 [.int .i64 ee.bill, .int .i64 ee.tons, .slice (some ⟨gA, 0, none⟩) (List.length ([] ++ [(n : Int)])) cA] ∧ (Acc encI 1 3 base w (some ⟨gA, 0, none⟩) gA cA ([] ++ [(n : Int)]) ∧ w54.heap.size ≤ gA)) ∧ (D 13 = true → ∃ gA cA ao71 gb72 cp73, ρ 13 = .slice ao71 ((((nth V.hl ((ee.to).toNat)).xs ++ [(⟨⟨ee.bill, ee.tons, [] ++ [(n : Int)]⟩, some ⟨gA, 0, none⟩, gA, cA⟩ : HLay)])).length) cp73 ∧ Acc encHLay 3 97 base w ao71 gb72 cp73 ((nth V.hl ((ee.to).toNat)).xs ++ [(⟨⟨ee.bill, ee.tons, [] ++ [(n : Int)]⟩, some ⟨gA, 0, none⟩, gA, cA⟩ : HLay)]) ∧ (gb72 = (nth V.hl ((ee.to).toNat)).g ∨ w54.heap.size ≤ gb72) ∧ (Acc encI 1 3 base w (some ⟨gA, 0, none⟩) gA cA ([] ++ [(n : Int)]) ∧ w54.heap.size ≤ gA) ∧ Blk w (nth V.hl ((ee.to).toNat)).p 122 [.int .i64 ((nth V.hl ((ee.to).toNat)).hull), .int .i64 ((nth V.hl ((ee.to).toNat)).cap), (bif D 16 then .slice ao71 ((((nth V.hl ((ee.to).toNat)).xs ++ [(⟨⟨ee.bill, ee.tons, [] ++ [(n : Int)]⟩, some ⟨gA, 0, none⟩, gA, cA⟩ : HLay)])).length) cp73 else .slice ((nth V.hl ((ee.to).toNat)).ao) (((nth V.hl ((ee.to).toNat)).xs).length) ((nth V.hl ((ee.to).toNat)).cp)), .bool ((nth V.hl ((ee.to).toNat)).sealed)])) rfl rfl rfl (by kernel_rfl) (by kernel_rfl) ⟨(Upd.drew _).to, (fun _ => hH.lays.acc.keep (Upd.drew _) (fun _ h => h)), (fun _ => hH.blk.keep (Upd.drew _) (fun h => h)), (fun h => by cases h), (fun h => by cases h), (fun h => by cases h)⟩ ⟨?_, ?_, ?_, ?_, ?_, ?_, ?_, ?_, ?_, ?_, ?_, ?_, ?_, ?_, ?_, ?_, ?_, trivial⟩ ?_
  · exact pz rfl rfl rfl rfl fun _ _ _ h => h
  · exact pz rfl rfl rfl rfl fun _ _ _ h => h
  · exact pz rfl rfl rfl rfl fun _ _ _ h => h
  · exact pzf Try.underlying122 rfl Try.sizeOf120 (2) rfl rfl rfl rfl rfl fun _ _ _ h => h
  · exact fun D ρ w78 hcD hnD hdD hW => ⟨_, kf_fr [45], fun Lr => t_load Try.isAgg120 rfl rfl rfl ((hW.2.2.1 (hcD.late 13 hnD rfl)).get rfl) (dz rfl hW)⟩
  · exact fun D ρ w87 hcD hnD hdD hW => ⟨_, kf_fr [6], fun Lr => t_load Try.isAgg174 rfl rfl rfl ((B58.keep hW.1 (by omega)).get rfl) (dz rfl hW)⟩
  · exact pzf Try.underlying41 rfl Try.sizeOf3 (2) rfl rfl rfl rfl rfl fun _ _ _ h => h
  · exact fun D ρ w97 hcD hnD hdD hW => ⟨_, kf_fr [48], fun Lr => t_load Try.isAgg3 rfl rfl rfl ((B57.keep hW.1 (by omega)).get rfl) (dz rfl hW)⟩
  · exact pzf Try.underlying41 rfl Try.sizeOf3 (5) rfl rfl rfl rfl rfl fun _ _ _ h => h
  · exact fun D ρ w107 hcD hnD hdD hW => ⟨_, kf_fr [50], fun Lr => t_load Try.isAgg3 rfl rfl rfl ((B57.keep hW.1 (by omega)).get rfl) (dz rfl hW)⟩
  · exact fun D ρ w _ _ _ hW => ⟨[(49, .int .i64 ee.bill), (51, .int .i64 ee.tons)], ⟨fi 7 rfl rfl rfl, fi 9 rfl rfl rfl, trivial⟩, fun Lr => t_build (ps := [(0, .int .i64 ee.bill), (1, .int .i64 ee.tons)]) (v := .agg #[.int .i64 ee.bill, .int .i64 ee.tons, .slice none 0 0]) rfl rfl ⟨rfl, rfl⟩ (fun w => by kernel_rfl) (dz rfl hW)⟩
  ·
   intro D ρ w117 hcD hnD hdD hW
   obtain ⟨u118, C119, T120, F121, F122, F123⟩ := hW
   have zu118 := u118.size
   refine ⟨_, kf_fr [47, 52], fun Lr => ?_⟩
   have B126 := ((((((((B4.kx u10).keep u15 (by omega)).kx u22).keep u25 (by omega)).kx u39).keep u44 (by omega)).kx u55).keep u118 (by omega))
   refine t_call own87 rfl rfl rfl rfl (moved_c base bk2 (n : Int) ee.bill ee.tons [] none 0 0 _ B126 (Sl.nil _ _ _ _ _ _) (Nat.le_refl _) (by decide) (by omega)) (fun v127 w128 r130 => ?_)
   obtain ⟨gA, cA, rfl, hAp, hgA, u129⟩ := r130
   have zu129 := u129.size
   exact dzn rfl ⟨(u118.next u129 (fun _ _ h => h.elim)), (fun h => ((C119 h).keep u129 (fun _ h => h))), (fun h => ((T120 h).keep u129 (fun h => h))), (fun _ => ⟨gA, cA, rfl, fun _ => ⟨hAp, by omega⟩⟩), (fun h => absurd ((hcD.late 12 hnD rfl).symm.trans h) (by decide)), (fun h => absurd ((hcD.late 13 hnD rfl).symm.trans h) (by decide))⟩
  ·
   intro D ρ w132 hcD hnD hdD hW
   obtain ⟨u133, C134, T135, F136, F137, F138⟩ := hW
   have zu133 := u133.size
   obtain ⟨gA, cA, e141, H142⟩ := F136 (hdD 11 rfl)
   have H143 := H142 hnD
   refine ⟨[(53, .agg #[.int .i64 ee.bill, .int .i64 ee.tons, .slice (some ⟨gA, 0, none⟩) (List.length ([] ++ [(n : Int)])) cA])], ⟨fi 11 rfl rfl e141.symm, trivial⟩, fun Lr => ?_⟩
   refine t_bslice (ps := [(0, .agg #[.int .i64 ee.bill, .int .i64 ee.tons, .slice (some ⟨gA, 0, none⟩) (List.length ([] ++ [(n : Int)])) cA])]) (cs := [.int .i64 ee.bill, .int .i64 ee.tons, .slice (some ⟨gA, 0, none⟩) (List.length ([] ++ [(n : Int)])) cA]) (e := 97) rfl rfl ⟨rfl, rfl⟩ (fun w => by kernel_rfl) (fun bk144 w145 ebk144 sbk144 B146 u147 => ?_)
   have zu147 := u147.size
   exact dzn rfl ⟨(u133.next u147 (fun _ _ h => h.elim)), (fun h => ((C134 h).keep u147 (fun _ h => h))), (fun h => ((T135 h).keep u147 (fun h => h))), (fun h => by obtain ⟨gA, cA, e, _⟩ := F136 h; exact ⟨gA, cA, e, fun h => by cases h⟩), (fun _ => ⟨gA, cA, bk144, rfl, (by omega), (by show Blk w145 bk144 97 [.int .i64 ee.bill, .int .i64 ee.tons, .slice (some ⟨gA, 0, none⟩) (List.length ([] ++ [(n : Int)])) cA]; exact B146), ⟨(H143.1.keep u147 (fun _ h => h)), H143.2⟩⟩), (fun h => absurd ((hcD.late 13 hnD rfl).symm.trans h) (by decide))⟩
  ·
   intro D ρ w149 hcD hnD hdD hW
   obtain ⟨u150, C151, T152, F153, F154, F155⟩ := hW
   have zu150 := u150.size
   have B157 := T152 hnD
   have C158 := C151 hnD
   obtain ⟨gA, cA, bk65, e159, gebk65, B160, fcB160_11⟩ := F154 (hdD 12 rfl)
   refine ⟨[(46, .slice ((nth V.hl ((ee.to).toNat)).ao) (((nth V.hl ((ee.to).toNat)).xs).length) ((nth V.hl ((ee.to).toNat)).cp)), (54, .slice (some ⟨bk65, 0, none⟩) 1 1)], ⟨fi 4 rfl rfl rfl, fi 12 rfl rfl e159.symm, trivial⟩, fun Lr => ?_⟩
   refine t_append (z := .agg #[.int .i64 0, .int .i64 0, .slice none 0 0]) (bytes := 40) (k := 3) (base := base) (⟨⟨ee.bill, ee.tons, [] ++ [(n : Int)]⟩, some ⟨gA, 0, none⟩, gA, cA⟩ : HLay) Try.underlying120 (by kernel_rfl) rfl (by decide) (fun _ => rfl) (by intro x; simp [encHLay, Value.oneCell']) rfl rfl rfl rfl C158 B160 (by omega) (by omega) (by decide) (fun ao161 gb162 cp163 w164 A165 u166 gegb162 lngb162 => ?_)
   have zu166 := u166.size
   have lt_gb162 := A165.lt
   have d16 := (hcD.late 16 hnD rfl)
   have B168 := (B157.keep u166 (by omega))
   exact dzn rfl ⟨(u150.next u166 (fun i hi h => by omega)), (fun h => by cases h), (fun h => by cases h), (fun h => by obtain ⟨gA, cA, e, _⟩ := F153 h; exact ⟨gA, cA, e, fun h2 => absurd ((hdD 12 rfl).symm.trans h2) (by decide)⟩), (fun h => by obtain ⟨gA, cA, b, e, hge, hB, hF11⟩ := F154 h; exact ⟨gA, cA, b, e, hge, (hB.keep u166 (show ¬ ((b = (nth V.hl ((ee.to).toNat)).g ∧ base ≤ b)) by first | omega | assumption)), ⟨(hF11.1.keep u166 (fun _ => by have hgg := hF11.2; show ¬ ((gA = (nth V.hl ((ee.to).toNat)).g ∧ base ≤ gA)); omega)), hF11.2⟩⟩), (fun _ => ⟨gA, cA, ao161, gb162, cp163, rfl, A165, (by omega), ⟨(fcB160_11.1.keep u166 (fun _ => by have hgg := fcB160_11.2; show ¬ ((gA = (nth V.hl ((ee.to).toNat)).g ∧ base ≤ gA)); omega)), fcB160_11.2⟩, (by show Blk w164 (nth V.hl ((ee.to).toNat)).p 122 [.int .i64 ((nth V.hl ((ee.to).toNat)).hull), .int .i64 ((nth V.hl ((ee.to).toNat)).cap), (bif D 16 then .slice ao161 ((((nth V.hl ((ee.to).toNat)).xs ++ [(⟨⟨ee.bill, ee.tons, [] ++ [(n : Int)]⟩, some ⟨gA, 0, none⟩, gA, cA⟩ : HLay)])).length) cp163 else .slice ((nth V.hl ((ee.to).toNat)).ao) (((nth V.hl ((ee.to).toNat)).xs).length) ((nth V.hl ((ee.to).toNat)).cp)), .bool ((nth V.hl ((ee.to).toNat)).sealed)]; simp only [d16, cond_false]; exact B168)⟩)⟩
  · exact pz rfl rfl rfl rfl fun _ _ _ h => h
  · exact pzf Try.underlying122 rfl Try.sizeOf120 (2) rfl rfl rfl rfl rfl fun _ _ _ h => h
  ·
   intro D ρ w169 hcD hnD hdD hW
   obtain ⟨u170, C171, T172, F173, F174, F175⟩ := hW
   have zu170 := u170.size
   obtain ⟨gA, cA, ao71, gb72, cp73, e177, A178, h179, fcA178_11, B181⟩ := F175 (hdD 13 rfl)
   simp only [hnD, cond_false] at B181
   refine ⟨[(55, .slice ao71 ((((nth V.hl ((ee.to).toNat)).xs ++ [(⟨⟨ee.bill, ee.tons, [] ++ [(n : Int)]⟩, some ⟨gA, 0, none⟩, gA, cA⟩ : HLay)])).length) cp73), (57, .pointer (some ⟨(nth V.hl ((ee.to).toNat)).p, 2, none⟩))], ⟨fi 13 rfl rfl e177.symm, fi 15 rfl rfl rfl, trivial⟩, fun Lr => ?_⟩
   refine t_st (vs := [.slice ao71 ((((nth V.hl ((ee.to).toNat)).xs ++ [(⟨⟨ee.bill, ee.tons, [] ++ [(n : Int)]⟩, some ⟨gA, 0, none⟩, gA, cA⟩ : HLay)])).length) cp73]) Try.sizeOf120 rfl rfl rfl B181 rfl rfl rfl rfl (fun w182 sw182 B184 u183 => ?_)
   have zu183 := u183.size
   have B184 : Blk w182 (nth V.hl ((ee.to).toNat)).p 122 [.int .i64 ((nth V.hl ((ee.to).toNat)).hull), .int .i64 ((nth V.hl ((ee.to).toNat)).cap), .slice ao71 ((((nth V.hl ((ee.to).toNat)).xs ++ [(⟨⟨ee.bill, ee.tons, [] ++ [(n : Int)]⟩, some ⟨gA, 0, none⟩, gA, cA⟩ : HLay)])).length) cp73, .bool ((nth V.hl ((ee.to).toNat)).sealed)] := B184
   exact dz0 rfl ⟨(u170.next u183 (fun i hi h => by omega)), (fun h => absurd ((hdD 13 rfl).symm.trans h) (by decide)), (fun h => absurd ((hdD 13 rfl).symm.trans h) (by decide)), (fun h => by obtain ⟨gA, cA, e, _⟩ := F173 h; exact ⟨gA, cA, e, fun h2 => absurd ((hdD 12 rfl).symm.trans h2) (by decide)⟩), (fun h => by obtain ⟨gA, cA, b, e, hge, hB, hF11⟩ := F174 h; exact ⟨gA, cA, b, e, hge, (hB.keep u183 (show ¬ (b = (nth V.hl ((ee.to).toNat)).p) by first | omega | assumption)), ⟨(hF11.1.keep u183 (fun _ => by have hgg := hF11.2; show ¬ (gA = (nth V.hl ((ee.to).toNat)).p); omega)), hF11.2⟩⟩), (fun _ => ⟨gA, cA, ao71, gb72, cp73, e177, (A178.keep u183 (fun _ => show ¬ (gb72 = (nth V.hl ((ee.to).toNat)).p) by first | omega | assumption)), h179, ⟨(fcA178_11.1.keep u183 (fun _ => by have hgg := fcA178_11.2; show ¬ (gA = (nth V.hl ((ee.to).toNat)).p); omega)), fcA178_11.2⟩, B184⟩)⟩
  intro ρ w186 hW
  obtain ⟨u187, C188, T189, F190, F191, F192⟩ := hW
  have zu187 := u187.size
  clear C188
  obtain ⟨gA, cA, ao71, gb72, cp73, e196, A197, gegb72, fcA197_11, bkgb72⟩ := F192 rfl
  have bkgb72 : Blk w186 (nth V.hl ((ee.to).toNat)).p 122 [.int .i64 ((nth V.hl ((ee.to).toNat)).hull), .int .i64 ((nth V.hl ((ee.to).toNat)).cap), .slice ao71 ((((nth V.hl ((ee.to).toNat)).xs ++ [(⟨⟨ee.bill, ee.tons, [] ++ [(n : Int)]⟩, some ⟨gA, 0, none⟩, gA, cA⟩ : HLay)])).length) cp73, .bool ((nth V.hl ((ee.to).toNat)).sealed)] := bkgb72
  have lt_gb72 := A197.lt
  refine QK.weak [] trivial ?_
  have hvF := hv2.addTop hti (((Upd.refl (fun i => i = (nth V.hl ((ee.to).toNat)).p ∨ (i = (nth V.hl ((ee.to).toNat)).g ∧ base ≤ i)) w43).next u55 (fun _ _ h => h.elim)).next u187 (fun i hi h => by omega)) bkgb72 A197 (⟨fcA197_11.1, fun _ => by have hgg := fcA197_11.2; have hll := hv2.lblk.lt; show gA ≠ V.lb; simp only [] at hll; omega⟩ : PathM base _ V.lb _) (by show _ = (nth V.hl (ee.to).toNat).g ∨ _; omega)
  have hFin := fin1 (n := n) g20 hti ao71 gb72 cp73 (some ⟨gA, 0, none⟩) gA cA
  have hmkE := (show Marks w0.heap.size [] w186 from trivial)
  refine f_retMc0  Try.results74  (show Marks w0.heap.size [] w186 from trivial) (fun w198 u199 omw198 => ?_)
  have zu199 := u199.size
  exact ⟨⟨_, hvF.marks hmkE u199 omw198 hrlt hb0, hFin⟩, (((((E27.nx u39).next u44 (fun i hi (h : i = V.lb) => show base ≤ i by first | omega | assumption)).nx u55).next u187 (fun i hi (h : i = (nth V.hl ((ee.to).toNat)).p ∨ (i = (nth V.hl ((ee.to).toNat)).g ∧ base ≤ i)) => show base ≤ i by first | omega | assumption)).next u199 (fun i hi (h : w0.heap.size ≤ i) => show base ≤ i by first | omega | assumption))⟩
 refine c_seq fun K201 hK201 => (c_region (t_cmp rfl rfl rfl rfl rfl (t_assign rfl rfl rfl (t_nil' (hK201 _ _ (c_condp rfl (fun g58 => ?_) (fun g58 => ?_)))))))
 ·
  obtain ⟨uF, uT⟩ := use2 g58
  have hti := hc.to uT
  rw [List.length_map] at hti
  have hfi := hc.frm uF
  rw [List.length_map] at hfi
  have hij := hc.ne g58
  have lT0 := (hv.hold _ (nth_mem hti)).blk.lt
  have lgT0 := (hv.hold _ (nth_mem hti)).lays.acc.lt
  have hpT := (hv.hold _ (nth_mem hti)).pge
  have lF0 := (hv.hold _ (nth_mem hfi)).blk.lt
  have lgF0 := (hv.hold _ (nth_mem hfi)).lays.acc.lt
  have hpF := (hv.hold _ (nth_mem hfi)).pge
  have htn := (okEv_rng hx).2.2.2.2.2.2.1 (by omega)
  have hfT := hvo.few (nth_mem hti)
  have hfF := hvo.few (nth_mem hfi)
  have hrT := hc.room uT (by omega)
  rw [st_hold hti, nth_map HG.cap hti] at hrT
  have hhas := hc.has uF
  rw [st_hold hfi] at hhas
  refine c_seq fun K202 hK202 => ?_
  have B203 := ((B16.kx u22).keep u25 (by omega))
  refine c_drawn follows 10 [some (60, some (.pointer (some ⟨pv, 0, none⟩))), some (61, some (.pointer (some ⟨pv, 0, none⟩))), some (62, some (.pointer (some ⟨pv, 2, none⟩))), some (63, some (.slice V.pa V.hl.length V.pc)), some (64, some (.pointer (some ⟨bk7, 4, none⟩))), some (65, some (.int .i64 ee.to)), some (66, some (.pointer (some ⟨V.pg, 0 + (ee.to).toNat * 1, none⟩))), some (67, some (.pointer (some ⟨(nth V.hl ((ee.to).toNat)).p, 0, none⟩))), some (8, none), none] [[],[0],[1],[2],[],[4],[3,5],[6],[],[8,7,0,1,2,3,4,5,6,7,8]] (fun D ρ w => Upd (fun _ => False) w24 w ∧ (D 8 = true → ∃ bk205, ρ 8 = .pointer (some ⟨bk205, 0, none⟩) ∧ w24.heap.size ≤ bk205 ∧ Blk w bk205 119 [(bif D 9 then .pointer (some ⟨(nth V.hl ((ee.to).toNat)).p, 0, none⟩) else .pointer none)])) rfl rfl rfl (by kernel_rfl) (by kernel_rfl) ⟨(Upd.drew _).to, (fun h => by cases h)⟩ ⟨?_, ?_, ?_, ?_, ?_, ?_, ?_, ?_, ?_, ?_, trivial⟩ ?_
  · exact pz rfl rfl rfl rfl fun _ _ _ h => h
  · exact pz rfl rfl rfl rfl fun _ _ _ h => h
  · exact pzf Try.underlying118 rfl Try.sizeOf114 (2) rfl rfl rfl rfl rfl fun _ _ _ h => h
  · exact fun D ρ w210 hcD hnD hdD hW => ⟨_, kf_fr [62], fun Lr => t_load Try.isAgg114 rfl rfl rfl ((B203.kx hW.1).get rfl) (dz rfl hW)⟩
  · exact pzf Try.underlying41 rfl Try.sizeOf3 (4) rfl rfl rfl rfl rfl fun _ _ _ h => h
  · exact fun D ρ w215 hcD hnD hdD hW => ⟨_, kf_fr [64], fun Lr => t_load Try.isAgg3 rfl rfl rfl ((B29.kx hW.1).get rfl) (dz rfl hW)⟩
  · exact fun D ρ w220 hcD hnD hdD hW => ⟨_, kf_fr [63, 65], fun Lr => t_index (j := (ee.to).toNat) Try.underlying114 Try.sizeOf119 rfl rfl rfl rfl ((show Sl encPt 1 _ V.pa V.pg 0 V.hl from ((hv1.ext ((((Upd.refl (fun _ => False) w14).next u22 (fun _ _ h => h.elim)).next u25 (fun i hi h => by omega)).next hW.1 (fun _ _ h => h.elim)))).pacc.sl (fun _ => rfl)).addr (by omega)) (by omega) (by omega) (dz rfl hW)⟩
  · exact fun D ρ w225 hcD hnD hdD hW => ⟨_, kf_fr [66], fun Lr => t_load Try.isAgg119 rfl rfl rfl (((show Sl encPt 1 _ V.pa V.pg 0 V.hl from ((hv1.ext ((((Upd.refl (fun _ => False) w14).next u22 (fun _ _ h => h.elim)).next u25 (fun i hi h => by omega)).next hW.1 (fun _ _ h => h.elim)))).pacc.sl (fun _ => rfl)).at_ ((ee.to).toNat) (by omega)) 0 _ rfl) (dz rfl hW)⟩
  ·
   intro D ρ w229 hcD hnD hdD hW
   obtain ⟨u230, F231⟩ := hW
   have zu230 := u230.size
   refine ⟨[], trivial, fun Lr => ?_⟩
   refine t_alloc (cs := [.pointer none]) Try.zeroValue119 rfl rfl rfl (fun bk233 w234 ebk233 sbk233 B235 u236 => ?_)
   have zu236 := u236.size
   have d9 := hcD.late 9 hnD rfl
   exact dzn rfl ⟨(u230.next u236 (fun _ _ h => h.elim)), (fun _ => ⟨bk233, rfl, (by omega), (by show Blk w234 bk233 119 [(bif D 9 then .pointer (some ⟨(nth V.hl ((ee.to).toNat)).p, 0, none⟩) else .pointer none)]; simp only [d9, cond_false]; exact B235)⟩)⟩
  ·
   intro D ρ w238 hcD hnD hdD hW
   obtain ⟨u239, F240⟩ := hW
   have zu239 := u239.size
   obtain ⟨bk205, e242, gebk205, B243⟩ := F240 (hdD 8 rfl)
   have B244 := B243
   simp only [hnD, cond_false] at B244
   refine ⟨[(8, .pointer (some ⟨bk205, 0, none⟩)), (67, .pointer (some ⟨(nth V.hl ((ee.to).toNat)).p, 0, none⟩))], ⟨fi 8 rfl rfl e242.symm, fi 7 rfl rfl rfl, trivial⟩, fun Lr => ?_⟩
   refine t_st (vs := [.pointer (some ⟨(nth V.hl ((ee.to).toNat)).p, 0, none⟩)]) Try.sizeOf119 rfl rfl rfl B244 rfl rfl rfl rfl (fun w245 sw245 B247 u246 => ?_)
   have zu246 := u246.size
   have B247 : Blk w245 bk205 119 [.pointer (some ⟨(nth V.hl ((ee.to).toNat)).p, 0, none⟩)] := B247
   exact dz0 rfl ⟨(u239.next u246 (fun i hi h => by omega)), (fun _ => ⟨bk205, e242, gebk205, (by show Blk w245 bk205 119 [.pointer (some ⟨(nth V.hl ((ee.to).toNat)).p, 0, none⟩)]; exact B247)⟩)⟩
  intro ρ w249 hW
  obtain ⟨u250, F251⟩ := hW
  have zu250 := u250.size
  obtain ⟨bk205, e253, gebk205, B254⟩ := F251 rfl
  have B254 : Blk w249 bk205 119 [.pointer (some ⟨(nth V.hl ((ee.to).toNat)).p, 0, none⟩)] := B254
  have lt_bk205 := B254.lt
  refine QK.weak [(0, .pointer (some ⟨pv, 0, none⟩)), (5, .pointer (some ⟨bk7, 0, none⟩)), (6, .pointer (some ⟨bk19, 0, none⟩)), (8, .pointer (some ⟨bk205, 0, none⟩))] ⟨rfl, rfl, rfl, (look_nd (j := 8) rfl rfl rfl e253), trivial⟩ (hK202 _ _ (c_seq fun K255 hK255 => (c_drawnR follows 12 (by kernel_rfl) (p_move rfl rfl rfl (p_nilchk rfl rfl rfl (p_field Try.underlying118 rfl Try.sizeOf114 (2) rfl rfl rfl rfl ?_))))))
  have B259 := (B203.kx u250)
  refine p_load Try.isAgg114 rfl rfl rfl (B259.get rfl) (p_field Try.underlying41 rfl Try.sizeOf3 (3) rfl rfl rfl rfl ?_)
  have B260 := (B29.kx u250)
  refine p_load Try.isAgg3 rfl rfl rfl (B260.get rfl) ?_
  have i261 : (ee.frm).toNat < V.hl.length := (by omega)
  refine p_index (j := (ee.frm).toNat) Try.underlying114 Try.sizeOf119 rfl rfl rfl rfl ((show Sl encPt 1 _ V.pa V.pg 0 V.hl from ((hv1.ext ((((Upd.refl (fun _ => False) w14).next u22 (fun _ _ h => h.elim)).next u25 (fun i hi h => by omega)).next u250 (fun _ _ h => h.elim)))).pacc.sl (fun _ => rfl)).addr (by omega)) (by omega) i261 (p_load Try.isAgg119 rfl rfl rfl (((show Sl encPt 1 _ V.pa V.pg 0 V.hl from ((hv1.ext ((((Upd.refl (fun _ => False) w14).next u22 (fun _ _ h => h.elim)).next u25 (fun i hi h => by omega)).next u250 (fun _ _ h => h.elim)))).pacc.sl (fun _ => rfl)).at_ ((ee.frm).toNat) (by omega)) 0 _ rfl) (p_nilchk rfl rfl rfl (p_field Try.underlying122 rfl Try.sizeOf120 (2) rfl rfl rfl rfl (p_field Try.underlying41 rfl Try.sizeOf3 (5) rfl rfl rfl rfl (p_load Try.isAgg3 rfl rfl rfl (B260.get rfl) (p_nil fun w262 u263 => ?_))))))
  have zu263 := u263.size
  refine t_call own89 rfl rfl rfl rfl (grab_c ((nth V.hl ((ee.frm).toNat)).p) ee.tons _) (fun v265 w266 r268 => ?_)
  obtain ⟨⟨bt, bs, rfl, hgbt, hgbs, hBt, hBs⟩, u267⟩ := r268
  have zu267 := u267.size
  refine t_nil' (hK255 _ _ (c_block ?_))
  have hvR : Voy base pv w266 ({ V with mi := ee.minute } : VG) := (hv1.ext ((((((Upd.refl (fun _ => False) w14).next u22 (fun _ _ h => h.elim)).next u25 (fun i hi h => by omega)).next u250 (fun _ _ h => h.elim)).next u263 (fun _ _ h => h.elim)).next u267 (fun _ _ h => h.elim)))
  have hHF := hvR.hold _ (nth_mem hfi)
  have lF := hHF.blk.lt
  have lgF := hHF.lays.acc.lt
  have hbR : base ≤ w266.heap.size := by omega
  have hHT := hvR.hold _ (nth_mem hti)
  have lT := hHT.blk.lt
  have lgT := hHT.lays.acc.lt
  have B270 := (((((((B4.kx u10).keep u15 (by omega)).kx u22).keep u25 (by omega)).kx u250).kx u263).kx u267)
  have l_bk2 := B270.lt
  have B271 := ((B260.kx u263).kx u267)
  have l_bk7 := B271.lt
  have B272 := (((B26.kx u250).kx u263).kx u267)
  have l_bk19 := B272.lt
  have B273 := ((B254.kx u263).kx u267)
  have l_bk205 := B273.lt
  have l_bs := hBs.lt
  have l_bt := hBt.lt
  refine WC.weak [(6, .pointer (some ⟨bk19, 0, none⟩)), (8, .pointer (some ⟨bk205, 0, none⟩)), (80, .func (.func 93) #[] #[.pointer (some ⟨bt, 0, none⟩), .pointer (some ⟨bs, 0, none⟩)])] ⟨rfl, rfl, rfl, trivial⟩ (c_rangeZ (γ := GrE) (δ := Nat) (lb := [.pointer (some ⟨bt, 0, none⟩), .pointer (some ⟨bs, 0, none⟩)]) (enc := (fun x : GrE => .agg (encHLay x.part).toArray)) own93 rfl rfl (YGr w266.heap.size (ShM base pv ((ee.frm).toNat) ((ee.to).toNat) (nth V.hl ((ee.frm).toNat)).p bt bs ({ V with mi := ee.minute } : VG) ee.tons (n : Int) n w266)) (ZGr (fun t V2 W => ShS base pv ((ee.frm).toNat) ((ee.to).toNat) (nth V.hl ((ee.frm).toNat)).p bt bs ({ V with mi := ee.minute } : VG) ee.tons (n : Int) n w266 [] t V2 W)) (fun W => ∃ V2, (fun t V2 W => ShS base pv ((ee.frm).toNat) ((ee.to).toNat) (nth V.hl ((ee.frm).toNat)).p bt bs ({ V with mi := ee.minute } : VG) ee.tons (n : Int) n w266 [] t V2 W) 0 V2 W) (ZGr.turned (fun t V2 W W' h hl u => h.turned hl hbR u)) (fun _ W W' h hl u => by obtain ⟨V2, h1⟩ := h; exact ⟨V2, h1.turned hl hbR u⟩) ?_ (fun x d => [(6, .pointer (some ⟨bk19, 0, none⟩)), (8, .pointer (some ⟨bk205, 0, none⟩)), (9, .pointer (some ⟨d, 0, none⟩))]) (RoY (fun d p t V2 W => (ShM base pv ((ee.frm).toNat) ((ee.to).toNat) (nth V.hl ((ee.frm).toNat)).p bt bs ({ V with mi := ee.minute } : VG) ee.tons (n : Int) n w266) p t V2 W ∧ VOff base pv (· = d) V2) w266) (RoY.turned (fun d p t V2 W W' h hl u => ⟨⟨h.1.1.turned hl hbR u, h.1.2.1.turned hl u, h.1.2.2⟩, h.2⟩)) ?_ ?_ ?_)
  ·
   intro l1 D R W hD hl hsz hE1 hH hR
   subst hD hl
   refine (grab1_c _ base pv ((ee.frm).toNat) (nth V.hl ((ee.frm).toNat)).p bt bs _ _ (fun t V2 W => ShS base pv ((ee.frm).toNat) ((ee.to).toNat) (nth V.hl ((ee.frm).toNat)).p bt bs ({ V with mi := ee.minute } : VG) ee.tons (n : Int) n w266 [] t V2 W) (ShM base pv ((ee.frm).toNat) ((ee.to).toNat) (nth V.hl ((ee.frm).toNat)).p bt bs ({ V with mi := ee.minute } : VG) ee.tons (n : Int) n w266) R ee.tons ({ V with mi := ee.minute } : VG) W (fun t V2 W h => h.gr) (fun t V2 W W' h u => h.ext u) (fun t V2 W q part ys W' hc2 h0 hq hpop u hg hp htt => by have hs := hc2.pop hij hfi h0 hq hpop u hg; exact ⟨hs.1, hp, htt.1, hs.2⟩) hH ?_ hR (by omega) rfl).mono fun _ _ h => h
   exact ⟨⟨hvR.ext hE1, hfi, rfl, hBt.keep hE1 id, hBs.keep hE1 id, (VOff.mono hv1.off (fun k hk => by subst hk; omega)), rfl, ⟨by omega, by first | omega | exact hhas, by have := hfF; exact this.2.2.2.1⟩, fun x hx => by have := hvo.tons (nth_mem hfi) hx; exact ⟨this.1, this.2.1⟩⟩, Ext.to hE1, (nth V.hl ((ee.frm).toNat)).xs, (nth V.hl ((ee.to).toNat)).ao, (nth V.hl ((ee.to).toNat)).g, (nth V.hl ((ee.to).toNat)).cp, (nth V.hl ((ee.to).toNat)).xs, [], by simp [VG.setH, set_self hfi, set_self hti], .inl rfl, by simp, by simp, (fun x hx => (hvo.tons (nth_mem hfi) hx).2.2), by have := hfT; simp only [sumT]; omega⟩
  ·
   intro l x W K274 hI hK274
   change WC _ _ _ _ _ _ [(81, .agg #[.int .i64 x.part.v.bill, .int .i64 x.part.v.tons, .slice x.part.ao ((x.part.v.path).length) x.part.cap]), (6, .pointer (some ⟨bk19, 0, none⟩)), (8, .pointer (some ⟨bk205, 0, none⟩)), (80, .func (.func 93) #[] #[.pointer (some ⟨bt, 0, none⟩), .pointer (some ⟨bs, 0, none⟩)])] _
   have E000 := Upd.refl (fun _ => False) W
   obtain ⟨hM1, hD1, hU1⟩ := hI
   refine c_region (t_alloc (cs := [.int .i64 0, .int .i64 0, .slice none 0 0]) Try.zeroValue97 rfl rfl rfl (fun bk275 w276 ebk275 sbk275 B277 u278 => ?_))
   have zu278 := u278.size
   refine t_st (vs := [.int .i64 x.part.v.bill, .int .i64 x.part.v.tons, .slice x.part.ao ((x.part.v.path).length) x.part.cap]) Try.sizeOf97 rfl rfl rfl B277 rfl rfl rfl rfl (fun w280 sw280 B282 u281 => ?_)
   have zu281 := u281.size
   have E283 := (E000.nx u278).next u281 (fun i hi h => by omega)
   have B282 : Blk w280 bk275 97 [.int .i64 x.part.v.bill, .int .i64 x.part.v.tons, .slice x.part.ao ((x.part.v.path).length) x.part.cap] := B282
   refine t_nil' ?_
   have hsz1 := E283.size
   exact hK274 bk275 _ _ ⟨rfl, rfl, rfl, trivial⟩ E283 ⟨⟨⟨hM1.1.ext E283, hM1.2.1.keep E283 (fun _ h => h), hM1.2.2⟩, hM1.1.gr.voy.off.mono (fun k hk => by subst hk; omega)⟩, B282, by omega, hU1.trans (Ext.to E283)⟩
  ·
   intro l x d w284 hY
   obtain ⟨⟨⟨hS, hPt, htt, hpl⟩, hof⟩, hBd, hdg, hU1⟩ := hY
   have ldd := hBd.lt
   have hrg := hS.gr.rng
   have hmid : sumT [x.part.v] = x.part.v.tons := by simp [sumT]
   have hux := hS.u
   have lV := hS.gr.voy.blk.lt
   have llb := hS.gr.voy.lblk.lt
   have u285 : Upd (fun i => i = bt ∨ i = (nth V.hl ((ee.frm).toNat)).p ∨ (i = (nth V.hl ((ee.frm).toNat)).g ∧ base ≤ i) ∨ i = (nth V.hl ((ee.to).toNat)).p ∨ (i = (nth V.hl ((ee.to).toNat)).g ∧ base ≤ i) ∨ i = (w266.heap.size + 1)) w266 w284 := hux
   have zu285 := u285.size
   have hfc := hS.st.facts hti
   have hjV := hfc.1
   obtain ⟨q, hq⟩ : ∃ q, nth x.V.hl ((ee.to).toNat) = q := ⟨_, rfl⟩
   have hmq := hS.gr.voy.hold _ (nth_mem hjV)
   rw [hq] at hmq hfc
   have hqp : q.p = (nth V.hl ((ee.to).toNat)).p := hfc.2.1
   have hqg : q.g = (nth V.hl ((ee.to).toNat)).g ∨ w266.heap.size + 1 < q.g := hfc.2.2.2
   have hql : (q.xs.length : Int) ≤ sumT ((nth V.hl ((ee.to).toNat)).xs.map HLay.v) + (ee.tons - x.t - sumT [x.part.v]) := hfc.2.2.1
   have hBq : Blk w284 (nth V.hl ((ee.to).toNat)).p 122 q.cells := hqp ▸ hmq.blk
   have lq := hmq.lays.acc.lt
   have lq2 := hBq.lt
   have nqg : base ≤ q.g → q.g ≠ (nth V.hl ((ee.to).toNat)).p := fun h => hmq.lays.acc.neB hBq (by decide) h
   have nqd := hBd.neT hBq (by decide)
   have np1 : base ≤ x.part.b → x.part.b ≠ (nth V.hl ((ee.to).toNat)).p := fun h => hPt.1.neB hBq (by decide) h
   have np2 : base ≤ x.part.b → base ≤ q.g → x.part.b ≠ q.g := fun h h2 => hPt.1.neA hmq.lays.acc (by decide) h h2
   have nqd2 : base ≤ q.g → q.g ≠ d := by have h := (hof.hp _ (nth_mem hjV)).2.1; rw [hq] at h; exact h
   have lt_q_g := hmq.lays.acc.lt
   change WC _ _ _ _ _ _ [(6, .pointer (some ⟨bk19, 0, none⟩)), (8, .pointer (some ⟨bk205, 0, none⟩)), (9, .pointer (some ⟨d, 0, none⟩))] _
   have hcellsR := ((hBq).cellsIn.or (hmq.lays.acc).cellsIn)
   refine c_block ?_
   have B287 := (B272.keep u285 (by omega))
   have B288 := (B273.keep u285 (by omega))
   refine c_drawn follows 13 [some (82, some (.pointer (some ⟨(nth V.hl ((ee.to).toNat)).p, 0, none⟩))), some (83, some (.pointer (some ⟨(nth V.hl ((ee.to).toNat)).p, 0, none⟩))), some (84, some (.pointer (some ⟨(nth V.hl ((ee.to).toNat)).p, 0, none⟩))), some (85, some (.pointer (some ⟨(nth V.hl ((ee.to).toNat)).p, 2, none⟩))), some (86, some (.slice q.ao q.xs.length q.cp)), some (87, some (.func (.func 87) #[] #[.pointer (some ⟨bk2, 0, none⟩)])), some (88, some (.agg #[.int .i64 x.part.v.bill, .int .i64 x.part.v.tons, .slice x.part.ao ((x.part.v.path).length) x.part.cap])), some (89, none), some (90, none), some (91, none), some (92, some (.pointer (some ⟨(nth V.hl ((ee.to).toNat)).p, 0, none⟩))), some (93, some (.pointer (some ⟨(nth V.hl ((ee.to).toNat)).p, 2, none⟩))), none] [[],[],[1],[2],[3],[],[],[5,6],[7],[4,8,7],[0,0,1,2,3,4,5,6,7,8,9],[10,0,1,2,3,4,5,6,7,8,9],[11,9,9,0,1,2,3,4,5,6,7,8,9]] (fun D ρ w => Upd (fun i => i = (nth V.hl ((ee.to).toNat)).p ∨ (i = q.g ∧ base ≤ i)) w284 w ∧ (D 9 = false → Acc encHLay 3 97 base w q.ao q.g q.cp q.xs) ∧ (D 9 = false → Blk w (nth V.hl ((ee.to).toNat)).p 122 [.int .i64 q.hull, .int .i64 q.cap, .slice q.ao q.xs.length q.cp, .bool q.sealed]) ∧ (D 7 = true → ∃ gA cA, ρ 7 = .agg #[.int .i64 x.part.v.bill, .int .i64 x.part.v.tons, .slice (some ⟨gA, 0, none⟩) (List.length (x.part.v.path ++ [(n : Int)])) cA] ∧ (D 8 = false → (Acc encI 1 3 base w (some ⟨gA, 0, none⟩) gA cA (x.part.v.path ++ [(n : Int)]) ∧ w284.heap.size ≤ gA))) ∧ (D 8 = true → ∃ gA cA bk295, ρ 8 = .slice (some ⟨bk295, 0, none⟩) 1 1 ∧ w284.heap.size ≤ bk295 ∧ Blk w bk295 97 [.int .i64 x.part.v.bill, .int .i64 x.part.v.tons, .slice (some ⟨gA, 0, none⟩) (List.length (x.part.v.path ++ [(n : Int)])) cA] ∧ (Acc encI 1 3 base w (some ⟨gA, 0, none⟩) gA cA (x.part.v.path ++ [(n : Int)]) ∧ w284.heap.size ≤ gA)) ∧ (D 9 = true → ∃ gA cA ao301 gb302 cp303, ρ 9 = .slice ao301 (((q.xs ++ [(⟨movL (n : Int) x.part.v, some ⟨gA, 0, none⟩, gA, cA⟩ : HLay)])).length) cp303 ∧ Acc encHLay 3 97 base w ao301 gb302 cp303 (q.xs ++ [(⟨movL (n : Int) x.part.v, some ⟨gA, 0, none⟩, gA, cA⟩ : HLay)]) ∧ (gb302 = q.g ∨ w284.heap.size ≤ gb302) ∧ (Acc encI 1 3 base w (some ⟨gA, 0, none⟩) gA cA (x.part.v.path ++ [(n : Int)]) ∧ w284.heap.size ≤ gA) ∧ Blk w (nth V.hl ((ee.to).toNat)).p 122 [.int .i64 q.hull, .int .i64 q.cap, (bif D 12 then .slice ao301 (((q.xs ++ [(⟨movL (n : Int) x.part.v, some ⟨gA, 0, none⟩, gA, cA⟩ : HLay)])).length) cp303 else .slice q.ao q.xs.length q.cp), .bool q.sealed])) rfl rfl rfl (by kernel_rfl) (by kernel_rfl) ⟨(Upd.drew _).to, (fun _ => hmq.lays.acc.keep (Upd.drew _) (fun _ h => h)), (fun _ => hBq.keep (Upd.drew _) (fun h => h)), (fun h => by cases h), (fun h => by cases h), (fun h => by cases h)⟩ ⟨?_, ?_, ?_, ?_, ?_, ?_, ?_, ?_, ?_, ?_, ?_, ?_, ?_, trivial⟩ ?_
   · exact fun D ρ w308 hcD hnD hdD hW => ⟨_, kf_fr [8], fun Lr => t_load Try.isAgg119 rfl rfl rfl ((B288.keep hW.1 (by omega)).get rfl) (dz rfl hW)⟩
   · exact fun D ρ w317 hcD hnD hdD hW => ⟨_, kf_fr [8], fun Lr => t_load Try.isAgg119 rfl rfl rfl ((B288.keep hW.1 (by omega)).get rfl) (dz rfl hW)⟩
   · exact pz rfl rfl rfl rfl fun _ _ _ h => h
   · exact pzf Try.underlying122 rfl Try.sizeOf120 (2) rfl rfl rfl rfl rfl fun _ _ _ h => h
   · exact fun D ρ w327 hcD hnD hdD hW => ⟨_, kf_fr [85], fun Lr => t_load Try.isAgg120 rfl rfl rfl ((hW.2.2.1 (hcD.late 9 hnD rfl)).get rfl) (dz rfl hW)⟩
   · exact fun D ρ w336 hcD hnD hdD hW => ⟨_, kf_fr [6], fun Lr => t_load Try.isAgg174 rfl rfl rfl ((B287.keep hW.1 (by omega)).get rfl) (dz rfl hW)⟩
   · exact fun D ρ w346 hcD hnD hdD hW => ⟨_, kf_fr [9], fun Lr => t_loadN (vs := [.int .i64 x.part.v.bill, .int .i64 x.part.v.tons, .slice x.part.ao ((x.part.v.path).length) x.part.cap]) Try.isAgg97 Try.sizeOf97 rfl rfl rfl ((hBd.keep hW.1 (by omega)).at.sub 0 3) rfl (dz rfl hW)⟩
   ·
    intro D ρ w356 hcD hnD hdD hW
    obtain ⟨u357, C358, T359, F360, F361, F362⟩ := hW
    have zu357 := u357.size
    refine ⟨_, kf_fr [87, 88], fun Lr => ?_⟩
    have B365 := ((B270.keep u285 (by omega)).keep u357 (by omega))
    have D366 := (hPt.1.keep u357 (fun hb => show ¬ (x.part.b = (nth V.hl ((ee.to).toNat)).p ∨ (x.part.b = q.g ∧ base ≤ x.part.b)) by have h1 := np1 hb; have h2 := np2 hb; omega))
    refine t_call own87 rfl rfl rfl rfl (moved_c base bk2 (n : Int) x.part.v.bill x.part.v.tons x.part.v.path x.part.ao x.part.b x.part.cap _ B365 (D366.sl (fun _ => rfl)) D366.cap_le (by omega) (by omega)) (fun v367 w368 r370 => ?_)
    obtain ⟨gA, cA, rfl, hAp, hgA, u369⟩ := r370
    have zu369 := u369.size
    exact dzn rfl ⟨(u357.next u369 (fun _ _ h => h.elim)), (fun h => ((C358 h).keep u369 (fun _ h => h))), (fun h => ((T359 h).keep u369 (fun h => h))), (fun _ => ⟨gA, cA, rfl, fun _ => ⟨hAp, by omega⟩⟩), (fun h => absurd ((hcD.late 8 hnD rfl).symm.trans h) (by decide)), (fun h => absurd ((hcD.late 9 hnD rfl).symm.trans h) (by decide))⟩
   ·
    intro D ρ w372 hcD hnD hdD hW
    obtain ⟨u373, C374, T375, F376, F377, F378⟩ := hW
    have zu373 := u373.size
    obtain ⟨gA, cA, e381, H382⟩ := F376 (hdD 7 rfl)
    have H383 := H382 hnD
    refine ⟨[(89, .agg #[.int .i64 x.part.v.bill, .int .i64 x.part.v.tons, .slice (some ⟨gA, 0, none⟩) (List.length (x.part.v.path ++ [(n : Int)])) cA])], ⟨fi 7 rfl rfl e381.symm, trivial⟩, fun Lr => ?_⟩
    refine t_bslice (ps := [(0, .agg #[.int .i64 x.part.v.bill, .int .i64 x.part.v.tons, .slice (some ⟨gA, 0, none⟩) (List.length (x.part.v.path ++ [(n : Int)])) cA])]) (cs := [.int .i64 x.part.v.bill, .int .i64 x.part.v.tons, .slice (some ⟨gA, 0, none⟩) (List.length (x.part.v.path ++ [(n : Int)])) cA]) (e := 97) rfl rfl ⟨rfl, rfl⟩ (fun w => by kernel_rfl) (fun bk384 w385 ebk384 sbk384 B386 u387 => ?_)
    have zu387 := u387.size
    exact dzn rfl ⟨(u373.next u387 (fun _ _ h => h.elim)), (fun h => ((C374 h).keep u387 (fun _ h => h))), (fun h => ((T375 h).keep u387 (fun h => h))), (fun h => by obtain ⟨gA, cA, e, _⟩ := F376 h; exact ⟨gA, cA, e, fun h => by cases h⟩), (fun _ => ⟨gA, cA, bk384, rfl, (by omega), (by show Blk w385 bk384 97 [.int .i64 x.part.v.bill, .int .i64 x.part.v.tons, .slice (some ⟨gA, 0, none⟩) (List.length (x.part.v.path ++ [(n : Int)])) cA]; exact B386), ⟨(H383.1.keep u387 (fun _ h => h)), H383.2⟩⟩), (fun h => absurd ((hcD.late 9 hnD rfl).symm.trans h) (by decide))⟩
   ·
    intro D ρ w389 hcD hnD hdD hW
    obtain ⟨u390, C391, T392, F393, F394, F395⟩ := hW
    have zu390 := u390.size
    have B397 := T392 hnD
    have C398 := C391 hnD
    obtain ⟨gA, cA, bk295, e399, gebk295, B400, fcB400_7⟩ := F394 (hdD 8 rfl)
    refine ⟨[(86, .slice q.ao q.xs.length q.cp), (90, .slice (some ⟨bk295, 0, none⟩) 1 1)], ⟨fi 4 rfl rfl rfl, fi 8 rfl rfl e399.symm, trivial⟩, fun Lr => ?_⟩
    refine t_append (z := .agg #[.int .i64 0, .int .i64 0, .slice none 0 0]) (bytes := 40) (k := 3) (base := base) (⟨movL (n : Int) x.part.v, some ⟨gA, 0, none⟩, gA, cA⟩ : HLay) Try.underlying120 (by kernel_rfl) rfl (by decide) (fun _ => rfl) (by intro x; simp [encHLay, Value.oneCell']) rfl rfl rfl rfl C398 B400 (by omega) (by omega) (by decide) (fun ao401 gb402 cp403 w404 A405 u406 gegb402 lngb402 => ?_)
    have zu406 := u406.size
    have lt_gb402 := A405.lt
    have d12 := (hcD.late 12 hnD rfl)
    have B408 := (B397.keep u406 (by omega))
    exact dzn rfl ⟨(u390.next u406 (fun i hi h => by omega)), (fun h => by cases h), (fun h => by cases h), (fun h => by obtain ⟨gA, cA, e, _⟩ := F393 h; exact ⟨gA, cA, e, fun h2 => absurd ((hdD 8 rfl).symm.trans h2) (by decide)⟩), (fun h => by obtain ⟨gA, cA, b, e, hge, hB, hF7⟩ := F394 h; exact ⟨gA, cA, b, e, hge, (hB.keep u406 (show ¬ ((b = q.g ∧ base ≤ b)) by first | omega | assumption)), ⟨(hF7.1.keep u406 (fun _ => by have hgg := hF7.2; show ¬ ((gA = q.g ∧ base ≤ gA)); omega)), hF7.2⟩⟩), (fun _ => ⟨gA, cA, ao401, gb402, cp403, rfl, A405, (by omega), ⟨(fcB400_7.1.keep u406 (fun _ => by have hgg := fcB400_7.2; show ¬ ((gA = q.g ∧ base ≤ gA)); omega)), fcB400_7.2⟩, (by show Blk w404 (nth V.hl ((ee.to).toNat)).p 122 [.int .i64 q.hull, .int .i64 q.cap, (bif D 12 then .slice ao401 (((q.xs ++ [(⟨movL (n : Int) x.part.v, some ⟨gA, 0, none⟩, gA, cA⟩ : HLay)])).length) cp403 else .slice q.ao q.xs.length q.cp), .bool q.sealed]; simp only [d12, cond_false]; exact B408)⟩)⟩
   · exact pz rfl rfl rfl rfl fun _ _ _ h => h
   · exact pzf Try.underlying122 rfl Try.sizeOf120 (2) rfl rfl rfl rfl rfl fun _ _ _ h => h
   ·
    intro D ρ w409 hcD hnD hdD hW
    obtain ⟨u410, C411, T412, F413, F414, F415⟩ := hW
    have zu410 := u410.size
    obtain ⟨gA, cA, ao301, gb302, cp303, e417, A418, h419, fcA418_7, B421⟩ := F415 (hdD 9 rfl)
    simp only [hnD, cond_false] at B421
    refine ⟨[(91, .slice ao301 (((q.xs ++ [(⟨movL (n : Int) x.part.v, some ⟨gA, 0, none⟩, gA, cA⟩ : HLay)])).length) cp303), (93, .pointer (some ⟨(nth V.hl ((ee.to).toNat)).p, 2, none⟩))], ⟨fi 9 rfl rfl e417.symm, fi 11 rfl rfl rfl, trivial⟩, fun Lr => ?_⟩
    refine t_st (vs := [.slice ao301 (((q.xs ++ [(⟨movL (n : Int) x.part.v, some ⟨gA, 0, none⟩, gA, cA⟩ : HLay)])).length) cp303]) Try.sizeOf120 rfl rfl rfl B421 rfl rfl rfl rfl (fun w422 sw422 B424 u423 => ?_)
    have zu423 := u423.size
    have B424 : Blk w422 (nth V.hl ((ee.to).toNat)).p 122 [.int .i64 q.hull, .int .i64 q.cap, .slice ao301 (((q.xs ++ [(⟨movL (n : Int) x.part.v, some ⟨gA, 0, none⟩, gA, cA⟩ : HLay)])).length) cp303, .bool q.sealed] := B424
    exact dz0 rfl ⟨(u410.next u423 (fun i hi h => by omega)), (fun h => absurd ((hdD 9 rfl).symm.trans h) (by decide)), (fun h => absurd ((hdD 9 rfl).symm.trans h) (by decide)), (fun h => by obtain ⟨gA, cA, e, _⟩ := F413 h; exact ⟨gA, cA, e, fun h2 => absurd ((hdD 8 rfl).symm.trans h2) (by decide)⟩), (fun h => by obtain ⟨gA, cA, b, e, hge, hB, hF7⟩ := F414 h; exact ⟨gA, cA, b, e, hge, (hB.keep u423 (show ¬ (b = (nth V.hl ((ee.to).toNat)).p) by first | omega | assumption)), ⟨(hF7.1.keep u423 (fun _ => by have hgg := hF7.2; show ¬ (gA = (nth V.hl ((ee.to).toNat)).p); omega)), hF7.2⟩⟩), (fun _ => ⟨gA, cA, ao301, gb302, cp303, e417, (A418.keep u423 (fun _ => show ¬ (gb302 = (nth V.hl ((ee.to).toNat)).p) by first | omega | assumption)), h419, ⟨(fcA418_7.1.keep u423 (fun _ => by have hgg := fcA418_7.2; show ¬ (gA = (nth V.hl ((ee.to).toNat)).p); omega)), fcA418_7.2⟩, B424⟩)⟩
   intro ρ w426 hW
   obtain ⟨u427, C428, T429, F430, F431, F432⟩ := hW
   have zu427 := u427.size
   clear C428
   obtain ⟨gA, cA, ao301, gb302, cp303, e436, A437, gegb302, fcA437_7, bkgb302⟩ := F432 rfl
   have bkgb302 : Blk w426 (nth V.hl ((ee.to).toNat)).p 122 [.int .i64 q.hull, .int .i64 q.cap, .slice ao301 (((q.xs ++ [(⟨movL (n : Int) x.part.v, some ⟨gA, 0, none⟩, gA, cA⟩ : HLay)])).length) cp303, .bool q.sealed] := bkgb302
   have lt_gb302 := A437.lt
   refine QK.weak [(6, .pointer (some ⟨bk19, 0, none⟩)), (8, .pointer (some ⟨bk205, 0, none⟩)), (9, .pointer (some ⟨d, 0, none⟩)), (82, .pointer (some ⟨(nth V.hl ((ee.to).toNat)).p, 0, none⟩)), (83, .pointer (some ⟨(nth V.hl ((ee.to).toNat)).p, 0, none⟩)), (84, .pointer (some ⟨(nth V.hl ((ee.to).toNat)).p, 0, none⟩)), (85, .pointer (some ⟨(nth V.hl ((ee.to).toNat)).p, 2, none⟩)), (86, .slice q.ao q.xs.length q.cp), (87, .func (.func 87) #[] #[.pointer (some ⟨bk2, 0, none⟩)]), (88, .agg #[.int .i64 x.part.v.bill, .int .i64 x.part.v.tons, .slice x.part.ao ((x.part.v.path).length) x.part.cap]), (91, .slice ao301 (((q.xs ++ [(⟨movL (n : Int) x.part.v, some ⟨gA, 0, none⟩, gA, cA⟩ : HLay)])).length) cp303), (92, .pointer (some ⟨(nth V.hl ((ee.to).toNat)).p, 0, none⟩)), (93, .pointer (some ⟨(nth V.hl ((ee.to).toNat)).p, 2, none⟩))] ⟨rfl, rfl, rfl, rfl, rfl, rfl, rfl, rfl, rfl, rfl, (look_nd (j := 9) rfl rfl rfl e436), rfl, rfl, trivial⟩ ?_
   have hUr := ((Upd.refl (fun i => i = (nth V.hl ((ee.to).toNat)).p ∨ (i = q.g ∧ base ≤ i)) w284).next u427 (fun i hi h => by omega))
   have hcu : Upd (fun k => k = q.p ∨ (k = q.g ∧ base ≤ k)) w284 w426 := by rw [hqp]; exact ((Upd.refl (fun i => i = (nth V.hl ((ee.to).toNat)).p ∨ (i = q.g ∧ base ≤ i)) w284).next u427 (fun i hi h => by omega))
   exact fun a ha => ⟨KeepsFrom.of_upd hUr hcellsR, ⟨_, hS.add hij hti hq (by omega) (by omega) (by omega) hcu (by rw [hqp]; exact bkgb302) A437 fcA437_7.1 (by have hgg := fcA437_7.2; omega) (by omega) htt⟩, hU1.trans (hUr.mono fun _ _ => trivial)⟩
  ·
   have hmk0 := (show Marks w0.heap.size [] w266 from trivial)
   have hmc0 := (show CellsIn (fun i => i = bt ∨ i = (nth V.hl ((ee.frm).toNat)).p ∨ (i = (nth V.hl ((ee.frm).toNat)).g ∧ base ≤ i) ∨ i = (nth V.hl ((ee.to).toNat)).p ∨ (i = (nth V.hl ((ee.to).toNat)).g ∧ base ≤ i) ∨ i = (w266.heap.size + 1)) w266 from fun k hk e => by
     rcases e with rfl | rfl | e | rfl | e | e
     · exact ⟨_, _, _, hBt⟩
     · exact ⟨_, _, _, hHF.blk⟩
     · exact hHF.lays.acc.cellsIn _ hk e
     · exact ⟨_, _, _, hHT.blk⟩
     · exact hHT.lays.acc.cellsIn _ hk e
     · omega)
   intro D439 w438 hD439 hE hdD439
   obtain ⟨VE, hSE⟩ := hE
   have u440 : Upd (fun i => i = bt ∨ i = (nth V.hl ((ee.frm).toNat)).p ∨ (i = (nth V.hl ((ee.frm).toNat)).g ∧ base ≤ i) ∨ i = (nth V.hl ((ee.to).toNat)).p ∨ (i = (nth V.hl ((ee.to).toNat)).g ∧ base ≤ i) ∨ i = (w266.heap.size + 1)) w266 w438 := hSE.u
   have zu440 := u440.size
   have hVr : VE.r < w0.heap.size := by obtain ⟨_, _, _, _, _, _, h1, _⟩ := hSE.st; rw [h1]; exact hrlt
   have mk442 := (hmk0.keep u440 hmc0).push (D := D439) (by omega) hdD439 (fun d hd D' e => Nat.lt_of_lt_of_le (hmk0.lt d hd D' e) hD439)
   have hvF := hSE.gr.voy
   have hFin := fin2 g58 hfi hti hij hSE.st
   have hmkE := mk442
   refine f_retMc0  Try.results74  mk442 (fun w443 u444 omw443 => ?_)
   have zu444 := u444.size
   exact ⟨⟨_, hvF.marks hmkE u444 omw443 hVr hb0, hFin⟩, (((((E27.nx u250).nx u263).nx u267).next u440 (fun i hi (h : i = bt ∨ i = (nth V.hl ((ee.frm).toNat)).p ∨ (i = (nth V.hl ((ee.frm).toNat)).g ∧ base ≤ i) ∨ i = (nth V.hl ((ee.to).toNat)).p ∨ (i = (nth V.hl ((ee.to).toNat)).g ∧ base ≤ i) ∨ i = (w266.heap.size + 1)) => show base ≤ i by first | omega | assumption)).next u444 (fun i hi (h : w0.heap.size ≤ i) => show base ≤ i by first | omega | assumption))⟩
 refine c_seq fun K446 hK446 => (c_region (t_cmp rfl rfl rfl rfl rfl (t_assign rfl rfl rfl (t_nil' (hK446 _ _ (c_condp rfl (fun g94 => ?_) (fun g94 => ?_)))))))
 ·
  have uF : useF ee = true := by simp [useF, g94]
  have hfi := hc.frm uF
  rw [List.length_map] at hfi
  have lF0 := (hv.hold _ (nth_mem hfi)).blk.lt
  have lgF0 := (hv.hold _ (nth_mem hfi)).lays.acc.lt
  have hpF := (hv.hold _ (nth_mem hfi)).pge
  have htn := (okEv_rng hx).2.2.2.2.2.2.1 (by omega)
  have hfF := hvo.few (nth_mem hfi)
  have hhas := hc.has uF
  rw [st_hold hfi] at hhas
  have ldg0 := hv.dacc.lt
  have hldn := hvo.ok.ldn
  have hldn2 : V.ld.length ≤ n := by have h := hldn; simp only [VG.st, List.length_map] at h; exact h
  refine c_seq fun K447 hK447 => (c_region ?_)
  have B448 := ((((B4.kx u10).keep u15 (by omega)).kx u22).keep u25 (by omega))
  refine t_load Try.isAgg3 rfl rfl rfl (B448.get rfl) (t_field Try.underlying41 rfl Try.sizeOf3 (6) rfl rfl rfl rfl (t_load Try.isAgg3 rfl rfl rfl (B29.get rfl) (t_build (ps := [(0, .int .i64 (n : Int)), (1, .int .i64 ee.port)]) (v := .agg #[.int .i64 (n : Int), .int .i64 ee.port, .slice none 0 0]) rfl rfl ⟨rfl, rfl⟩ (fun w => by kernel_rfl) (t_alloc (cs := [.int .i64 0, .int .i64 0, .slice none 0 0]) Try.zeroValue125 rfl rfl rfl (fun bk449 w450 ebk449 sbk449 B451 u452 => ?_)))))
  have zu452 := u452.size
  refine t_st (vs := [.int .i64 (n : Int), .int .i64 ee.port, .slice none 0 0]) Try.sizeOf125 rfl rfl rfl B451 rfl rfl rfl rfl (fun w454 sw454 B456 u455 => ?_)
  have zu455 := u455.size
  have B456 : Blk w454 bk449 125 [.int .i64 (n : Int), .int .i64 ee.port, .slice none 0 0] := B456
  refine t_nil' (hK447 _ _ (c_seq fun K458 hK458 => (c_seq fun K459 hK459 => (c_drawnR follows 12 (by kernel_rfl) (p_move rfl rfl rfl (p_nilchk rfl rfl rfl (p_field Try.underlying118 rfl Try.sizeOf114 (2) rfl rfl rfl rfl ?_)))))))
  have B463 := ((((B16.kx u22).keep u25 (by omega)).kx u452).keep u455 (by omega))
  refine p_load Try.isAgg114 rfl rfl rfl (B463.get rfl) (p_field Try.underlying41 rfl Try.sizeOf3 (3) rfl rfl rfl rfl ?_)
  have B464 := ((B29.kx u452).keep u455 (by omega))
  refine p_load Try.isAgg3 rfl rfl rfl (B464.get rfl) ?_
  have i465 : (ee.frm).toNat < V.hl.length := (by omega)
  refine p_index (j := (ee.frm).toNat) Try.underlying114 Try.sizeOf119 rfl rfl rfl rfl ((show Sl encPt 1 _ V.pa V.pg 0 V.hl from ((hv1.ext (((((Upd.refl (fun _ => False) w14).next u22 (fun _ _ h => h.elim)).next u25 (fun i hi h => by omega)).next u452 (fun _ _ h => h.elim)).next u455 (fun i hi h => by omega)))).pacc.sl (fun _ => rfl)).addr (by omega)) (by omega) i465 (p_load Try.isAgg119 rfl rfl rfl (((show Sl encPt 1 _ V.pa V.pg 0 V.hl from ((hv1.ext (((((Upd.refl (fun _ => False) w14).next u22 (fun _ _ h => h.elim)).next u25 (fun i hi h => by omega)).next u452 (fun _ _ h => h.elim)).next u455 (fun i hi h => by omega)))).pacc.sl (fun _ => rfl)).at_ ((ee.frm).toNat) (by omega)) 0 _ rfl) (p_nilchk rfl rfl rfl (p_field Try.underlying122 rfl Try.sizeOf120 (2) rfl rfl rfl rfl (p_field Try.underlying41 rfl Try.sizeOf3 (5) rfl rfl rfl rfl (p_load Try.isAgg3 rfl rfl rfl (B464.get rfl) (p_nil fun w466 u467 => ?_))))))
  have zu467 := u467.size
  refine t_call own89 rfl rfl rfl rfl (grab_c ((nth V.hl ((ee.frm).toNat)).p) ee.tons _) (fun v469 w470 r472 => ?_)
  obtain ⟨⟨bt, bs, rfl, hgbt, hgbs, hBt, hBs⟩, u471⟩ := r472
  have zu471 := u471.size
  refine t_nil' (hK459 _ _ (c_block ?_))
  have hvR : Voy base pv w470 ({ V with mi := ee.minute } : VG) := (hv1.ext (((((((Upd.refl (fun _ => False) w14).next u22 (fun _ _ h => h.elim)).next u25 (fun i hi h => by omega)).next u452 (fun _ _ h => h.elim)).next u455 (fun i hi h => by omega)).next u467 (fun _ _ h => h.elim)).next u471 (fun _ _ h => h.elim)))
  have hHF := hvR.hold _ (nth_mem hfi)
  have lF := hHF.blk.lt
  have lgF := hHF.lays.acc.lt
  have hbR : base ≤ w470.heap.size := by omega
  have B474 := ((((B448.kx u452).keep u455 (by omega)).kx u467).kx u471)
  have l_bk2 := B474.lt
  have B475 := ((B464.kx u467).kx u471)
  have l_bk7 := B475.lt
  have B476 := ((((B26.kx u452).keep u455 (by omega)).kx u467).kx u471)
  have l_bk19 := B476.lt
  have l_bs := hBs.lt
  have l_bt := hBt.lt
  have B477 := ((B456.kx u467).kx u471)
  have l_bk449 := B477.lt
  refine WC.weak [(0, .pointer (some ⟨pv, 0, none⟩)), (6, .pointer (some ⟨bk19, 0, none⟩)), (10, .pointer (some ⟨bk449, 0, none⟩)), (112, .func (.func 93) #[] #[.pointer (some ⟨bt, 0, none⟩), .pointer (some ⟨bs, 0, none⟩)])] ⟨rfl, rfl, rfl, rfl, trivial⟩ (c_rangeZ (γ := GrE) (δ := Nat) (lb := [.pointer (some ⟨bt, 0, none⟩), .pointer (some ⟨bs, 0, none⟩)]) (enc := (fun x : GrE => .agg (encHLay x.part).toArray)) own93 rfl rfl (YGr w470.heap.size (UnM (fun _ => False) w14.heap.size base pv ((ee.frm).toNat) (nth V.hl ((ee.frm).toNat)).p bt bs ({ V with mi := ee.minute } : VG) ee.tons (n : Int) ee.port n bk449 w470)) (ZGr (fun t V2 W => UnS (fun _ => False) w14.heap.size base pv ((ee.frm).toNat) (nth V.hl ((ee.frm).toNat)).p bt bs ({ V with mi := ee.minute } : VG) ee.tons (n : Int) ee.port n bk449 w470 [] t V2 W)) (fun W => ∃ V2, (fun t V2 W => UnS (fun _ => False) w14.heap.size base pv ((ee.frm).toNat) (nth V.hl ((ee.frm).toNat)).p bt bs ({ V with mi := ee.minute } : VG) ee.tons (n : Int) ee.port n bk449 w470 [] t V2 W) 0 V2 W) (ZGr.turned (fun t V2 W W' h hl u => h.turned hl hbR u)) (fun _ W W' h hl u => by obtain ⟨V2, h1⟩ := h; exact ⟨V2, h1.turned hl hbR u⟩) ?_ (fun x d => [(0, .pointer (some ⟨pv, 0, none⟩)), (6, .pointer (some ⟨bk19, 0, none⟩)), (10, .pointer (some ⟨bk449, 0, none⟩)), (11, .pointer (some ⟨d, 0, none⟩))]) (RoY (fun d => (UnM (· = d) w14.heap.size base pv ((ee.frm).toNat) (nth V.hl ((ee.frm).toNat)).p bt bs ({ V with mi := ee.minute } : VG) ee.tons (n : Int) ee.port n bk449 w470)) w470) (RoY.turned (fun d p t V2 W W' h hl u => ⟨h.1.turned hl hbR u, h.2.1.turned hl u, h.2.2⟩)) ?_ ?_ ?_)
  ·
   intro l1 D R W hD hl hsz hE1 hH hR
   subst hD hl
   refine (grab1_c _ base pv ((ee.frm).toNat) (nth V.hl ((ee.frm).toNat)).p bt bs _ _ (fun t V2 W => UnS (fun _ => False) w14.heap.size base pv ((ee.frm).toNat) (nth V.hl ((ee.frm).toNat)).p bt bs ({ V with mi := ee.minute } : VG) ee.tons (n : Int) ee.port n bk449 w470 [] t V2 W) (UnM (fun _ => False) w14.heap.size base pv ((ee.frm).toNat) (nth V.hl ((ee.frm).toNat)).p bt bs ({ V with mi := ee.minute } : VG) ee.tons (n : Int) ee.port n bk449 w470) R ee.tons ({ V with mi := ee.minute } : VG) W (fun t V2 W h => h.gr) (fun t V2 W W' h u => h.ext u) (fun t V2 W q part ys W' hc2 h0 hq hpop u hg hp htt => by have hs := hc2.pop hfi lgF lF l_bt (by omega) h0 hq hpop u hg; exact ⟨hs.1, hp, htt.1, hs.2⟩) hH ?_ hR (by omega) rfl).mono fun _ _ h => h
   exact ⟨⟨hvR.ext hE1, hfi, rfl, hBt.keep hE1 id, hBs.keep hE1 id, hv1.off, (by show w14.heap.size ≤ bt; omega), ⟨by omega, by first | omega | exact hhas, by have := hfF; exact this.2.2.2.1⟩, fun x hx => by have := hvo.tons (nth_mem hfi) hx; exact ⟨this.1, this.2.1⟩⟩, Ext.to hE1, (nth V.hl ((ee.frm).toNat)).xs, none, 0, 0, [], [], by simp [VG.setH, set_self hfi], B477.keep hE1 id, ⟨Acc.nil _ _ _ _ _ (by omega) hE1.size, fun x hx => by cases hx⟩, rfl, by simp, (fun x hx => (hvo.tons (nth_mem hfi) hx).2.2), by simp [sumT], id⟩
  ·
   intro l x W K478 hI hK478
   change WC _ _ _ _ _ _ [(113, .agg #[.int .i64 x.part.v.bill, .int .i64 x.part.v.tons, .slice x.part.ao ((x.part.v.path).length) x.part.cap]), (0, .pointer (some ⟨pv, 0, none⟩)), (6, .pointer (some ⟨bk19, 0, none⟩)), (10, .pointer (some ⟨bk449, 0, none⟩)), (112, .func (.func 93) #[] #[.pointer (some ⟨bt, 0, none⟩), .pointer (some ⟨bs, 0, none⟩)])] _
   have E000 := Upd.refl (fun _ => False) W
   obtain ⟨hM1, hD1, hU1⟩ := hI
   refine c_region (t_alloc (cs := [.int .i64 0, .int .i64 0, .slice none 0 0]) Try.zeroValue97 rfl rfl rfl (fun bk479 w480 ebk479 sbk479 B481 u482 => ?_))
   have zu482 := u482.size
   refine t_st (vs := [.int .i64 x.part.v.bill, .int .i64 x.part.v.tons, .slice x.part.ao ((x.part.v.path).length) x.part.cap]) Try.sizeOf97 rfl rfl rfl B481 rfl rfl rfl rfl (fun w484 sw484 B486 u485 => ?_)
   have zu485 := u485.size
   have E487 := (E000.nx u482).next u485 (fun i hi h => by omega)
   have B486 : Blk w484 bk479 97 [.int .i64 x.part.v.bill, .int .i64 x.part.v.tons, .slice x.part.ao ((x.part.v.path).length) x.part.cap] := B486
   refine t_nil' ?_
   have hsz1 := E487.size
   exact hK478 bk479 _ _ ⟨rfl, rfl, rfl, rfl, trivial⟩ E487 ⟨⟨(hM1.1.fresh (d := bk479) (by omega)).ext E487, hM1.2.1.keep E487 (fun _ h => h), hM1.2.2⟩, B486, by omega, hU1.trans (Ext.to E487)⟩
  ·
   intro l x d w488 hY
   obtain ⟨⟨hS, hPt, htt, hpl⟩, hBd, hdg, hU1⟩ := hY
   have ldd := hBd.lt
   have hrg := hS.gr.rng
   have hmid : sumT [x.part.v] = x.part.v.tons := by simp [sumT]
   have hux := hS.u
   have lV := hS.gr.voy.blk.lt
   have llb := hS.gr.voy.lblk.lt
   have u489 : Upd (fun i => i = bt ∨ i = (nth V.hl ((ee.frm).toNat)).p ∨ (i = (nth V.hl ((ee.frm).toNat)).g ∧ base ≤ i) ∨ i = bk449 ∨ i = (w470.heap.size + 1)) w470 w488 := hux
   have zu489 := u489.size
   obtain ⟨xf, aoL, gL, cpL, yl, ps, hV2, hBL, hLL, hmL, htL, hplL, hlL, hDd⟩ := hS.st
   have lgL := hLL.acc.lt
   have hDd2 : gL ≠ d := hDd
   have nb1 := hBL.neT hBd (by decide)
   have nb2 : w470.heap.size ≤ gL → gL ≠ bk449 := fun h => hLL.acc.neB hBL (by decide) h
   have np1 : base ≤ x.part.b → x.part.b ≠ bk449 := fun h => hPt.1.neB hBL (by decide) h
   have np2 : base ≤ x.part.b → w470.heap.size ≤ gL → x.part.b ≠ gL := fun h h2 => hPt.1.neA hLL.acc (by decide) h h2
   have lt_gL := hLL.acc.lt
   change WC _ _ _ _ _ _ [(0, .pointer (some ⟨pv, 0, none⟩)), (6, .pointer (some ⟨bk19, 0, none⟩)), (10, .pointer (some ⟨bk449, 0, none⟩)), (11, .pointer (some ⟨d, 0, none⟩))] _
   have hcellsR := ((hBL).cellsIn.or (hLL.acc).cellsIn)
   refine c_block ?_
   have B491 := (B476.keep u489 (by omega))
   refine c_drawn follows 9 [some (114, some (.pointer (some ⟨bk449, 2, none⟩))), some (115, some (.slice aoL yl.length cpL)), some (116, some (.func (.func 87) #[] #[.pointer (some ⟨bk2, 0, none⟩)])), some (117, some (.agg #[.int .i64 x.part.v.bill, .int .i64 x.part.v.tons, .slice x.part.ao ((x.part.v.path).length) x.part.cap])), some (118, none), some (119, none), some (120, none), some (121, some (.pointer (some ⟨bk449, 2, none⟩))), none] [[],[0],[],[],[2,3],[4],[1,5,4],[0,1,2,3,4,5,6],[7,6,6,0,1,2,3,4,5,6]] (fun D ρ w => Upd (fun i => i = bk449 ∨ (i = gL ∧ w470.heap.size ≤ i)) w488 w ∧ (D 6 = false → Acc encHLay 3 97 w470.heap.size w aoL gL cpL yl) ∧ (D 6 = false → Blk w bk449 125 [.int .i64 (n : Int), .int .i64 ee.port, .slice aoL yl.length cpL]) ∧ (D 4 = true → ∃ gA cA, ρ 4 = .agg #[.int .i64 x.part.v.bill, .int .i64 x.part.v.tons, .slice (some ⟨gA, 0, none⟩) (List.length (x.part.v.path ++ [(n : Int)])) cA] ∧ (D 5 = false → (Acc encI 1 3 base w (some ⟨gA, 0, none⟩) gA cA (x.part.v.path ++ [(n : Int)]) ∧ w488.heap.size ≤ gA))) ∧ (D 5 = true → ∃ gA cA bk498, ρ 5 = .slice (some ⟨bk498, 0, none⟩) 1 1 ∧ w488.heap.size ≤ bk498 ∧ Blk w bk498 97 [.int .i64 x.part.v.bill, .int .i64 x.part.v.tons, .slice (some ⟨gA, 0, none⟩) (List.length (x.part.v.path ++ [(n : Int)])) cA] ∧ (Acc encI 1 3 base w (some ⟨gA, 0, none⟩) gA cA (x.part.v.path ++ [(n : Int)]) ∧ w488.heap.size ≤ gA)) ∧ (D 6 = true → ∃ gA cA ao504 gb505 cp506, ρ 6 = .slice ao504 (((yl ++ [(⟨movL (n : Int) x.part.v, some ⟨gA, 0, none⟩, gA, cA⟩ : HLay)])).length) cp506 ∧ Acc encHLay 3 97 w470.heap.size w ao504 gb505 cp506 (yl ++ [(⟨movL (n : Int) x.part.v, some ⟨gA, 0, none⟩, gA, cA⟩ : HLay)]) ∧ (gb505 = gL ∨ w488.heap.size ≤ gb505) ∧ (Acc encI 1 3 base w (some ⟨gA, 0, none⟩) gA cA (x.part.v.path ++ [(n : Int)]) ∧ w488.heap.size ≤ gA) ∧ Blk w bk449 125 [.int .i64 (n : Int), .int .i64 ee.port, (bif D 8 then .slice ao504 (((yl ++ [(⟨movL (n : Int) x.part.v, some ⟨gA, 0, none⟩, gA, cA⟩ : HLay)])).length) cp506 else .slice aoL yl.length cpL)])) rfl rfl rfl (by kernel_rfl) (by kernel_rfl) ⟨(Upd.drew _).to, (fun _ => hLL.acc.keep (Upd.drew _) (fun _ h => h)), (fun _ => hBL.keep (Upd.drew _) (fun h => h)), (fun h => by cases h), (fun h => by cases h), (fun h => by cases h)⟩ ⟨?_, ?_, ?_, ?_, ?_, ?_, ?_, ?_, ?_, trivial⟩ ?_
   · exact pzf Try.underlying125 rfl Try.sizeOf120 (2) rfl rfl rfl rfl rfl fun _ _ _ h => h
   · exact fun D ρ w511 hcD hnD hdD hW => ⟨_, kf_fr [114], fun Lr => t_load Try.isAgg120 rfl rfl rfl ((hW.2.2.1 (hcD.late 6 hnD rfl)).get rfl) (dz rfl hW)⟩
   · exact fun D ρ w520 hcD hnD hdD hW => ⟨_, kf_fr [6], fun Lr => t_load Try.isAgg174 rfl rfl rfl ((B491.keep hW.1 (by omega)).get rfl) (dz rfl hW)⟩
   · exact fun D ρ w530 hcD hnD hdD hW => ⟨_, kf_fr [11], fun Lr => t_loadN (vs := [.int .i64 x.part.v.bill, .int .i64 x.part.v.tons, .slice x.part.ao ((x.part.v.path).length) x.part.cap]) Try.isAgg97 Try.sizeOf97 rfl rfl rfl ((hBd.keep hW.1 (by omega)).at.sub 0 3) rfl (dz rfl hW)⟩
   ·
    intro D ρ w540 hcD hnD hdD hW
    obtain ⟨u541, C542, T543, F544, F545, F546⟩ := hW
    have zu541 := u541.size
    refine ⟨_, kf_fr [116, 117], fun Lr => ?_⟩
    have B549 := ((B474.keep u489 (by omega)).keep u541 (by omega))
    have D550 := (hPt.1.keep u541 (fun hb => show ¬ (x.part.b = bk449 ∨ (x.part.b = gL ∧ w470.heap.size ≤ x.part.b)) by have h1 := np1 hb; have h2 := np2 hb; omega))
    refine t_call own87 rfl rfl rfl rfl (moved_c base bk2 (n : Int) x.part.v.bill x.part.v.tons x.part.v.path x.part.ao x.part.b x.part.cap _ B549 (D550.sl (fun _ => rfl)) D550.cap_le (by omega) (by omega)) (fun v551 w552 r554 => ?_)
    obtain ⟨gA, cA, rfl, hAp, hgA, u553⟩ := r554
    have zu553 := u553.size
    exact dzn rfl ⟨(u541.next u553 (fun _ _ h => h.elim)), (fun h => ((C542 h).keep u553 (fun _ h => h))), (fun h => ((T543 h).keep u553 (fun h => h))), (fun _ => ⟨gA, cA, rfl, fun _ => ⟨hAp, by omega⟩⟩), (fun h => absurd ((hcD.late 5 hnD rfl).symm.trans h) (by decide)), (fun h => absurd ((hcD.late 6 hnD rfl).symm.trans h) (by decide))⟩
   ·
    intro D ρ w556 hcD hnD hdD hW
    obtain ⟨u557, C558, T559, F560, F561, F562⟩ := hW
    have zu557 := u557.size
    obtain ⟨gA, cA, e565, H566⟩ := F560 (hdD 4 rfl)
    have H567 := H566 hnD
    refine ⟨[(118, .agg #[.int .i64 x.part.v.bill, .int .i64 x.part.v.tons, .slice (some ⟨gA, 0, none⟩) (List.length (x.part.v.path ++ [(n : Int)])) cA])], ⟨fi 4 rfl rfl e565.symm, trivial⟩, fun Lr => ?_⟩
    refine t_bslice (ps := [(0, .agg #[.int .i64 x.part.v.bill, .int .i64 x.part.v.tons, .slice (some ⟨gA, 0, none⟩) (List.length (x.part.v.path ++ [(n : Int)])) cA])]) (cs := [.int .i64 x.part.v.bill, .int .i64 x.part.v.tons, .slice (some ⟨gA, 0, none⟩) (List.length (x.part.v.path ++ [(n : Int)])) cA]) (e := 97) rfl rfl ⟨rfl, rfl⟩ (fun w => by kernel_rfl) (fun bk568 w569 ebk568 sbk568 B570 u571 => ?_)
    have zu571 := u571.size
    exact dzn rfl ⟨(u557.next u571 (fun _ _ h => h.elim)), (fun h => ((C558 h).keep u571 (fun _ h => h))), (fun h => ((T559 h).keep u571 (fun h => h))), (fun h => by obtain ⟨gA, cA, e, _⟩ := F560 h; exact ⟨gA, cA, e, fun h => by cases h⟩), (fun _ => ⟨gA, cA, bk568, rfl, (by omega), (by show Blk w569 bk568 97 [.int .i64 x.part.v.bill, .int .i64 x.part.v.tons, .slice (some ⟨gA, 0, none⟩) (List.length (x.part.v.path ++ [(n : Int)])) cA]; exact B570), ⟨(H567.1.keep u571 (fun _ h => h)), H567.2⟩⟩), (fun h => absurd ((hcD.late 6 hnD rfl).symm.trans h) (by decide))⟩
   ·
    intro D ρ w573 hcD hnD hdD hW
    obtain ⟨u574, C575, T576, F577, F578, F579⟩ := hW
    have zu574 := u574.size
    have B581 := T576 hnD
    have C582 := C575 hnD
    obtain ⟨gA, cA, bk498, e583, gebk498, B584, fcB584_4⟩ := F578 (hdD 5 rfl)
    refine ⟨[(115, .slice aoL yl.length cpL), (119, .slice (some ⟨bk498, 0, none⟩) 1 1)], ⟨fi 1 rfl rfl rfl, fi 5 rfl rfl e583.symm, trivial⟩, fun Lr => ?_⟩
    refine t_append (z := .agg #[.int .i64 0, .int .i64 0, .slice none 0 0]) (bytes := 40) (k := 3) (base := w470.heap.size) (⟨movL (n : Int) x.part.v, some ⟨gA, 0, none⟩, gA, cA⟩ : HLay) Try.underlying120 (by kernel_rfl) rfl (by decide) (fun _ => rfl) (by intro x; simp [encHLay, Value.oneCell']) rfl rfl rfl rfl C582 B584 (by omega) (by omega) (by decide) (fun ao585 gb586 cp587 w588 A589 u590 gegb586 lngb586 => ?_)
    have zu590 := u590.size
    have lt_gb586 := A589.lt
    have d8 := (hcD.late 8 hnD rfl)
    have B592 := (B581.keep u590 (by omega))
    exact dzn rfl ⟨(u574.next u590 (fun i hi h => by omega)), (fun h => by cases h), (fun h => by cases h), (fun h => by obtain ⟨gA, cA, e, _⟩ := F577 h; exact ⟨gA, cA, e, fun h2 => absurd ((hdD 5 rfl).symm.trans h2) (by decide)⟩), (fun h => by obtain ⟨gA, cA, b, e, hge, hB, hF4⟩ := F578 h; exact ⟨gA, cA, b, e, hge, (hB.keep u590 (show ¬ ((b = gL ∧ w470.heap.size ≤ b)) by first | omega | assumption)), ⟨(hF4.1.keep u590 (fun _ => by have hgg := hF4.2; show ¬ ((gA = gL ∧ w470.heap.size ≤ gA)); omega)), hF4.2⟩⟩), (fun _ => ⟨gA, cA, ao585, gb586, cp587, rfl, A589, (by omega), ⟨(fcB584_4.1.keep u590 (fun _ => by have hgg := fcB584_4.2; show ¬ ((gA = gL ∧ w470.heap.size ≤ gA)); omega)), fcB584_4.2⟩, (by show Blk w588 bk449 125 [.int .i64 (n : Int), .int .i64 ee.port, (bif D 8 then .slice ao585 (((yl ++ [(⟨movL (n : Int) x.part.v, some ⟨gA, 0, none⟩, gA, cA⟩ : HLay)])).length) cp587 else .slice aoL yl.length cpL)]; simp only [d8, cond_false]; exact B592)⟩)⟩
   · exact pzf Try.underlying125 rfl Try.sizeOf120 (2) rfl rfl rfl rfl rfl fun _ _ _ h => h
   ·
    intro D ρ w593 hcD hnD hdD hW
    obtain ⟨u594, C595, T596, F597, F598, F599⟩ := hW
    have zu594 := u594.size
    obtain ⟨gA, cA, ao504, gb505, cp506, e601, A602, h603, fcA602_4, B605⟩ := F599 (hdD 6 rfl)
    simp only [hnD, cond_false] at B605
    refine ⟨[(120, .slice ao504 (((yl ++ [(⟨movL (n : Int) x.part.v, some ⟨gA, 0, none⟩, gA, cA⟩ : HLay)])).length) cp506), (121, .pointer (some ⟨bk449, 2, none⟩))], ⟨fi 6 rfl rfl e601.symm, fi 7 rfl rfl rfl, trivial⟩, fun Lr => ?_⟩
    refine t_st (vs := [.slice ao504 (((yl ++ [(⟨movL (n : Int) x.part.v, some ⟨gA, 0, none⟩, gA, cA⟩ : HLay)])).length) cp506]) Try.sizeOf120 rfl rfl rfl B605 rfl rfl rfl rfl (fun w606 sw606 B608 u607 => ?_)
    have zu607 := u607.size
    have B608 : Blk w606 bk449 125 [.int .i64 (n : Int), .int .i64 ee.port, .slice ao504 (((yl ++ [(⟨movL (n : Int) x.part.v, some ⟨gA, 0, none⟩, gA, cA⟩ : HLay)])).length) cp506] := B608
    exact dz0 rfl ⟨(u594.next u607 (fun i hi h => by omega)), (fun h => absurd ((hdD 6 rfl).symm.trans h) (by decide)), (fun h => absurd ((hdD 6 rfl).symm.trans h) (by decide)), (fun h => by obtain ⟨gA, cA, e, _⟩ := F597 h; exact ⟨gA, cA, e, fun h2 => absurd ((hdD 5 rfl).symm.trans h2) (by decide)⟩), (fun h => by obtain ⟨gA, cA, b, e, hge, hB, hF4⟩ := F598 h; exact ⟨gA, cA, b, e, hge, (hB.keep u607 (show ¬ (b = bk449) by first | omega | assumption)), ⟨(hF4.1.keep u607 (fun _ => by have hgg := hF4.2; show ¬ (gA = bk449); omega)), hF4.2⟩⟩), (fun _ => ⟨gA, cA, ao504, gb505, cp506, e601, (A602.keep u607 (fun _ => show ¬ (gb505 = bk449) by first | omega | assumption)), h603, ⟨(fcA602_4.1.keep u607 (fun _ => by have hgg := fcA602_4.2; show ¬ (gA = bk449); omega)), fcA602_4.2⟩, B608⟩)⟩
   intro ρ w610 hW
   obtain ⟨u611, C612, T613, F614, F615, F616⟩ := hW
   have zu611 := u611.size
   clear C612
   obtain ⟨gA, cA, ao504, gb505, cp506, e620, A621, gegb505, fcA621_4, bkgb505⟩ := F616 rfl
   have bkgb505 : Blk w610 bk449 125 [.int .i64 (n : Int), .int .i64 ee.port, .slice ao504 (((yl ++ [(⟨movL (n : Int) x.part.v, some ⟨gA, 0, none⟩, gA, cA⟩ : HLay)])).length) cp506] := bkgb505
   have lt_gb505 := A621.lt
   refine QK.weak [(0, .pointer (some ⟨pv, 0, none⟩)), (6, .pointer (some ⟨bk19, 0, none⟩)), (10, .pointer (some ⟨bk449, 0, none⟩)), (11, .pointer (some ⟨d, 0, none⟩)), (114, .pointer (some ⟨bk449, 2, none⟩)), (115, .slice aoL yl.length cpL), (116, .func (.func 87) #[] #[.pointer (some ⟨bk2, 0, none⟩)]), (117, .agg #[.int .i64 x.part.v.bill, .int .i64 x.part.v.tons, .slice x.part.ao ((x.part.v.path).length) x.part.cap]), (120, .slice ao504 (((yl ++ [(⟨movL (n : Int) x.part.v, some ⟨gA, 0, none⟩, gA, cA⟩ : HLay)])).length) cp506), (121, .pointer (some ⟨bk449, 2, none⟩))] ⟨rfl, rfl, rfl, rfl, rfl, rfl, rfl, rfl, (look_nd (j := 6) rfl rfl rfl e620), rfl, trivial⟩ ?_
   have hUr := ((Upd.refl (fun i => i = bk449 ∨ (i = gL ∧ w470.heap.size ≤ i)) w488).next u611 (fun i hi h => by omega))
   have hcu := ((Upd.refl (fun i => i = bk449 ∨ (i = gL ∧ w470.heap.size ≤ i)) w488).next u611 (fun i hi h => by omega))
   exact fun a ha => ⟨KeepsFrom.of_upd hUr hcellsR, ⟨_, hS.addL hLL hV2 hmL htL hplL hlL ⟨by omega, by omega, by omega, by omega, by omega, by omega, by omega, by show V.lb < _; omega⟩ (by omega) hcu bkgb505 A621 (fcA621_4.1.mono2 (by omega)) (by have hgg := fcA621_4.2; omega) htt⟩, hU1.trans (hUr.mono fun _ _ => trivial)⟩
  ·
   have hmk0 := (show Marks w0.heap.size [] w470 from trivial)
   have hmc0 := (show CellsIn (fun i => i = bt ∨ i = (nth V.hl ((ee.frm).toNat)).p ∨ (i = (nth V.hl ((ee.frm).toNat)).g ∧ base ≤ i) ∨ i = bk449 ∨ i = (w470.heap.size + 1)) w470 from fun k hk e => by
     rcases e with rfl | rfl | e | rfl | e
     · exact ⟨_, _, _, hBt⟩
     · exact ⟨_, _, _, hHF.blk⟩
     · exact hHF.lays.acc.cellsIn _ hk e
     · exact ⟨_, _, _, B477⟩
     · omega)
   intro D623 w622 hD623 hE hdD623
   obtain ⟨VE, hSE⟩ := hE
   have u624 : Upd (fun i => i = bt ∨ i = (nth V.hl ((ee.frm).toNat)).p ∨ (i = (nth V.hl ((ee.frm).toNat)).g ∧ base ≤ i) ∨ i = bk449 ∨ i = (w470.heap.size + 1)) w470 w622 := hSE.u
   have zu624 := u624.size
   obtain ⟨xf, aoL, gL, cpL, yl, ps, hV2, hBL, hLL, hmL, htL, hplL, hlL, _⟩ := hSE.st
   have hVld : VE.ld = V.ld := by rw [hV2]; rfl
   have mk626 := (hmk0.keep u624 hmc0).push (D := D623) (by omega) hdD623 (fun d hd D' e => Nat.lt_of_lt_of_le (hmk0.lt d hd D' e) hD623)
   refine hK458 _ _ ?_
   have hvE := hSE.gr.voy
   have hdA : Acc encLG 3 125 base w622 V.da V.dg V.dc V.ld := by have h := hvE.dacc; rw [hV2] at h; exact h
   have ldA := hdA.lt
   have hdne : base ≤ V.dg → V.dg ≠ pv := fun h => hdA.neB hvE.blk (by decide) h
   have lt_V_dg := hdA.lt
   have hpE : Blk w622 pv 118 [.slice V.ab V.bs.length V.cb, .slice V.ah V.hs.length V.ch, .slice V.pa V.hl.length V.pc, .slice (some ⟨V.lb, 0, none⟩) V.ls.length V.ls.length, .map (some V.r), .slice V.da V.ld.length V.dc, .int .i64 ee.minute] := (by have h := hvE.blk; rw [hV2, VG.setH_cells] at h; exact h)
   refine c_drawn follows 11 [some (122, some (.pointer (some ⟨pv, 0, none⟩))), some (123, some (.pointer (some ⟨pv, 0, none⟩))), some (124, some (.pointer (some ⟨pv, 0, none⟩))), some (125, some (.pointer (some ⟨pv, 5, none⟩))), some (126, some (.slice V.da V.ld.length V.dc)), some (127, some (.agg #[.int .i64 (n : Int), .int .i64 ee.port, .slice aoL (List.length yl) cpL])), some (128, none), some (129, none), some (130, some (.pointer (some ⟨pv, 0, none⟩))), some (131, some (.pointer (some ⟨pv, 5, none⟩))), none] [[],[],[1],[2],[3],[],[5],[4,6],[0,0,1,2,3,4,5,6,7],[8,0,1,2,3,4,5,6,7],[9,7,7,0,1,2,3,4,5,6,7]] (fun D ρ w => Upd (fun i => i = pv ∨ (i = V.dg ∧ base ≤ i)) w622 w ∧ (D 7 = false → Acc encLG 3 125 base w V.da V.dg V.dc V.ld) ∧ (D 7 = false → Blk w pv 118 [.slice V.ab V.bs.length V.cb, .slice V.ah V.hs.length V.ch, .slice V.pa V.hl.length V.pc, .slice (some ⟨V.lb, 0, none⟩) V.ls.length V.ls.length, .map (some V.r), .slice V.da V.ld.length V.dc, .int .i64 ee.minute]) ∧ (D 6 = true → ∃ bk627, ρ 6 = .slice (some ⟨bk627, 0, none⟩) 1 1 ∧ w622.heap.size ≤ bk627 ∧ Blk w bk627 125 [.int .i64 (n : Int), .int .i64 ee.port, .slice aoL (List.length yl) cpL]) ∧ (D 7 = true → ∃ ao633 gb634 cp635, ρ 7 = .slice ao633 (((V.ld ++ [(⟨(n : Int), ee.port, aoL, gL, cpL, yl⟩ : LG)])).length) cp635 ∧ Acc encLG 3 125 base w ao633 gb634 cp635 (V.ld ++ [(⟨(n : Int), ee.port, aoL, gL, cpL, yl⟩ : LG)]) ∧ (gb634 = V.dg ∨ w622.heap.size ≤ gb634) ∧ Blk w pv 118 [.slice V.ab V.bs.length V.cb, .slice V.ah V.hs.length V.ch, .slice V.pa V.hl.length V.pc, .slice (some ⟨V.lb, 0, none⟩) V.ls.length V.ls.length, .map (some V.r), (bif D 10 then .slice ao633 (((V.ld ++ [(⟨(n : Int), ee.port, aoL, gL, cpL, yl⟩ : LG)])).length) cp635 else .slice V.da V.ld.length V.dc), .int .i64 ee.minute])) rfl rfl rfl (by kernel_rfl) (by kernel_rfl) ⟨(Upd.drew _).to, (fun _ => hdA.keep (Upd.drew _) (fun _ h => h)), (fun _ => hpE.keep (Upd.drew _) (fun h => h)), (fun h => by cases h), (fun h => by cases h)⟩ ⟨?_, ?_, ?_, ?_, ?_, ?_, ?_, ?_, ?_, ?_, ?_, trivial⟩ ?_
   · exact pz rfl rfl rfl rfl fun _ _ _ h => h
   · exact pz rfl rfl rfl rfl fun _ _ _ h => h
   · exact pz rfl rfl rfl rfl fun _ _ _ h => h
   · exact pzf Try.underlying118 rfl Try.sizeOf116 (5) rfl rfl rfl rfl rfl fun _ _ _ h => h
   · exact fun D ρ w640 hcD hnD hdD hW => ⟨_, kf_fr [125], fun Lr => t_load Try.isAgg116 rfl rfl rfl ((hW.2.2.1 (hcD.late 7 hnD rfl)).get rfl) (dz rfl hW)⟩
   · exact fun D ρ w648 hcD hnD hdD hW => ⟨_, kf_fr [10], fun Lr => t_loadN (vs := [.int .i64 (n : Int), .int .i64 ee.port, .slice aoL (List.length yl) cpL]) Try.isAgg125 Try.sizeOf125 rfl rfl rfl ((hBL.keep hW.1 (by omega)).at.sub 0 3) rfl (dz rfl hW)⟩
   ·
    intro D ρ w657 hcD hnD hdD hW
    obtain ⟨u658, C659, T660, F661, F662⟩ := hW
    have zu658 := u658.size
    refine ⟨_, kf_fr [127], fun Lr => ?_⟩
    refine t_bslice (ps := [(0, .agg #[.int .i64 (n : Int), .int .i64 ee.port, .slice aoL (List.length yl) cpL])]) (cs := [.int .i64 (n : Int), .int .i64 ee.port, .slice aoL (List.length yl) cpL]) (e := 125) rfl rfl ⟨rfl, rfl⟩ (fun w => by kernel_rfl) (fun bk665 w666 ebk665 sbk665 B667 u668 => ?_)
    have zu668 := u668.size
    exact dzn rfl ⟨(u658.next u668 (fun _ _ h => h.elim)), (fun h => ((C659 h).keep u668 (fun _ h => h))), (fun h => ((T660 h).keep u668 (fun h => h))), (fun _ => ⟨bk665, rfl, (by omega), (by show Blk w666 bk665 125 [.int .i64 (n : Int), .int .i64 ee.port, .slice aoL (List.length yl) cpL]; exact B667)⟩), (fun h => absurd ((hcD.late 7 hnD rfl).symm.trans h) (by decide))⟩
   ·
    intro D ρ w670 hcD hnD hdD hW
    obtain ⟨u671, C672, T673, F674, F675⟩ := hW
    have zu671 := u671.size
    have B677 := T673 hnD
    have C678 := C672 hnD
    obtain ⟨bk627, e679, gebk627, B680⟩ := F674 (hdD 6 rfl)
    refine ⟨[(126, .slice V.da V.ld.length V.dc), (128, .slice (some ⟨bk627, 0, none⟩) 1 1)], ⟨fi 4 rfl rfl rfl, fi 6 rfl rfl e679.symm, trivial⟩, fun Lr => ?_⟩
    refine t_append (z := .agg #[.int .i64 0, .int .i64 0, .slice none 0 0]) (bytes := 40) (k := 3) (base := base) (⟨(n : Int), ee.port, aoL, gL, cpL, yl⟩ : LG) Try.underlying116 (by kernel_rfl) rfl (by decide) (fun _ => rfl) (by intro x; simp [encLG, Value.oneCell']) rfl rfl rfl rfl C678 B680 (by omega) (by omega) (by decide) (fun ao681 gb682 cp683 w684 A685 u686 gegb682 lngb682 => ?_)
    have zu686 := u686.size
    have lt_gb682 := A685.lt
    have d10 := (hcD.late 10 hnD rfl)
    have B688 := (B677.keep u686 (by omega))
    exact dzn rfl ⟨(u671.next u686 (fun i hi h => by omega)), (fun h => by cases h), (fun h => by cases h), (fun h => by obtain ⟨b, e, hge, hB⟩ := F674 h; exact ⟨b, e, hge, (hB.keep u686 (show ¬ ((b = V.dg ∧ base ≤ b)) by first | omega | assumption))⟩), (fun _ => ⟨ao681, gb682, cp683, rfl, A685, (by omega), (by show Blk w684 pv 118 [.slice V.ab V.bs.length V.cb, .slice V.ah V.hs.length V.ch, .slice V.pa V.hl.length V.pc, .slice (some ⟨V.lb, 0, none⟩) V.ls.length V.ls.length, .map (some V.r), (bif D 10 then .slice ao681 (((V.ld ++ [(⟨(n : Int), ee.port, aoL, gL, cpL, yl⟩ : LG)])).length) cp683 else .slice V.da V.ld.length V.dc), .int .i64 ee.minute]; simp only [d10, cond_false]; exact B688)⟩)⟩
   · exact pz rfl rfl rfl rfl fun _ _ _ h => h
   · exact pzf Try.underlying118 rfl Try.sizeOf116 (5) rfl rfl rfl rfl rfl fun _ _ _ h => h
   ·
    intro D ρ w689 hcD hnD hdD hW
    obtain ⟨u690, C691, T692, F693, F694⟩ := hW
    have zu690 := u690.size
    obtain ⟨ao633, gb634, cp635, e696, A697, h698, B700⟩ := F694 (hdD 7 rfl)
    simp only [hnD, cond_false] at B700
    refine ⟨[(129, .slice ao633 (((V.ld ++ [(⟨(n : Int), ee.port, aoL, gL, cpL, yl⟩ : LG)])).length) cp635), (131, .pointer (some ⟨pv, 5, none⟩))], ⟨fi 7 rfl rfl e696.symm, fi 9 rfl rfl rfl, trivial⟩, fun Lr => ?_⟩
    refine t_st (vs := [.slice ao633 (((V.ld ++ [(⟨(n : Int), ee.port, aoL, gL, cpL, yl⟩ : LG)])).length) cp635]) Try.sizeOf116 rfl rfl rfl B700 rfl rfl rfl rfl (fun w701 sw701 B703 u702 => ?_)
    have zu702 := u702.size
    have B703 : Blk w701 pv 118 [.slice V.ab V.bs.length V.cb, .slice V.ah V.hs.length V.ch, .slice V.pa V.hl.length V.pc, .slice (some ⟨V.lb, 0, none⟩) V.ls.length V.ls.length, .map (some V.r), .slice ao633 (((V.ld ++ [(⟨(n : Int), ee.port, aoL, gL, cpL, yl⟩ : LG)])).length) cp635, .int .i64 ee.minute] := B703
    exact dz0 rfl ⟨(u690.next u702 (fun i hi h => by omega)), (fun h => absurd ((hdD 7 rfl).symm.trans h) (by decide)), (fun h => absurd ((hdD 7 rfl).symm.trans h) (by decide)), (fun h => by obtain ⟨b, e, hge, hB⟩ := F693 h; exact ⟨b, e, hge, (hB.keep u702 (show ¬ (b = pv) by first | omega | assumption))⟩), (fun _ => ⟨ao633, gb634, cp635, e696, (A697.keep u702 (fun _ => show ¬ (gb634 = pv) by first | omega | assumption)), h698, B703⟩)⟩
   intro ρ w705 hW
   obtain ⟨u706, C707, T708, F709, F710⟩ := hW
   have zu706 := u706.size
   clear C707
   obtain ⟨ao633, gb634, cp635, e713, A714, gegb634, bkgb634⟩ := F710 rfl
   have bkgb634 : Blk w705 pv 118 [.slice V.ab V.bs.length V.cb, .slice V.ah V.hs.length V.ch, .slice V.pa V.hl.length V.pc, .slice (some ⟨V.lb, 0, none⟩) V.ls.length V.ls.length, .map (some V.r), .slice ao633 (((V.ld ++ [(⟨(n : Int), ee.port, aoL, gL, cpL, yl⟩ : LG)])).length) cp635, .int .i64 ee.minute] := bkgb634
   have lt_gb634 := A714.lt
   refine QK.weak [] trivial ?_
   have hcl := un_close hLL hmL htL hbR (by omega) hhas (fun y hy => by obtain ⟨x, hx, rfl⟩ := List.mem_map.1 hy; exact hvo.tons (nth_mem hfi) hx)
   have hcu := ((Upd.refl (fun i => i = pv ∨ (i = V.dg ∧ base ≤ i)) w622).next u706 (fun i hi h => by omega))
   have hdl := hvR.dacc.lt
   simp only [] at hdl
   have hvE2 := hvE
   rw [hV2] at hvE2
   have hvF := hvE2.setD (l := (⟨(n : Int), ee.port, aoL, gL, cpL, yl⟩ : LG)) hcu (by simp only [VG.cells, VG.setH, List.length_set]; exact bkgb634) A714 (hcl.1.keep hcu (fun _ e => by omega) (fun x hx hq e => by have h1 := (hLL.path x hx).1; have h2 := un_path hmL hx; have h3 := h1.base_le h2; omega)) (fun x hx _ => un_ne hfi (fun x hx => (hvR.hold x hx).lays.acc.lt) hcl.2 x hx)
   have hFin := fin3 g94 hfi hV2 hmL htL ao633 gb634 cp635 aoL gL cpL
   rw [hV2] at hFin
   have D717 := (mk626.keep u706 (hpE.cellsIn.or hdA.cellsIn))
   have hmkE := D717
   refine f_retMc0  Try.results74  D717 (fun w715 u716 omw715 => ?_)
   have zu716 := u716.size
   exact ⟨⟨_, hvF.marks hmkE u716 omw715 hrlt hb0, hFin⟩, (((((((E27.nx u452).next u455 (fun i hi (h : i = bk449) => show base ≤ i by first | omega | assumption)).nx u467).nx u471).next u624 (fun i hi (h : i = bt ∨ i = (nth V.hl ((ee.frm).toNat)).p ∨ (i = (nth V.hl ((ee.frm).toNat)).g ∧ base ≤ i) ∨ i = bk449 ∨ i = (w470.heap.size + 1)) => show base ≤ i by first | omega | assumption)).next u706 (fun i hi (h : i = pv ∨ (i = V.dg ∧ base ≤ i)) => show base ≤ i by first | omega | assumption)).next u716 (fun i hi (h : w0.heap.size ≤ i) => show base ≤ i by first | omega | assumption))⟩
 refine c_seq fun K719 hK719 => (c_region (t_cmp rfl rfl rfl rfl rfl (t_assign rfl rfl rfl (t_nil' (hK719 _ _ (c_condp rfl (fun g132 => ?_) (fun g132 => ?_)))))))
 ·
  have uT : useT ee = true := by simp [useT, g132]
  have hti := hc.to uT
  rw [List.length_map] at hti
  have lT0 := (hv.hold _ (nth_mem hti)).blk.lt
  have lgT0 := (hv.hold _ (nth_mem hti)).lays.acc.lt
  have hpT := (hv.hold _ (nth_mem hti)).pge
  have hsn := hc.sn g132
  have hH : HoldM base w24 V.lb (nth V.hl ((ee.to).toNat)) := (hv1.ext (((Upd.refl (fun _ => False) w14).next u22 (fun _ _ h => h.elim)).next u25 (fun i hi h => by omega))).hold _ (nth_mem hti)
  have nv := hv.vne (hv.hold _ (nth_mem hti)).blk
  have npv := nv.pv (by decide)
  have npg := nv.pg (by decide) (hv.pacc.base_le (by omega))
  have hpA : Sl encPt 1 w24 V.pa V.pg 0 V.hl := ((hv1.ext (((Upd.refl (fun _ => False) w14).next u22 (fun _ _ h => h.elim)).next u25 (fun i hi h => by omega)))).pacc.sl (fun _ => rfl)
  have B720 := ((B16.kx u22).keep u25 (by omega))
  refine c_drawnS follows 20 17 [some (134, some (.pointer (some ⟨pv, 0, none⟩))), some (135, some (.pointer (some ⟨pv, 0, none⟩))), some (136, some (.pointer (some ⟨pv, 2, none⟩))), some (137, some (.slice V.pa V.hl.length V.pc)), some (138, some (.pointer (some ⟨bk7, 4, none⟩))), some (139, some (.int .i64 ee.to)), some (140, some (.pointer (some ⟨V.pg, 0 + (ee.to).toNat * 1, none⟩))), some (141, some (.pointer (some ⟨(nth V.hl ((ee.to).toNat)).p, 0, none⟩))), some (142, some (.pointer (some ⟨pv, 0, none⟩))), some (143, some (.pointer (some ⟨pv, 0, none⟩))), some (144, some (.pointer (some ⟨pv, 4, none⟩))), some (145, some (.map (some V.r))), some (146, some (.pointer (some ⟨bk7, 7, none⟩))), some (147, some (.int .i64 ee.sn)), some (148, some (.pointer (some ⟨(nth V.hl ((ee.to).toNat)).p, 0, none⟩))), some (149, some (.pointer (some ⟨(nth V.hl ((ee.to).toNat)).p, 3, none⟩))), none] [[],[0],[1],[2],[],[4],[3,5],[6],[],[8],[9],[10],[],[12],[7,0,1,2,3,4,5,6,7,11],[14,0,1,2,3,4,5,6,7,11],[15,0,1,2,3,4,5,6,7,11],[11,13,16,0,1,2,3,4,5,6,7,11,14,15,16],[17],[11,18,17,0,1,2,3,4,5,6,7,8,9,10,11,12,13,14,15,16,17]] (fun D _ w => Upd (fun i => i = (nth V.hl ((ee.to).toNat)).p) w24 w ∧ Blk w (nth V.hl ((ee.to).toNat)).p 122 [.int .i64 ((nth V.hl ((ee.to).toNat)).hull), .int .i64 ((nth V.hl ((ee.to).toNat)).cap), .slice ((nth V.hl ((ee.to).toNat)).ao) ((nth V.hl ((ee.to).toNat)).xs.length) ((nth V.hl ((ee.to).toNat)).cp), (bif D 16 then .bool true else .bool ((nth V.hl ((ee.to).toNat)).sealed))]) rfl rfl rfl rfl (by kernel_rfl) (by kernel_rfl) (by kernel_rfl) ⟨(Upd.drew _).to, (hH.blk.keep (Upd.drew _) (fun h => h))⟩ ⟨?_, ?_, ?_, ?_, ?_, ?_, ?_, ?_, ?_, ?_, ?_, ?_, ?_, ?_, ?_, ?_, ?_, trivial⟩ ?_
  · exact pz rfl rfl rfl rfl fun _ _ _ h => h
  · exact pz rfl rfl rfl rfl fun _ _ _ h => h
  · exact pzf Try.underlying118 rfl Try.sizeOf114 (2) rfl rfl rfl rfl rfl fun _ _ _ h => h
  ·
   intro D ρ w722 hcD hnD hdD hW
   obtain ⟨u723, B724⟩ := hW
   have zu723 := u723.size
   have d16 := hcD.late 16 hnD rfl
   have B726 := B724
   simp only [d16, cond_false] at B726
   refine ⟨_, kf_fr [136], fun Lr => ?_⟩
   have B727 := (B720.keep u723 (by omega))
   refine t_load Try.isAgg114 rfl rfl rfl (B727.get rfl) ?_
   exact dz rfl ⟨u723, B724⟩
  · exact pzf Try.underlying41 rfl Try.sizeOf3 (4) rfl rfl rfl rfl rfl fun _ _ _ h => h
  ·
   intro D ρ w728 hcD hnD hdD hW
   obtain ⟨u729, B730⟩ := hW
   have zu729 := u729.size
   have d16 := hcD.late 16 hnD rfl
   have B732 := B730
   simp only [d16, cond_false] at B732
   refine ⟨_, kf_fr [138], fun Lr => ?_⟩
   have B733 := (B29.keep u729 (by omega))
   refine t_load Try.isAgg3 rfl rfl rfl (B733.get rfl) ?_
   exact dz rfl ⟨u729, B730⟩
  ·
   intro D ρ w734 hcD hnD hdD hW
   obtain ⟨u735, B736⟩ := hW
   have zu735 := u735.size
   have d16 := hcD.late 16 hnD rfl
   have B738 := B736
   simp only [d16, cond_false] at B738
   refine ⟨_, kf_fr [137, 139], fun Lr => ?_⟩
   have D739 := (hpA.keep u735 (fun _ => show ¬ (V.pg = (nth V.hl ((ee.to).toNat)).p) by omega))
   have i740 : (ee.to).toNat < V.hl.length := (by omega)
   refine t_index (j := (ee.to).toNat) Try.underlying114 Try.sizeOf119 rfl rfl rfl rfl (D739.addr (by omega)) (by omega) i740 ?_
   exact dz rfl ⟨u735, B736⟩
  ·
   intro D ρ w741 hcD hnD hdD hW
   obtain ⟨u742, B743⟩ := hW
   have zu742 := u742.size
   have d16 := hcD.late 16 hnD rfl
   have B745 := B743
   simp only [d16, cond_false] at B745
   refine ⟨_, kf_fr [140], fun Lr => ?_⟩
   have D746 := (hpA.keep u742 (fun _ => show ¬ (V.pg = (nth V.hl ((ee.to).toNat)).p) by omega))
   refine t_load Try.isAgg119 rfl rfl rfl ((D746.at_ ((ee.to).toNat) (by omega)) 0 _ rfl) ?_
   exact dz rfl ⟨u742, B743⟩
  · exact pz rfl rfl rfl rfl fun _ _ _ h => h
  · exact pz rfl rfl rfl rfl fun _ _ _ h => h
  · exact pzf Try.underlying118 rfl Try.sizeOf115 (4) rfl rfl rfl rfl rfl fun _ _ _ h => h
  ·
   intro D ρ w747 hcD hnD hdD hW
   obtain ⟨u748, B749⟩ := hW
   have zu748 := u748.size
   have d16 := hcD.late 16 hnD rfl
   have B751 := B749
   simp only [d16, cond_false] at B751
   refine ⟨_, kf_fr [144], fun Lr => ?_⟩
   have B752 := (B720.keep u748 (by omega))
   refine t_load Try.isAgg115 rfl rfl rfl (B752.get rfl) ?_
   exact dz rfl ⟨u748, B749⟩
  · exact pzf Try.underlying41 rfl Try.sizeOf3 (7) rfl rfl rfl rfl rfl fun _ _ _ h => h
  · exact fun D ρ w753 hcD hnD hdD hW => ⟨_, kf_fr [146], fun Lr => t_load Try.isAgg3 rfl rfl rfl ((B29.keep hW.1 (by omega)).get rfl) (dz rfl hW)⟩
  · exact pz rfl rfl rfl rfl fun _ _ _ h => h
  · exact pzf Try.underlying122 rfl Try.sizeOf4 (3) rfl rfl rfl rfl rfl fun _ _ _ h => h
  ·
   intro D ρ w758 hcD hnD hdD hW
   obtain ⟨u759, B760⟩ := hW
   have zu759 := u759.size
   have B762 := B760
   simp only [hnD, cond_false] at B762
   refine ⟨_, kf_fr [149], fun Lr => ?_⟩
   refine t_st (vs := [.bool true]) Try.sizeOf4 rfl rfl rfl B762 rfl rfl rfl rfl (fun w763 sw763 B765 u764 => ?_)
   have zu764 := u764.size
   have B765 : Blk w763 (nth V.hl ((ee.to).toNat)).p 122 [.int .i64 ((nth V.hl ((ee.to).toNat)).hull), .int .i64 ((nth V.hl ((ee.to).toNat)).cap), .slice ((nth V.hl ((ee.to).toNat)).ao) ((nth V.hl ((ee.to).toNat)).xs.length) ((nth V.hl ((ee.to).toNat)).cp), .bool true] := B765
   exact dz0 rfl ⟨(u759.next u764 (fun i hi h => by omega)), (by show Blk w763 (nth V.hl ((ee.to).toNat)).p 122 [.int .i64 ((nth V.hl ((ee.to).toNat)).hull), .int .i64 ((nth V.hl ((ee.to).toNat)).cap), .slice ((nth V.hl ((ee.to).toNat)).ao) ((nth V.hl ((ee.to).toNat)).xs.length) ((nth V.hl ((ee.to).toNat)).cp), .bool true]; exact B765)⟩
  intro ρ w767 hW
  obtain ⟨u768, B769⟩ := hW
  have zu768 := u768.size
  have B769 : Blk w767 (nth V.hl ((ee.to).toNat)).p 122 [.int .i64 ((nth V.hl ((ee.to).toNat)).hull), .int .i64 ((nth V.hl ((ee.to).toNat)).cap), .slice ((nth V.hl ((ee.to).toNat)).ao) ((nth V.hl ((ee.to).toNat)).xs.length) ((nth V.hl ((ee.to).toNat)).cp), .bool true] := B769
  refine t_weak [(145, .map (some V.r)), (147, .int .i64 ee.sn)] ⟨rfl, rfl, trivial⟩ ?_
  have hv2 : Voy base pv w767 (VG.setH { V with mi := ee.minute } ((ee.to).toNat) { nth V.hl ((ee.to).toNat) with sealed := true }) := (hv1.setSd hti (s := true) ((((Upd.refl (fun i => i = (nth V.hl ((ee.to).toNat)).p) w14).next u22 (fun _ _ h => h.elim)).next u25 (fun i hi h => by omega)).next u768 (fun i hi h => by omega)) B769)
  refine t_entryI Try.underlying3 Try.underlying115 Try.zeroValue4 rfl rfl rfl rfl hv2.seals hsn (fun bb9 w771 sw771 M773 u772 => ?_)
  have zu772 := u772.size
  refine t_extract rfl rfl rfl rfl (t_enterI rfl rfl rfl rfl M773 (fun w775 sw775 M777 u776 => ?_))
  have zu776 := u776.size
  refine t_nil' ?_
  have hvF := hv2.setS (((Upd.refl (fun i => i = V.r) w767).next u772 (fun i hi h => by omega)).next u776 (fun i hi h => by omega)) M777
  have hFin := fin4 (n := n) g132 hti
  have hmkE := (show Marks w0.heap.size [] w775 from trivial)
  refine f_retMc0  Try.results74  (show Marks w0.heap.size [] w775 from trivial) (fun w779 u780 omw779 => ?_)
  have zu780 := u780.size
  exact ⟨⟨_, hvF.marks hmkE u780 omw779 hrlt hb0, hFin⟩, ((((E27.next u768 (fun i hi (h : i = (nth V.hl ((ee.to).toNat)).p) => show base ≤ i by first | omega | assumption)).next u772 (fun i hi (h : i = V.r) => show base ≤ i by first | omega | assumption)).next u776 (fun i hi (h : i = V.r) => show base ≤ i by first | omega | assumption)).next u780 (fun i hi (h : w0.heap.size ≤ i) => show base ≤ i by first | omega | assumption))⟩
 refine c_seq fun K782 hK782 => (c_region (t_cmp rfl rfl rfl rfl rfl (t_assign rfl rfl rfl (t_nil' (hK782 _ _ (c_condp rfl (fun g152 => ?_) (fun g152 => ?_)))))))
 ·
  have uF : useF ee = true := by simp [useF, g152]
  have hfi := hc.frm uF
  rw [List.length_map] at hfi
  have lF0 := (hv.hold _ (nth_mem hfi)).blk.lt
  have lgF0 := (hv.hold _ (nth_mem hfi)).lays.acc.lt
  have hpF := (hv.hold _ (nth_mem hfi)).pge
  have hH : HoldM base w24 V.lb (nth V.hl ((ee.frm).toNat)) := (hv1.ext (((Upd.refl (fun _ => False) w14).next u22 (fun _ _ h => h.elim)).next u25 (fun i hi h => by omega))).hold _ (nth_mem hfi)
  refine c_drawnR follows 8 (by kernel_rfl) (p_move rfl rfl rfl (p_nilchk rfl rfl rfl (p_field Try.underlying118 rfl Try.sizeOf114 (2) rfl rfl rfl rfl ?_)))
  have B785 := ((B16.kx u22).keep u25 (by omega))
  refine p_load Try.isAgg114 rfl rfl rfl (B785.get rfl) (p_field Try.underlying41 rfl Try.sizeOf3 (3) rfl rfl rfl rfl (p_load Try.isAgg3 rfl rfl rfl (B29.get rfl) ?_))
  have i786 : (ee.frm).toNat < V.hl.length := (by omega)
  refine p_index (j := (ee.frm).toNat) Try.underlying114 Try.sizeOf119 rfl rfl rfl rfl ((show Sl encPt 1 _ V.pa V.pg 0 V.hl from ((hv1.ext (((Upd.refl (fun _ => False) w14).next u22 (fun _ _ h => h.elim)).next u25 (fun i hi h => by omega)))).pacc.sl (fun _ => rfl)).addr (by omega)) (by omega) i786 (p_load Try.isAgg119 rfl rfl rfl (((show Sl encPt 1 _ V.pa V.pg 0 V.hl from ((hv1.ext (((Upd.refl (fun _ => False) w14).next u22 (fun _ _ h => h.elim)).next u25 (fun i hi h => by omega)))).pacc.sl (fun _ => rfl)).at_ ((ee.frm).toNat) (by omega)) 0 _ rfl) (p_nil fun w787 u788 => ?_))
  have zu788 := u788.size
  refine t_nilchk rfl rfl rfl (t_field Try.underlying122 rfl Try.sizeOf4 (3) rfl rfl rfl rfl ?_)
  have B790 := (hH.blk.kx u788)
  refine t_st (vs := [.bool false]) Try.sizeOf4 rfl rfl rfl B790 rfl rfl rfl rfl (fun w791 sw791 B793 u792 => ?_)
  have zu792 := u792.size
  have B793 : Blk w791 (nth V.hl ((ee.frm).toNat)).p 122 [.int .i64 ((nth V.hl ((ee.frm).toNat)).hull), .int .i64 ((nth V.hl ((ee.frm).toNat)).cap), .slice ((nth V.hl ((ee.frm).toNat)).ao) ((nth V.hl ((ee.frm).toNat)).xs.length) ((nth V.hl ((ee.frm).toNat)).cp), .bool false] := B793
  refine t_nil' ?_
  have hvF := hv1.setSd hfi (s := false) (((((Upd.refl (fun i => i = (nth V.hl ((ee.frm).toNat)).p) w14).next u22 (fun _ _ h => h.elim)).next u25 (fun i hi h => by omega)).next u788 (fun _ _ h => h.elim)).next u792 (fun i hi h => by omega)) B793
  have hFin := fin5 (n := n) g152 hfi
  have hmkE := (show Marks w0.heap.size [] w791 from trivial)
  refine f_retMc0  Try.results74  (show Marks w0.heap.size [] w791 from trivial) (fun w795 u796 omw795 => ?_)
  have zu796 := u796.size
  exact ⟨⟨_, hvF.marks hmkE u796 omw795 hrlt hb0, hFin⟩, (((E27.nx u788).next u792 (fun i hi (h : i = (nth V.hl ((ee.frm).toNat)).p) => show base ≤ i by first | omega | assumption)).next u796 (fun i hi (h : w0.heap.size ≤ i) => show base ≤ i by first | omega | assumption))⟩
 exfalso
 have hkr := (okEv_rng hx).2.2.2.2.2.1
 omega

end Go.Proofs.Ytblkphbblkncdaa
