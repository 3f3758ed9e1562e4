/-
  The contract of do. Conditions: none.
-/
import Derived.Test.YtgkkgpenmppjcaaA10
import Derived.Test.YtgkkgpenmppjcaaYl2
import Derived.Test.YtgkkgpenmppjcaaMc
namespace Go.Proofs.Ytgkkgpenmppjcaa
open Go Go.RowKit

theorem Voy.marks {base pv B : Nat} {w w' : World} {V : VG} {ds : List Deferred} (h : Voy base pv w V) (hm : Marks B ds w) (u1 : Upd (fun i => B ≤ i) w w') (u2 : OffMarks ds w w') (hr : V.r < B) (hb : base ≤ B) : Voy base pv w' V := by
  have u : Upd (fun i => B ≤ i ∧ ∃ d ∈ ds, d = mark i) w w' := ⟨u1.os, u1.tape, u1.output, u1.size, fun k hk hn => by
    by_cases h1 : B ≤ k
    · exact u2.block k hk (fun h2 => hn ⟨h1, h2⟩)
    · exact u1.block k hk h1⟩
  have ne : ∀ b c t f, w.heap[b]? = some (.cells c t f) → ¬ (B ≤ b ∧ ∃ d ∈ ds, d = mark b) := fun b c t f hc e => hm.notCells hc e.2
  have accNe : ∀ {α : Type} {enc : α → List Value} {k : Nat} {e : TypeId} {ao : Option Addr} {g cap : Nat} {xs : List α}, Acc enc k e base w ao g cap xs → base ≤ g → ¬ (B ≤ g ∧ ∃ d ∈ ds, d = mark g) := fun ha hg => by
    obtain ⟨_, h1⟩ := ha.own hg
    exact ne _ _ _ _ h1
  exact h.keepS u ⟨ne _ _ _ _ h.blk, fun hq e => by have := h.bold hq; omega, accNe h.pacc, fun x hx => ⟨ne _ _ _ _ (h.hold x hx).blk, accNe (h.hold x hx).lays.acc, fun y hy => accNe ((h.hold x hx).lays.path y hy).1⟩, ne _ _ _ _ h.lblk, fun e => by omega, accNe h.dacc, fun x hx => ⟨accNe (h.land x hx).acc, fun y hy => accNe ((h.land x hx).path y hy).1⟩⟩
theorem un_path {yl : List HLay} {ps : List Lay} {ev : Int} (hm : yl.map HLay.v = ps.map (movL ev)) {x : HLay} (hx : x ∈ yl) : 0 < x.v.path.length := by
  have : x.v ∈ ps.map (movL ev) := by rw [← hm]; exact List.mem_map.2 ⟨x, hx, rfl⟩
  obtain ⟨y, _, e⟩ := List.mem_map.1 this
  rw [← e]; simp [movL]
theorem Acc.mono2 {α : Type} {enc : α → List Value} {k : Nat} {e : TypeId} {base base' : Nat} {w : World} {g cap : Nat} {xs : List α} {g' : Nat} (h : Acc enc k e base w (some ⟨g', 0, none⟩) g cap xs) (hb : base' ≤ g) : Acc enc k e base' w (some ⟨g', 0, none⟩) g cap xs := by
  refine ⟨h.lt, ?_⟩
  rcases h.at_ with ⟨h1, _⟩ | ⟨h1, h2, h3⟩
  · cases h1
  · exact .inr ⟨h1, hb, h3⟩
/-- The voyage behind an event. -/
def Fin (V V' : VG) (x : Ev) (n : Nat) : Prop := V'.st = stepF V.st x n ∧ V'.mi = x.minute ∧ V'.bs = V.bs ∧ V'.hl.map HG.cap = V.hl.map HG.cap ∧ V'.bb = V.bb
theorem map_setH {α : Type} (f : HG → α) {hl : List HG} {i : Nat} {q : HG} (h : i < hl.length) (hq : f q = f (nth hl i)) : (hl.set i q).map f = hl.map f := by
  rw [List.map_set]
  refine List.ext_getElem? fun j => ?_
  by_cases hj : i = j
  · subst hj
    rw [List.getElem?_set_self (by simpa using h), List.getElem?_map, List.getElem?_eq_getElem h, ← nth_eq h, hq]; rfl
  · rw [List.getElem?_set_ne hj]
theorem fin1 {V : VG} {x : Ev} {n : Nat} (hk : x.kind = 1) (hi : (x.to).toNat < V.hl.length) (ao : Option Addr) (g cp : Nat) (a : Option Addr) (g2 c2 : Nat) :
    Fin V (VG.setH { V with mi := x.minute, ls := V.ls.set (x.bill).toNat (nth V.ls (x.bill).toNat + x.tons) } (x.to).toNat { nth V.hl (x.to).toNat with ao := ao, g := g, cp := cp, xs := (nth V.hl (x.to).toNat).xs ++ [(⟨⟨x.bill, x.tons, [] ++ [(n : Int)]⟩, a, g2, c2⟩ : HLay)] }) x n := by
  refine ⟨?_, rfl, rfl, map_setH HG.cap hi rfl, rfl⟩
  unfold stepF
  rw [if_pos hk, st_hold hi]
  simp only [VG.st, VG.setH, Stt.mk.injEq, and_true, true_and]
  exact ⟨by rw [List.map_set, List.map_append]; rfl, map_setH HG.sealed hi rfl⟩
theorem fin2 {V V' : VG} {x : Ev} {n : Nat} {wR : World} (hk : x.kind = 2) (hi : (x.frm).toNat < V.hl.length) (hj : (x.to).toNat < V.hl.length) (hij : (x.frm).toNat ≠ (x.to).toNat) (h : ShSt (x.frm).toNat (x.to).toNat { V with mi := x.minute } x.tons n n wR [] 0 V') : Fin V V' x n := by
  obtain ⟨xf, ao, g, cp, xt, ps, rfl, _, hm, ht, _, _⟩ := h
  rw [takV_zero _ _ (Int.le_refl 0)] at ht
  simp only [List.nil_append, List.append_nil] at ht
  have hj2 : (x.to).toNat < (V.hl.set (x.frm).toNat { nth V.hl (x.frm).toNat with xs := xf }).length := by rw [List.length_set]; exact hj
  refine ⟨?_, rfl, rfl, (map_setH HG.cap hj2 (by rw [nth_set_ne hij.symm])).trans (map_setH HG.cap hi rfl), rfl⟩
  unfold stepF
  rw [if_neg (by omega), if_pos hk, st_hold hi, st_hold hj]
  rw [ht]
  simp only [VG.st, VG.setH, Stt.mk.injEq, and_true, true_and]
  refine ⟨?_, (map_setH HG.sealed hj2 (by rw [nth_set_ne hij.symm])).trans (map_setH HG.sealed hi rfl)⟩
  rw [List.map_set, List.map_set, ← hm]
theorem fin3 {V VE : VG} {x : Ev} {n : Nat} {xf : List HLay} {ps : List Lay} {yl : List HLay} (hk : x.kind = 3) (hi : (x.frm).toNat < V.hl.length) (hV : VE = VG.setH { V with mi := x.minute } (x.frm).toNat { nth V.hl (x.frm).toNat with xs := xf }) (hm : yl.map HLay.v = ps.map (movL n)) (ht : takV ((nth V.hl (x.frm).toNat).xs.map HLay.v) x.tons = ((takV (xf.map HLay.v) 0).1, ps ++ ([] ++ (takV (xf.map HLay.v) 0).2)))
    (da : Option Addr) (dg dc : Nat) (ao : Option Addr) (g cp : Nat) : Fin V { VE with ld := VE.ld ++ [(⟨(n : Int), x.port, ao, g, cp, yl⟩ : LG)], da := da, dg := dg, dc := dc } x n := by
  subst hV
  rw [takV_zero _ _ (Int.le_refl 0)] at ht
  simp only [List.nil_append, List.append_nil] at ht
  refine ⟨?_, rfl, rfl, map_setH HG.cap hi rfl, rfl⟩
  unfold stepF
  rw [if_neg (by omega), if_neg (by omega), if_pos hk, st_hold hi]
  rw [ht]
  simp only [VG.st, VG.setH, Stt.mk.injEq, and_true, true_and]
  refine ⟨?_, map_setH HG.sealed hi rfl, ?_⟩
  · rw [List.map_set]
  · rw [List.map_append, ← hm]; rfl
theorem fin4 {V : VG} {x : Ev} {n : Nat} (hk : x.kind = 4) (hi : (x.to).toNat < V.hl.length) : Fin V { VG.setH { V with mi := x.minute } (x.to).toNat { nth V.hl (x.to).toNat with sealed := true } with sl := V.sl ++ [x.sn] } x n := by
  refine ⟨?_, rfl, rfl, map_setH HG.cap hi rfl, rfl⟩
  unfold stepF
  rw [if_neg (by omega), if_neg (by omega), if_neg (by omega), if_pos hk]
  simp only [VG.st, VG.setH, Stt.mk.injEq, and_true, true_and]
  exact ⟨map_setH (fun h => h.xs.map HLay.v) hi rfl, by rw [List.map_set]⟩
theorem fin5 {V : VG} {x : Ev} {n : Nat} (hk : x.kind = 5) (hi : (x.frm).toNat < V.hl.length) : Fin V (VG.setH { V with mi := x.minute } (x.frm).toNat { nth V.hl (x.frm).toNat with sealed := false }) x n := by
  refine ⟨?_, rfl, rfl, map_setH HG.cap hi rfl, rfl⟩
  unfold stepF
  rw [if_neg (by omega), if_neg (by omega), if_neg (by omega), if_neg (by omega)]
  simp only [VG.st, VG.setH, Stt.mk.injEq, and_true, true_and]
  exact ⟨map_setH (fun h => h.xs.map HLay.v) hi rfl, by rw [List.map_set]⟩
def ShM (base pv iF jT pF bt bs : Nat) (V0 : VG) (t0 ev : Int) (n : Nat) (wR : World) (part : HLay) (t : Int) (V : VG) (W : World) : Prop := ShS base pv iF jT pF bt bs V0 t0 ev n wR [part.v] t V W ∧ PathM base W V.lb part ∧ 1 ≤ part.v.tons ∧ part.v.path.length ≤ n
def UnM (Dd : Nat → Prop) (m base pv iF pF bt bs : Nat) (V0 : VG) (t0 ev port : Int) (n b10 : Nat) (wR : World) (part : HLay) (t : Int) (V : VG) (W : World) : Prop := UnS Dd m base pv iF pF bt bs V0 t0 ev port n b10 wR [part.v] t V W ∧ PathM base W V.lb part ∧ 1 ≤ part.v.tons ∧ part.v.path.length ≤ n
/-- A round: what was handed out, and its box d. -/
def RoY (M : Nat → HLay → Int → VG → World → Prop) (wR : World) (x : GrE) (d : Nat) (W : World) : Prop := M d x.part x.t x.V W ∧ Blk W d 97 (encHLay x.part) ∧ wR.heap.size + 1 < d ∧ Upd (fun _ => True) x.w W
theorem RoY.turned {M : Nat → HLay → Int → VG → World → Prop} {wR : World} (hM : ∀ d p t V W W', M d p t V W → (∃ r, W.heap[wR.heap.size + 1]? = some (.loop r)) → Upd (· = wR.heap.size + 1) W W' → M d p t V W') (d : Nat) : Turned (wR.heap.size + 1) (fun x W => RoY M wR x d W) := fun x W W' h hl u =>
  ⟨hM _ _ _ _ _ _ h.1 hl u, h.2.1.keep u (h.2.1.notLoop hl), h.2.2.1, h.2.2.2.trans (u.mono fun _ _ => trivial)⟩
theorem ZGr.turned {C : Int → VG → World → Prop} {l : Nat} (hC : ∀ t V W W', C t V W → (∃ r, W.heap[l]? = some (.loop r)) → Upd (· = l) W W' → C t V W') : Turned l (ZGr C) := fun x W W' h hl u =>
  ⟨by obtain ⟨V, h1⟩ := h.1; exact ⟨V, hC _ _ _ _ h1 hl u⟩, h.2.trans (u.mono fun _ _ => trivial)⟩
theorem ShSt.facts {iF jT : Nat} {V0 V : VG} {t0 ev t : Int} {n : Nat} {wR : World} {mid : List Lay} (h : ShSt iF jT V0 t0 ev n wR mid t V) (hj : jT < V0.hl.length) : jT < V.hl.length ∧ (nth V.hl jT).p = (nth V0.hl jT).p ∧ ((nth V.hl jT).xs.length : Int) ≤ sumT ((nth V0.hl jT).xs.map HLay.v) + (t0 - t - sumT mid) ∧ ((nth V.hl jT).g = (nth V0.hl jT).g ∨ wR.heap.size + 1 < (nth V.hl jT).g) := by
  obtain ⟨xf, ao, g, cp, xt, ps, rfl, hg, _, _, _, hl⟩ := h
  rw [VG.setH_len, VG.setH_len, setH_nth (by rw [VG.setH_len]; exact hj)]
  exact ⟨hj, rfl, hl, hg⟩
theorem own74 : Own Try.prog 74 := ⟨Try.f74, Try.func74, by kernel_rfl, by kernel_rfl⟩

set_option maxHeartbeats 4000000 in
theorem do_c (base pv n : Nat) (V : VG) (ee : Ev) (w0 : World) (hv : Voy base pv w0 V) (hvo : VOk n V) (hx : okEv ee = true) (hc : EvOk V.bs (V.hl.map HG.cap) V.st V.mi ee) (hn : n ≤ 100) :
    CallsV Try.prog 74 [.pointer (some ⟨pv, 0, none⟩), .int .i64 (n : Int), .agg #[.int .i64 ee.kind, .int .i64 ee.minute, .int .i64 ee.bill, .int .i64 ee.frm, .int .i64 ee.to, .int .i64 ee.tons, .int .i64 ee.port, .int .i64 ee.sn]] w0 (fun _ w' => (∃ V', Voy base pv w' V' ∧ Fin V V' ee n) ∧ Upd (fun i => base ≤ i) w0 w') := by
 have hpb := hv.blk
 have hpg := hv.pge
 have hlg := hv.lge
 have hrge := hv.rge
 have hb0 : base ≤ w0.heap.size := Nat.le_trans hpg (Nat.le_of_lt hpb.lt)
 have hrlt := hv.seals.set.lt
 obtain ⟨hxm, hxb, hxf, hxt, hxn, _⟩ := okEv_rng hx
 have hlsn := hvo.lsn
 have hlbk := hv.lblk
 have hlbl := hlbk.lt
 have hpbl := hpb.lt
 have hpvl := (hv.vne hlbk).pv (by decide)
 have E0 := Upd.refl (fun i => base ≤ i) w0
 refine f_enterM (N := 164) Try.func74 rfl rfl rfl ?_
 change WC _ _ _ _ _ _ [(0, .pointer (some ⟨pv, 0, none⟩)), (1, .int .i64 (n : Int)), (2, .agg #[.int .i64 ee.kind, .int .i64 ee.minute, .int .i64 ee.bill, .int .i64 ee.frm, .int .i64 ee.to, .int .i64 ee.tons, .int .i64 ee.port, .int .i64 ee.sn])] _
 refine c_seq fun K1 hK1 => (c_region (t_box (cs := [.int .i64 (n : Int)]) rfl rfl rfl rfl (fun bk2 w3 ebk2 sbk2 B4 u5 => ?_)))
 have zu5 := u5.size
 have E6 := E0.next u5 (fun _ _ h => h.elim)
 refine t_box (cs := [.int .i64 ee.kind, .int .i64 ee.minute, .int .i64 ee.bill, .int .i64 ee.frm, .int .i64 ee.to, .int .i64 ee.tons, .int .i64 ee.port, .int .i64 ee.sn]) rfl rfl rfl rfl (fun bk7 w8 ebk7 sbk7 B9 u10 => ?_)
 have zu10 := u10.size
 have E11 := E6.next u10 (fun _ _ h => h.elim)
 refine t_nil' (hK1 _ _ (c_seq fun K12 hK12 => (c_region (t_move rfl rfl rfl (t_field Try.underlying41 rfl Try.sizeOf3 (1) rfl rfl rfl rfl (t_load Try.isAgg3 rfl rfl rfl (B9.get rfl) (t_nilchk rfl rfl rfl (t_field Try.underlying118 rfl Try.sizeOf3 (6) rfl rfl rfl rfl ?_))))))))
 have B13 := ((hpb.keep u5 (fun h => h)).keep u10 (fun h => h))
 refine t_store (vs := [.int .i64 ee.minute]) Try.sizeOf3 rfl rfl rfl B13 rfl rfl (Nat.le_of_ble_eq_true rfl) (by simp [Value.oneCell']) (fun w14 sw14 B16 u15 => ?_)
 have zu15 := u15.size
 have E17 := E11.next u15 (fun i hi (h : i = pv) => show base ≤ i by first | omega | assumption)
 have B16 : Blk w14 pv 118 [.slice V.ab V.bs.length V.cb, .slice V.ah V.hs.length V.ch, .slice V.pa V.hl.length V.pc, .slice (some ⟨V.lb, 0, none⟩) V.ls.length V.ls.length, .map (some V.r), .slice V.da V.ld.length V.dc, .int .i64 ee.minute] := B16
 have hv1 : Voy base pv w14 ({ V with mi := ee.minute }) := (hv.setMi ((((Upd.refl (fun i => i = pv) w0).next u5 (fun _ _ h => h.elim)).next u10 (fun _ _ h => h.elim)).next u15 (fun i hi (h : i = pv) => show i = pv by first | omega | assumption)) B16)
 have hbs : base ≤ w14.heap.size := Nat.le_trans hv1.pge (Nat.le_of_lt hv1.blk.lt)
 refine t_nil' (hK12 _ _ (c_seq fun K18 hK18 => (c_region (t_mkfunc (vs := []) (us := [.pointer (some ⟨bk2, 0, none⟩)]) rfl rfl rfl rfl (t_alloc (cs := [.nilFunc]) Try.zeroValue174 rfl rfl rfl (fun bk19 w20 ebk19 sbk19 B21 u22 => ?_))))))
 have zu22 := u22.size
 have E23 := E17.next u22 (fun _ _ h => h.elim)
 refine t_store (vs := [.func (.func 87) #[] #[.pointer (some ⟨bk2, 0, none⟩)]]) Try.sizeOf174 rfl rfl rfl B21 rfl rfl (Nat.le_of_ble_eq_true rfl) (by simp [Value.oneCell']) (fun w24 sw24 B26 u25 => ?_)
 have zu25 := u25.size
 have E27 := E23.next u25 (fun i hi (h : i = bk19) => show base ≤ i by first | omega | assumption)
 have B26 : Blk w24 bk19 174 [.func (.func 87) #[] #[.pointer (some ⟨bk2, 0, none⟩)]] := B26
 refine t_nil' (hK18 _ _ (c_seq fun K28 hK28 => (c_region (t_field Try.underlying41 rfl Try.sizeOf39 (0) rfl rfl rfl rfl ?_))))
 have B29 := (((B9.keep u15 (show ¬ (bk7 = pv) by first | omega | assumption)).keep u22 (fun h => h)).keep u25 (show ¬ (bk7 = bk19) by first | omega | assumption))
 refine t_load Try.isAgg39 rfl rfl rfl (B29.get rfl) (t_nil' (hK28 _ _ (c_block (c_seq fun K30 hK30 => (c_region (t_cmp rfl rfl rfl rfl rfl (t_assign rfl rfl rfl (t_nil' (hK30 _ _ (c_condp rfl (fun g20 => ?_) (fun g20 => ?_)))))))))))
 ·
  have uT : useT ee = true := by simp [useT, g20]
  have hti := hc.to uT
  rw [List.length_map] at hti
  have lT0 := (hv.hold _ (nth_mem hti)).blk.lt
  have lgT0 := (hv.hold _ (nth_mem hti)).lays.acc.lt
  have hpT := (hv.hold _ (nth_mem hti)).pge
  have htn := (okEv_rng hx).2.2.2.2.2.2.1 (by omega)
  have hbi := hc.bill g20
  have hlr := hvo.lsr (ee.bill).toNat (by omega)
  have hbr := hvo.bil _ (nth_mem hbi)
  simp only [okBil, decide_eq_true_eq] at hbr
  have hfT := hvo.few (nth_mem hti)
  have hrT := hc.room uT (by omega)
  rw [st_hold hti, nth_map HG.cap hti] at hrT
  have hfw := hc.few g20
  refine c_seq fun K31 hK31 => ?_
  have B32 := ((B16.keep u22 (fun h => h)).keep u25 (show ¬ (pv = bk19) by first | omega | assumption))
  refine WC.weak [(0, .pointer (some ⟨pv, 0, none⟩)), (5, .pointer (some ⟨bk7, 0, none⟩)), (6, .pointer (some ⟨bk19, 0, none⟩))] ⟨rfl, rfl, rfl, trivial⟩ (c_drawnS follows 13 11 [some (22, some (.pointer (some ⟨pv, 0, none⟩))), some (23, some (.pointer (some ⟨pv, 0, none⟩))), some (24, some (.pointer (some ⟨pv, 3, none⟩))), some (25, some (.slice (some ⟨V.lb, 0, none⟩) V.ls.length V.ls.length)), some (26, some (.pointer (some ⟨bk7, 2, none⟩))), some (27, some (.int .i64 ee.bill)), some (28, some (.pointer (some ⟨V.lb, 0 + (ee.bill).toNat * 1, none⟩))), some (29, some (.int .i64 (nth V.ls ((ee.bill).toNat)))), some (30, some (.pointer (some ⟨bk7, 5, none⟩))), some (31, some (.int .i64 ee.tons)), some (32, some (.int .i64 ((nth V.ls ((ee.bill).toNat)) + ee.tons)))] [[],[0],[1],[2],[],[4],[3,5],[6],[],[8],[7,9],[3,5,0,1,2,3,4,5,6,7,8,9,10],[11,10,0,1,2,3,4,5,6,7,8,9,10]] (fun _ _ w => Upd (fun _ => False) w24 w) rfl rfl rfl rfl (by kernel_rfl) (by kernel_rfl) (by kernel_rfl) (Upd.drew _).to ⟨?_, ?_, ?_, ?_, ?_, ?_, ?_, ?_, ?_, ?_, ?_, trivial⟩ ?_)
  · exact pz rfl rfl rfl rfl fun _ _ _ h => h
  · exact pz rfl rfl rfl rfl fun _ _ _ h => h
  · exact pzf Try.underlying118 rfl Try.sizeOf45 (3) rfl rfl rfl rfl rfl fun _ _ _ h => h
  ·
   intro D ρ w35 hcD hnD hdD hW
   have zhW := hW.size
   refine ⟨_, kf_fr [24], fun Lr => ?_⟩
   have B38 := (B32.keep hW (fun h => h))
   refine t_load Try.isAgg45 rfl rfl rfl (B38.get rfl) ?_
   exact dz rfl hW
  · exact pzf Try.underlying41 rfl Try.sizeOf3 (2) rfl rfl rfl rfl rfl fun _ _ _ h => h
  ·
   intro D ρ w39 hcD hnD hdD hW
   have zhW := hW.size
   refine ⟨_, kf_fr [26], fun Lr => ?_⟩
   have B42 := (B29.keep hW (fun h => h))
   refine t_load Try.isAgg3 rfl rfl rfl (B42.get rfl) ?_
   exact dz rfl hW
  ·
   intro D ρ w43 hcD hnD hdD hW
   have zhW := hW.size
   refine ⟨_, kf_fr [25, 27], fun Lr => ?_⟩
   have B46 := ((((((hlbk.keep u5 (fun h => h)).keep u10 (fun h => h)).keep u15 (show ¬ (V.lb = pv) by first | omega | assumption)).keep u22 (fun h => h)).keep u25 (show ¬ (V.lb = bk19) by first | omega | assumption)).keep hW (fun h => h))
   have i47 : (ee.bill).toNat < V.ls.length := (by omega)
   refine t_index (j := (ee.bill).toNat) Try.underlying45 Try.sizeOf3 rfl rfl rfl rfl ((SlI.own B46).addr (by omega)) (by omega) i47 ?_
   exact dz rfl hW
  ·
   intro D ρ w48 hcD hnD hdD hW
   have zhW := hW.size
   refine ⟨_, kf_fr [28], fun Lr => ?_⟩
   have B51 := ((((((hlbk.keep u5 (fun h => h)).keep u10 (fun h => h)).keep u15 (show ¬ (V.lb = pv) by first | omega | assumption)).keep u22 (fun h => h)).keep u25 (show ¬ (V.lb = bk19) by first | omega | assumption)).keep hW (fun h => h))
   refine t_load Try.isAgg3 rfl rfl rfl (((SlI.own B51).at_ ((ee.bill).toNat) (by omega)) 0 _ rfl) ?_
   exact dz rfl hW
  · exact pzf Try.underlying41 rfl Try.sizeOf3 (5) rfl rfl rfl rfl rfl fun _ _ _ h => h
  ·
   intro D ρ w52 hcD hnD hdD hW
   have zhW := hW.size
   refine ⟨_, kf_fr [30], fun Lr => ?_⟩
   have B55 := (B29.keep hW (fun h => h))
   refine t_load Try.isAgg3 rfl rfl rfl (B55.get rfl) ?_
   exact dz rfl hW
  ·
   intro D ρ w56 hcD hnD hdD hW
   have zhW := hW.size
   refine ⟨_, kf_fr [29, 31], fun Lr => ?_⟩
   refine t_ari rfl rfl rfl rfl rfl (by omega) ?_
   exact dz rfl hW
  intro ρ w59 hW
  have u60 : Upd (fun _ => False) w24 w59 := hW
  have zu60 := u60.size
  have E61 := E27.next u60 (fun _ _ h => h.elim)
  refine t_weak [(0, .pointer (some ⟨pv, 0, none⟩)), (5, .pointer (some ⟨bk7, 0, none⟩)), (6, .pointer (some ⟨bk19, 0, none⟩)), (25, .slice (some ⟨V.lb, 0, none⟩) V.ls.length V.ls.length), (27, .int .i64 ee.bill), (32, .int .i64 ((nth V.ls ((ee.bill).toNat)) + ee.tons))] ⟨rfl, rfl, rfl, rfl, rfl, rfl, trivial⟩ ?_
  have B62 := ((((((hlbk.keep u5 (fun h => h)).keep u10 (fun h => h)).keep u15 (show ¬ (V.lb = pv) by first | omega | assumption)).keep u22 (fun h => h)).keep u25 (show ¬ (V.lb = bk19) by first | omega | assumption)).keep u60 (fun h => h))
  have i63 : (ee.bill).toNat < V.ls.length := (by omega)
  refine t_index (j := (ee.bill).toNat) Try.underlying45 Try.sizeOf3 rfl rfl rfl rfl ((SlI.own B62).addr (by omega)) (by omega) i63 (t_storeI (ls := V.ls) (v := ((nth V.ls ((ee.bill).toNat)) + ee.tons)) ((ee.bill).toNat) Try.sizeOf3 rfl rfl rfl B62 (by omega) (fun w64 sw64 B66 u65 => ?_))
  have zu65 := u65.size
  have E67 := E61.next u65 (fun i hi (h : i = V.lb) => show base ≤ i by first | omega | assumption)
  have hv2 : Voy base pv w64 ({ V with mi := ee.minute, ls := V.ls.set ((ee.bill).toNat) (nth V.ls ((ee.bill).toNat) + ee.tons) }) := (hv1.setL (i := (ee.bill).toNat) (v := nth V.ls ((ee.bill).toNat) + ee.tons) (((((Upd.refl (fun i => i = V.lb) w14).next u22 (fun _ _ h => h.elim)).next u25 (fun i hi (h : i = bk19) => show i = V.lb by first | omega | assumption)).next u60 (fun _ _ h => h.elim)).next u65 (fun i hi (h : i = V.lb) => show i = V.lb by first | omega | assumption)) B66)
  refine t_nil' (hK31 _ _ (c_seq fun K68 hK68 => ?_))
  have B69 := ((B32.keep u60 (fun h => h)).keep u65 (show ¬ (pv = V.lb) by first | omega | assumption))
  have B70 := ((B29.keep u60 (fun h => h)).keep u65 (show ¬ (bk7 = V.lb) by first | omega | assumption))
  refine WC.weak [(0, .pointer (some ⟨pv, 0, none⟩)), (5, .pointer (some ⟨bk7, 0, none⟩)), (6, .pointer (some ⟨bk19, 0, none⟩))] ⟨rfl, rfl, rfl, trivial⟩ (c_drawn follows 9 [some (34, some (.pointer (some ⟨pv, 0, none⟩))), some (35, some (.pointer (some ⟨pv, 0, none⟩))), some (36, some (.pointer (some ⟨pv, 2, none⟩))), some (37, some (.slice V.pa V.hl.length V.pc)), some (38, some (.pointer (some ⟨bk7, 4, none⟩))), some (39, some (.int .i64 ee.to)), some (40, some (.pointer (some ⟨V.pg, 0 + (ee.to).toNat * 1, none⟩))), some (41, some (.pointer (some ⟨(nth V.hl ((ee.to).toNat)).p, 0, none⟩))), some (7, some (.pointer (some ⟨(nth V.hl ((ee.to).toNat)).p, 0, none⟩)))] [[],[0],[1],[2],[],[4],[3,5],[6],[7,0,1,2,3,4,5,6,7]] (fun _ _ w => Upd (fun _ => False) w64 w) rfl rfl rfl (by kernel_rfl) (by kernel_rfl) (Upd.drew _).to ⟨?_, ?_, ?_, ?_, ?_, ?_, ?_, ?_, ?_, trivial⟩ ?_)
  · exact pz rfl rfl rfl rfl fun _ _ _ h => h
  · exact pz rfl rfl rfl rfl fun _ _ _ h => h
  · exact pzf Try.underlying118 rfl Try.sizeOf114 (2) rfl rfl rfl rfl rfl fun _ _ _ h => h
  ·
   intro D ρ w72 hcD hnD hdD hW
   have zhW := hW.size
   refine ⟨_, kf_fr [36], fun Lr => ?_⟩
   have B75 := (B69.keep hW (fun h => h))
   refine t_load Try.isAgg114 rfl rfl rfl (B75.get rfl) ?_
   exact dz rfl hW
  · exact pzf Try.underlying41 rfl Try.sizeOf3 (4) rfl rfl rfl rfl rfl fun _ _ _ h => h
  ·
   intro D ρ w76 hcD hnD hdD hW
   have zhW := hW.size
   refine ⟨_, kf_fr [38], fun Lr => ?_⟩
   have B79 := (B70.keep hW (fun h => h))
   refine t_load Try.isAgg3 rfl rfl rfl (B79.get rfl) ?_
   exact dz rfl hW
  ·
   intro D ρ w80 hcD hnD hdD hW
   have zhW := hW.size
   refine ⟨_, kf_fr [37, 39], fun Lr => ?_⟩
   have i83 : (ee.to).toNat < V.hl.length := (by omega)
   refine t_index (j := (ee.to).toNat) Try.underlying114 Try.sizeOf119 rfl rfl rfl rfl ((show Sl encPt 1 _ V.pa V.pg 0 V.hl from ((hv2.ext ((Upd.refl (fun _ => False) w64).next hW (fun _ _ h => h.elim)))).pacc.sl (fun _ => rfl)).addr (by omega)) (by omega) i83 ?_
   exact dz rfl hW
  ·
   intro D ρ w84 hcD hnD hdD hW
   have zhW := hW.size
   refine ⟨_, kf_fr [40], fun Lr => ?_⟩
   refine t_load Try.isAgg119 rfl rfl rfl (((show Sl encPt 1 _ V.pa V.pg 0 V.hl from ((hv2.ext ((Upd.refl (fun _ => False) w64).next hW (fun _ _ h => h.elim)))).pacc.sl (fun _ => rfl)).at_ ((ee.to).toNat) (by omega)) 0 _ rfl) ?_
   exact dz rfl hW
  · exact pz rfl rfl rfl rfl fun _ _ _ h => h
  intro ρ w87 hW
  have u88 : Upd (fun _ => False) w64 w87 := hW
  have zu88 := u88.size
  have E89 := E67.next u88 (fun _ _ h => h.elim)
  refine QK.weak [(5, .pointer (some ⟨bk7, 0, none⟩)), (6, .pointer (some ⟨bk19, 0, none⟩)), (7, .pointer (some ⟨(nth V.hl ((ee.to).toNat)).p, 0, none⟩))] ⟨rfl, rfl, rfl, trivial⟩ (hK68 _ _ ?_)
  have hH : HoldM base w87 V.lb (nth V.hl ((ee.to).toNat)) := (hv2.ext ((Upd.refl (fun _ => False) w64).next u88 (fun _ _ h => h.elim))).hold _ (nth_mem hti)
  have lt__nth_V_hl_ee_to_toNat_g := hH.lays.acc.lt
  have hneT : base ≤ (nth V.hl ((ee.to).toNat)).g → (nth V.hl ((ee.to).toNat)).g ≠ (nth V.hl ((ee.to).toNat)).p := fun h => hH.lays.acc.neB hH.blk (by decide) h
  have hl9 := hH.blk.lt
  have hl8 := hH.lays.acc.lt
  have B90 := (B70.keep u88 (fun h => h))
  have B91 := (((B26.keep u60 (fun h => h)).keep u65 (show ¬ (bk19 = V.lb) by first | omega | assumption)).keep u88 (fun h => h))
  refine WC.weak [(5, .pointer (some ⟨bk7, 0, none⟩)), (6, .pointer (some ⟨bk19, 0, none⟩)), (7, .pointer (some ⟨(nth V.hl ((ee.to).toNat)).p, 0, none⟩))] ⟨rfl, rfl, rfl, trivial⟩ (c_drawn follows 17 [some (42, some (.pointer (some ⟨(nth V.hl ((ee.to).toNat)).p, 0, none⟩))), some (43, some (.pointer (some ⟨(nth V.hl ((ee.to).toNat)).p, 0, none⟩))), some (44, some (.pointer (some ⟨(nth V.hl ((ee.to).toNat)).p, 0, none⟩))), some (45, some (.pointer (some ⟨(nth V.hl ((ee.to).toNat)).p, 2, none⟩))), some (46, some (.slice ((nth V.hl ((ee.to).toNat)).ao) (((nth V.hl ((ee.to).toNat)).xs).length) ((nth V.hl ((ee.to).toNat)).cp))), some (47, some (.func (.func 87) #[] #[.pointer (some ⟨bk2, 0, none⟩)])), some (48, some (.pointer (some ⟨bk7, 2, none⟩))), some (49, some (.int .i64 ee.bill)), some (50, some (.pointer (some ⟨bk7, 5, none⟩))), some (51, some (.int .i64 ee.tons)), some (52, some (.agg #[.int .i64 ee.bill, .int .i64 ee.tons, .slice none 0 0])), some (53, none), some (54, none), some (55, none), some (56, some (.pointer (some ⟨(nth V.hl ((ee.to).toNat)).p, 0, none⟩))), some (57, some (.pointer (some ⟨(nth V.hl ((ee.to).toNat)).p, 2, none⟩))), none] [[],[],[1],[2],[3],[],[],[6],[],[8],[7,9],[5,10],[11],[4,12,11],[0,0,1,2,3,4,5,6,7,8,9,10,11,12,13],[14,0,1,2,3,4,5,6,7,8,9,10,11,12,13],[15,13,13,0,1,2,3,4,5,6,7,8,9,10,11,12,13]] (fun D ρ w => Upd (fun i => i = (nth V.hl ((ee.to).toNat)).p ∨ (i = (nth V.hl ((ee.to).toNat)).g ∧ base ≤ i)) w87 w ∧ (D 13 = false → Acc encHLay 3 97 base w (nth V.hl ((ee.to).toNat)).ao (nth V.hl ((ee.to).toNat)).g (nth V.hl ((ee.to).toNat)).cp ((nth V.hl ((ee.to).toNat)).xs)) ∧ (D 13 = false → Blk w (nth V.hl ((ee.to).toNat)).p 122 [.int .i64 ((nth V.hl ((ee.to).toNat)).hull), .int .i64 ((nth V.hl ((ee.to).toNat)).cap), .slice ((nth V.hl ((ee.to).toNat)).ao) (((nth V.hl ((ee.to).toNat)).xs).length) ((nth V.hl ((ee.to).toNat)).cp), .bool ((nth V.hl ((ee.to).toNat)).sealed)]) ∧ (D 11 = true → ∃ gA cA, ρ 11 = .agg #[.int .i64 ee.bill, .int .i64 ee.tons, .slice (some ⟨gA, 0, none⟩) (List.length ([] ++ [(n : Int)])) cA] ∧ (D 12 = false → (Acc encI 1 3 base w (some ⟨gA, 0, none⟩) gA cA ([] ++ [(n : Int)]) ∧ w87.heap.size ≤ gA))) ∧ (D 12 = true → ∃ gA cA bk98, ρ 12 = .slice (some ⟨bk98, 0, none⟩) 1 1 ∧ w87.heap.size ≤ bk98 ∧ Blk w bk98 97 [.int .i64 ee.bill, .int .i64 ee.tons, .slice (some ⟨gA, 0, none⟩) (List.length ([] ++ [(n : Int)])) cA] ∧ (Acc encI 1 3 base w (some ⟨gA, 0, none⟩) gA cA ([] ++ [(n : Int)]) ∧ w87.heap.size ≤ gA)) ∧ (D 13 = true → ∃ gA cA ao104 gb105 cp106, ρ 13 = .slice ao104 ((((nth V.hl ((ee.to).toNat)).xs ++ [(⟨⟨ee.bill, ee.tons, [] ++ [(n : Int)]⟩, some ⟨gA, 0, none⟩, gA, cA⟩ : HLay)])).length) cp106 ∧ Acc encHLay 3 97 base w ao104 gb105 cp106 ((nth V.hl ((ee.to).toNat)).xs ++ [(⟨⟨ee.bill, ee.tons, [] ++ [(n : Int)]⟩, some ⟨gA, 0, none⟩, gA, cA⟩ : HLay)]) ∧ (gb105 = (nth V.hl ((ee.to).toNat)).g ∨ w87.heap.size ≤ gb105) ∧ (Acc encI 1 3 base w (some ⟨gA, 0, none⟩) gA cA ([] ++ [(n : Int)]) ∧ w87.heap.size ≤ gA) ∧ Blk w (nth V.hl ((ee.to).toNat)).p 122 [.int .i64 ((nth V.hl ((ee.to).toNat)).hull), .int .i64 ((nth V.hl ((ee.to).toNat)).cap), (bif D 16 then .slice ao104 ((((nth V.hl ((ee.to).toNat)).xs ++ [(⟨⟨ee.bill, ee.tons, [] ++ [(n : Int)]⟩, some ⟨gA, 0, none⟩, gA, cA⟩ : HLay)])).length) cp106 else .slice ((nth V.hl ((ee.to).toNat)).ao) (((nth V.hl ((ee.to).toNat)).xs).length) ((nth V.hl ((ee.to).toNat)).cp)), .bool ((nth V.hl ((ee.to).toNat)).sealed)])) rfl rfl rfl (by kernel_rfl) (by kernel_rfl) ⟨(Upd.drew _).to, (fun _ => hH.lays.acc.keep (Upd.drew _) (fun _ h => h)), (fun _ => hH.blk.keep (Upd.drew _) (fun h => h)), (fun h => by cases h), (fun h => by cases h), (fun h => by cases h)⟩ ⟨?_, ?_, ?_, ?_, ?_, ?_, ?_, ?_, ?_, ?_, ?_, ?_, ?_, ?_, ?_, ?_, ?_, trivial⟩ ?_)
  · exact pz rfl rfl rfl rfl fun _ _ _ h => h
  · exact pz rfl rfl rfl rfl fun _ _ _ h => h
  · exact pz rfl rfl rfl rfl fun _ _ _ h => h
  · exact pzf Try.underlying122 rfl Try.sizeOf120 (2) rfl rfl rfl rfl rfl fun _ _ _ h => h
  · exact fun D ρ w111 hcD hnD hdD hW => ⟨_, kf_fr [45], fun Lr => t_load Try.isAgg120 rfl rfl rfl ((hW.2.2.1 (hcD.late 13 hnD rfl)).get rfl) (dz rfl hW)⟩
  · exact fun D ρ w120 hcD hnD hdD hW => ⟨_, kf_fr [6], fun Lr => t_load Try.isAgg174 rfl rfl rfl ((B91.keep hW.1 (show ¬ (bk19 = (nth V.hl ((ee.to).toNat)).p ∨ (bk19 = (nth V.hl ((ee.to).toNat)).g ∧ base ≤ bk19)) by first | omega | assumption)).get rfl) (dz rfl hW)⟩
  · exact pzf Try.underlying41 rfl Try.sizeOf3 (2) rfl rfl rfl rfl rfl fun _ _ _ h => h
  · exact fun D ρ w130 hcD hnD hdD hW => ⟨_, kf_fr [48], fun Lr => t_load Try.isAgg3 rfl rfl rfl ((B90.keep hW.1 (show ¬ (bk7 = (nth V.hl ((ee.to).toNat)).p ∨ (bk7 = (nth V.hl ((ee.to).toNat)).g ∧ base ≤ bk7)) by first | omega | assumption)).get rfl) (dz rfl hW)⟩
  · exact pzf Try.underlying41 rfl Try.sizeOf3 (5) rfl rfl rfl rfl rfl fun _ _ _ h => h
  · exact fun D ρ w140 hcD hnD hdD hW => ⟨_, kf_fr [50], fun Lr => t_load Try.isAgg3 rfl rfl rfl ((B90.keep hW.1 (show ¬ (bk7 = (nth V.hl ((ee.to).toNat)).p ∨ (bk7 = (nth V.hl ((ee.to).toNat)).g ∧ base ≤ bk7)) by first | omega | assumption)).get rfl) (dz rfl hW)⟩
  · exact fun D ρ w _ _ _ hW => ⟨[(49, .int .i64 ee.bill), (51, .int .i64 ee.tons)], ⟨fi 7 rfl rfl rfl, fi 9 rfl rfl rfl, trivial⟩, fun Lr => t_build (ps := [(0, .int .i64 ee.bill), (1, .int .i64 ee.tons)]) (v := .agg #[.int .i64 ee.bill, .int .i64 ee.tons, .slice none 0 0]) rfl rfl ⟨rfl, rfl⟩ (fun w => by kernel_rfl) (dz rfl hW)⟩
  ·
   intro D ρ w150 hcD hnD hdD hW
   obtain ⟨u151, C152, T153, F154, F155, F156⟩ := hW
   have zu151 := u151.size
   refine ⟨_, kf_fr [47, 52], fun Lr => ?_⟩
   have B159 := ((((((((B4.keep u10 (fun h => h)).keep u15 (show ¬ (bk2 = pv) by first | omega | assumption)).keep u22 (fun h => h)).keep u25 (show ¬ (bk2 = bk19) by first | omega | assumption)).keep u60 (fun h => h)).keep u65 (show ¬ (bk2 = V.lb) by first | omega | assumption)).keep u88 (fun h => h)).keep u151 (show ¬ (bk2 = (nth V.hl ((ee.to).toNat)).p ∨ (bk2 = (nth V.hl ((ee.to).toNat)).g ∧ base ≤ bk2)) by first | omega | assumption))
   refine t_call (vs := [.agg #[.int .i64 ee.bill, .int .i64 ee.tons, .slice none 0 0]]) own87 rfl rfl rfl rfl (moved_c base bk2 (n : Int) ee.bill ee.tons [] none 0 0 _ B159 (Sl.nil _ _ _ _ _ _) (Nat.le_refl _) (by decide) (by omega)) (fun v160 w161 r163 => ?_)
   obtain ⟨gA, cA, rfl, hAp, hgA, u162⟩ := r163
   have zu162 := u162.size
   exact dzn rfl ⟨(u151.next u162 (fun _ _ h => h.elim)), (fun h => ((C152 h).keep u162 (fun _ h => h))), (fun h => ((T153 h).keep u162 (fun h => h))), (fun _ => ⟨gA, cA, rfl, fun _ => ⟨hAp, by omega⟩⟩), (fun h => absurd ((hcD.late 12 hnD rfl).symm.trans h) (by decide)), (fun h => absurd ((hcD.late 13 hnD rfl).symm.trans h) (by decide))⟩
  ·
   intro D ρ w165 hcD hnD hdD hW
   obtain ⟨u166, C167, T168, F169, F170, F171⟩ := hW
   have zu166 := u166.size
   obtain ⟨gA, cA, e174, H175⟩ := F169 (hdD 11 rfl)
   have H176 := H175 hnD
   refine ⟨[(53, .agg #[.int .i64 ee.bill, .int .i64 ee.tons, .slice (some ⟨gA, 0, none⟩) (List.length ([] ++ [(n : Int)])) cA])], ⟨fi 11 rfl rfl e174.symm, trivial⟩, fun Lr => ?_⟩
   refine t_bslice (ps := [(0, .agg #[.int .i64 ee.bill, .int .i64 ee.tons, .slice (some ⟨gA, 0, none⟩) (List.length ([] ++ [(n : Int)])) cA])]) (cs := [.int .i64 ee.bill, .int .i64 ee.tons, .slice (some ⟨gA, 0, none⟩) (List.length ([] ++ [(n : Int)])) cA]) (e := 97) rfl rfl ⟨rfl, rfl⟩ (fun w => by kernel_rfl) (fun bk177 w178 ebk177 sbk177 B179 u180 => ?_)
   have zu180 := u180.size
   exact dzn rfl ⟨(u166.next u180 (fun _ _ h => h.elim)), (fun h => ((C167 h).keep u180 (fun _ h => h))), (fun h => ((T168 h).keep u180 (fun h => h))), (fun h => by obtain ⟨gA, cA, e, _⟩ := F169 h; exact ⟨gA, cA, e, fun h => by cases h⟩), (fun _ => ⟨gA, cA, bk177, rfl, (by omega), (by show Blk w178 bk177 97 [.int .i64 ee.bill, .int .i64 ee.tons, .slice (some ⟨gA, 0, none⟩) (List.length ([] ++ [(n : Int)])) cA]; exact B179), ⟨(H176.1.keep u180 (fun _ h => h)), H176.2⟩⟩), (fun h => absurd ((hcD.late 13 hnD rfl).symm.trans h) (by decide))⟩
  ·
   intro D ρ w182 hcD hnD hdD hW
   obtain ⟨u183, C184, T185, F186, F187, F188⟩ := hW
   have zu183 := u183.size
   have B190 := T185 hnD
   have C191 := C184 hnD
   obtain ⟨gA, cA, bk98, e192, gebk98, B193, fcB193_11⟩ := F187 (hdD 12 rfl)
   refine ⟨[(46, .slice ((nth V.hl ((ee.to).toNat)).ao) (((nth V.hl ((ee.to).toNat)).xs).length) ((nth V.hl ((ee.to).toNat)).cp)), (54, .slice (some ⟨bk98, 0, none⟩) 1 1)], ⟨fi 4 rfl rfl rfl, fi 12 rfl rfl e192.symm, trivial⟩, fun Lr => ?_⟩
   refine t_append (z := .agg #[.int .i64 0, .int .i64 0, .slice none 0 0]) (bytes := 40) (k := 3) (base := base) (⟨⟨ee.bill, ee.tons, [] ++ [(n : Int)]⟩, some ⟨gA, 0, none⟩, gA, cA⟩ : HLay) Try.underlying120 (by kernel_rfl) rfl (by decide) (fun _ => rfl) (by intro x; simp [encHLay, Value.oneCell']) rfl rfl rfl rfl C191 B193 (by omega) (by omega) (by decide) (fun ao194 gb195 cp196 w197 A198 u199 gegb195 lngb195 => ?_)
   have zu199 := u199.size
   have lt_gb195 := A198.lt
   have d16 := (hcD.late 16 hnD rfl)
   have B201 := (B190.keep u199 (show ¬ (((nth V.hl ((ee.to).toNat)).p = (nth V.hl ((ee.to).toNat)).g ∧ base ≤ (nth V.hl ((ee.to).toNat)).p)) by first | omega | assumption))
   exact dzn rfl ⟨(u183.next u199 (fun i hi (h : (i = (nth V.hl ((ee.to).toNat)).g ∧ base ≤ i)) => show i = (nth V.hl ((ee.to).toNat)).p ∨ (i = (nth V.hl ((ee.to).toNat)).g ∧ base ≤ i) by first | omega | assumption)), (fun h => by cases h), (fun h => by cases h), (fun h => by obtain ⟨gA, cA, e, _⟩ := F186 h; exact ⟨gA, cA, e, fun h2 => absurd ((hdD 12 rfl).symm.trans h2) (by decide)⟩), (fun h => by obtain ⟨gA, cA, b, e, hge, hB, hF11⟩ := F187 h; exact ⟨gA, cA, b, e, hge, (hB.keep u199 (show ¬ ((b = (nth V.hl ((ee.to).toNat)).g ∧ base ≤ b)) by first | omega | assumption)), ⟨(hF11.1.keep u199 (fun _ => by have hgg := hF11.2; show ¬ ((gA = (nth V.hl ((ee.to).toNat)).g ∧ base ≤ gA)); omega)), hF11.2⟩⟩), (fun _ => ⟨gA, cA, ao194, gb195, cp196, rfl, A198, (by omega), ⟨(fcB193_11.1.keep u199 (fun _ => by have hgg := fcB193_11.2; show ¬ ((gA = (nth V.hl ((ee.to).toNat)).g ∧ base ≤ gA)); omega)), fcB193_11.2⟩, (by show Blk w197 (nth V.hl ((ee.to).toNat)).p 122 [.int .i64 ((nth V.hl ((ee.to).toNat)).hull), .int .i64 ((nth V.hl ((ee.to).toNat)).cap), (bif D 16 then .slice ao194 ((((nth V.hl ((ee.to).toNat)).xs ++ [(⟨⟨ee.bill, ee.tons, [] ++ [(n : Int)]⟩, some ⟨gA, 0, none⟩, gA, cA⟩ : HLay)])).length) cp196 else .slice ((nth V.hl ((ee.to).toNat)).ao) (((nth V.hl ((ee.to).toNat)).xs).length) ((nth V.hl ((ee.to).toNat)).cp)), .bool ((nth V.hl ((ee.to).toNat)).sealed)]; simp only [d16, cond_false]; exact B201)⟩)⟩
  · exact pz rfl rfl rfl rfl fun _ _ _ h => h
  · exact pzf Try.underlying122 rfl Try.sizeOf120 (2) rfl rfl rfl rfl rfl fun _ _ _ h => h
  ·
   intro D ρ w202 hcD hnD hdD hW
   obtain ⟨u203, C204, T205, F206, F207, F208⟩ := hW
   have zu203 := u203.size
   obtain ⟨gA, cA, ao104, gb105, cp106, e210, A211, h212, fcA211_11, B214⟩ := F208 (hdD 13 rfl)
   simp only [hnD, cond_false] at B214
   refine ⟨[(55, .slice ao104 ((((nth V.hl ((ee.to).toNat)).xs ++ [(⟨⟨ee.bill, ee.tons, [] ++ [(n : Int)]⟩, some ⟨gA, 0, none⟩, gA, cA⟩ : HLay)])).length) cp106), (57, .pointer (some ⟨(nth V.hl ((ee.to).toNat)).p, 2, none⟩))], ⟨fi 13 rfl rfl e210.symm, fi 15 rfl rfl rfl, trivial⟩, fun Lr => ?_⟩
   refine t_store (vs := [.slice ao104 ((((nth V.hl ((ee.to).toNat)).xs ++ [(⟨⟨ee.bill, ee.tons, [] ++ [(n : Int)]⟩, some ⟨gA, 0, none⟩, gA, cA⟩ : HLay)])).length) cp106]) Try.sizeOf120 rfl rfl rfl B214 rfl rfl (Nat.le_of_ble_eq_true rfl) (by simp [Value.oneCell']) (fun w215 sw215 B217 u216 => ?_)
   have zu216 := u216.size
   have B217 : Blk w215 (nth V.hl ((ee.to).toNat)).p 122 [.int .i64 ((nth V.hl ((ee.to).toNat)).hull), .int .i64 ((nth V.hl ((ee.to).toNat)).cap), .slice ao104 ((((nth V.hl ((ee.to).toNat)).xs ++ [(⟨⟨ee.bill, ee.tons, [] ++ [(n : Int)]⟩, some ⟨gA, 0, none⟩, gA, cA⟩ : HLay)])).length) cp106, .bool ((nth V.hl ((ee.to).toNat)).sealed)] := B217
   exact dz0 rfl ⟨(u203.next u216 (fun i hi (h : i = (nth V.hl ((ee.to).toNat)).p) => show i = (nth V.hl ((ee.to).toNat)).p ∨ (i = (nth V.hl ((ee.to).toNat)).g ∧ base ≤ i) by first | omega | assumption)), (fun h => absurd ((hdD 13 rfl).symm.trans h) (by decide)), (fun h => absurd ((hdD 13 rfl).symm.trans h) (by decide)), (fun h => by obtain ⟨gA, cA, e, _⟩ := F206 h; exact ⟨gA, cA, e, fun h2 => absurd ((hdD 12 rfl).symm.trans h2) (by decide)⟩), (fun h => by obtain ⟨gA, cA, b, e, hge, hB, hF11⟩ := F207 h; exact ⟨gA, cA, b, e, hge, (hB.keep u216 (show ¬ (b = (nth V.hl ((ee.to).toNat)).p) by first | omega | assumption)), ⟨(hF11.1.keep u216 (fun _ => by have hgg := hF11.2; show ¬ (gA = (nth V.hl ((ee.to).toNat)).p); omega)), hF11.2⟩⟩), (fun _ => ⟨gA, cA, ao104, gb105, cp106, e210, (A211.keep u216 (fun _ => show ¬ (gb105 = (nth V.hl ((ee.to).toNat)).p) by first | omega | assumption)), h212, ⟨(fcA211_11.1.keep u216 (fun _ => by have hgg := fcA211_11.2; show ¬ (gA = (nth V.hl ((ee.to).toNat)).p); omega)), fcA211_11.2⟩, B217⟩)⟩
  intro ρ w219 hW
  obtain ⟨u220, C221, T222, F223, F224, F225⟩ := hW
  have zu220 := u220.size
  have E226 := E89.next u220 (fun i hi (h : i = (nth V.hl ((ee.to).toNat)).p ∨ (i = (nth V.hl ((ee.to).toNat)).g ∧ base ≤ i)) => show base ≤ i by first | omega | assumption)
  clear C221
  obtain ⟨gA, cA, ao104, gb105, cp106, e229, A230, gegb105, fcA230_11, bkgb105⟩ := F225 rfl
  have bkgb105 : Blk w219 (nth V.hl ((ee.to).toNat)).p 122 [.int .i64 ((nth V.hl ((ee.to).toNat)).hull), .int .i64 ((nth V.hl ((ee.to).toNat)).cap), .slice ao104 ((((nth V.hl ((ee.to).toNat)).xs ++ [(⟨⟨ee.bill, ee.tons, [] ++ [(n : Int)]⟩, some ⟨gA, 0, none⟩, gA, cA⟩ : HLay)])).length) cp106, .bool ((nth V.hl ((ee.to).toNat)).sealed)] := bkgb105
  have lt_gb105 := A230.lt
  refine QK.weak [] trivial ?_
  have hvF := hv2.addTop hti (((Upd.refl (fun i => i = (nth V.hl ((ee.to).toNat)).p ∨ (i = (nth V.hl ((ee.to).toNat)).g ∧ base ≤ i)) w64).next u88 (fun _ _ h => h.elim)).next u220 (fun i hi (h : i = (nth V.hl ((ee.to).toNat)).p ∨ (i = (nth V.hl ((ee.to).toNat)).g ∧ base ≤ i)) => show i = (nth V.hl ((ee.to).toNat)).p ∨ (i = (nth V.hl ((ee.to).toNat)).g ∧ base ≤ i) by first | omega | assumption)) bkgb105 A230 (⟨fcA230_11.1, fun _ => by have hgg := fcA230_11.2; have hll := hv2.lblk.lt; show gA ≠ V.lb; simp only [] at hll; omega⟩ : PathM base _ V.lb _) (by show _ = (nth V.hl (ee.to).toNat).g ∨ _; omega)
  have hFin := fin1 (n := n) g20 hti ao104 gb105 cp106 (some ⟨gA, 0, none⟩) gA cA
  have hmkE := (show Marks w0.heap.size [] w219 from trivial)
  refine f_retMc0  Try.results74  (show Marks w0.heap.size [] w219 from trivial) (fun w231 u232 omw231 => ?_)
  have zu232 := u232.size
  have E233 := E226.next u232 (fun i hi (h : w0.heap.size ≤ i) => show base ≤ i by first | omega | assumption)
  exact ⟨⟨_, hvF.marks hmkE u232 omw231 hrlt hb0, hFin⟩, E233⟩
 ·
  refine c_seq fun K234 hK234 => (c_region (t_cmp rfl rfl rfl rfl rfl (t_assign rfl rfl rfl (t_nil' (hK234 _ _ (c_condp rfl (fun g58 => ?_) (fun g58 => ?_)))))))
  ·
   obtain ⟨uF, uT⟩ := use2 g58
   have hti := hc.to uT
   rw [List.length_map] at hti
   have hfi := hc.frm uF
   rw [List.length_map] at hfi
   have hij := hc.ne g58
   have lT0 := (hv.hold _ (nth_mem hti)).blk.lt
   have lgT0 := (hv.hold _ (nth_mem hti)).lays.acc.lt
   have hpT := (hv.hold _ (nth_mem hti)).pge
   have lF0 := (hv.hold _ (nth_mem hfi)).blk.lt
   have lgF0 := (hv.hold _ (nth_mem hfi)).lays.acc.lt
   have hpF := (hv.hold _ (nth_mem hfi)).pge
   have htn := (okEv_rng hx).2.2.2.2.2.2.1 (by omega)
   have hfT := hvo.few (nth_mem hti)
   have hfF := hvo.few (nth_mem hfi)
   have hrT := hc.room uT (by omega)
   rw [st_hold hti, nth_map HG.cap hti] at hrT
   have hhas := hc.has uF
   rw [st_hold hfi] at hhas
   refine c_seq fun K235 hK235 => ?_
   have B236 := ((B16.keep u22 (fun h => h)).keep u25 (show ¬ (pv = bk19) by first | omega | assumption))
   refine WC.weak [(0, .pointer (some ⟨pv, 0, none⟩)), (5, .pointer (some ⟨bk7, 0, none⟩)), (6, .pointer (some ⟨bk19, 0, none⟩))] ⟨rfl, rfl, rfl, trivial⟩ (c_drawn follows 10 [some (60, some (.pointer (some ⟨pv, 0, none⟩))), some (61, some (.pointer (some ⟨pv, 0, none⟩))), some (62, some (.pointer (some ⟨pv, 2, none⟩))), some (63, some (.slice V.pa V.hl.length V.pc)), some (64, some (.pointer (some ⟨bk7, 4, none⟩))), some (65, some (.int .i64 ee.to)), some (66, some (.pointer (some ⟨V.pg, 0 + (ee.to).toNat * 1, none⟩))), some (67, some (.pointer (some ⟨(nth V.hl ((ee.to).toNat)).p, 0, none⟩))), some (8, none), none] [[],[0],[1],[2],[],[4],[3,5],[6],[],[8,7,0,1,2,3,4,5,6,7,8]] (fun D ρ w => Upd (fun _ => False) w24 w ∧ (D 8 = true → ∃ bk238, ρ 8 = .pointer (some ⟨bk238, 0, none⟩) ∧ w24.heap.size ≤ bk238 ∧ Blk w bk238 119 [(bif D 9 then .pointer (some ⟨(nth V.hl ((ee.to).toNat)).p, 0, none⟩) else .pointer none)])) rfl rfl rfl (by kernel_rfl) (by kernel_rfl) ⟨(Upd.drew _).to, (fun h => by cases h)⟩ ⟨?_, ?_, ?_, ?_, ?_, ?_, ?_, ?_, ?_, ?_, trivial⟩ ?_)
   · exact pz rfl rfl rfl rfl fun _ _ _ h => h
   · exact pz rfl rfl rfl rfl fun _ _ _ h => h
   · exact pzf Try.underlying118 rfl Try.sizeOf114 (2) rfl rfl rfl rfl rfl fun _ _ _ h => h
   · exact fun D ρ w243 hcD hnD hdD hW => ⟨_, kf_fr [62], fun Lr => t_load Try.isAgg114 rfl rfl rfl ((B236.keep hW.1 (fun h => h)).get rfl) (dz rfl hW)⟩
   · exact pzf Try.underlying41 rfl Try.sizeOf3 (4) rfl rfl rfl rfl rfl fun _ _ _ h => h
   · exact fun D ρ w248 hcD hnD hdD hW => ⟨_, kf_fr [64], fun Lr => t_load Try.isAgg3 rfl rfl rfl ((B29.keep hW.1 (fun h => h)).get rfl) (dz rfl hW)⟩
   · exact fun D ρ w253 hcD hnD hdD hW => ⟨_, kf_fr [63, 65], fun Lr => t_index (j := (ee.to).toNat) Try.underlying114 Try.sizeOf119 rfl rfl rfl rfl ((show Sl encPt 1 _ V.pa V.pg 0 V.hl from ((hv1.ext ((((Upd.refl (fun _ => False) w14).next u22 (fun _ _ h => h.elim)).next u25 (fun i hi (h : i = bk19) => show False by first | omega | assumption)).next hW.1 (fun _ _ h => h.elim)))).pacc.sl (fun _ => rfl)).addr (by omega)) (by omega) (by omega) (dz rfl hW)⟩
   · exact fun D ρ w258 hcD hnD hdD hW => ⟨_, kf_fr [66], fun Lr => t_load Try.isAgg119 rfl rfl rfl (((show Sl encPt 1 _ V.pa V.pg 0 V.hl from ((hv1.ext ((((Upd.refl (fun _ => False) w14).next u22 (fun _ _ h => h.elim)).next u25 (fun i hi (h : i = bk19) => show False by first | omega | assumption)).next hW.1 (fun _ _ h => h.elim)))).pacc.sl (fun _ => rfl)).at_ ((ee.to).toNat) (by omega)) 0 _ rfl) (dz rfl hW)⟩
   ·
    intro D ρ w262 hcD hnD hdD hW
    obtain ⟨u263, F264⟩ := hW
    have zu263 := u263.size
    refine ⟨[], trivial, fun Lr => ?_⟩
    refine t_alloc (cs := [.pointer none]) Try.zeroValue119 rfl rfl rfl (fun bk266 w267 ebk266 sbk266 B268 u269 => ?_)
    have zu269 := u269.size
    have d9 := hcD.late 9 hnD rfl
    exact dzn rfl ⟨(u263.next u269 (fun _ _ h => h.elim)), (fun _ => ⟨bk266, rfl, (by omega), (by show Blk w267 bk266 119 [(bif D 9 then .pointer (some ⟨(nth V.hl ((ee.to).toNat)).p, 0, none⟩) else .pointer none)]; simp only [d9, cond_false]; exact B268)⟩)⟩
   ·
    intro D ρ w271 hcD hnD hdD hW
    obtain ⟨u272, F273⟩ := hW
    have zu272 := u272.size
    obtain ⟨bk238, e275, gebk238, B276⟩ := F273 (hdD 8 rfl)
    have B277 := B276
    simp only [hnD, cond_false] at B277
    refine ⟨[(8, .pointer (some ⟨bk238, 0, none⟩)), (67, .pointer (some ⟨(nth V.hl ((ee.to).toNat)).p, 0, none⟩))], ⟨fi 8 rfl rfl e275.symm, fi 7 rfl rfl rfl, trivial⟩, fun Lr => ?_⟩
    refine t_store (vs := [.pointer (some ⟨(nth V.hl ((ee.to).toNat)).p, 0, none⟩)]) Try.sizeOf119 rfl rfl rfl B277 rfl rfl (Nat.le_of_ble_eq_true rfl) (by simp [Value.oneCell']) (fun w278 sw278 B280 u279 => ?_)
    have zu279 := u279.size
    have B280 : Blk w278 bk238 119 [.pointer (some ⟨(nth V.hl ((ee.to).toNat)).p, 0, none⟩)] := B280
    exact dz0 rfl ⟨(u272.next u279 (fun i hi (h : i = bk238) => show False by first | omega | assumption)), (fun _ => ⟨bk238, e275, gebk238, (by show Blk w278 bk238 119 [.pointer (some ⟨(nth V.hl ((ee.to).toNat)).p, 0, none⟩)]; exact B280)⟩)⟩
   intro ρ w282 hW
   obtain ⟨u283, F284⟩ := hW
   have zu283 := u283.size
   have E285 := E27.next u283 (fun _ _ h => h.elim)
   obtain ⟨bk238, e286, gebk238, B287⟩ := F284 rfl
   have B287 : Blk w282 bk238 119 [.pointer (some ⟨(nth V.hl ((ee.to).toNat)).p, 0, none⟩)] := B287
   have lt_bk238 := B287.lt
   refine QK.weak [(0, .pointer (some ⟨pv, 0, none⟩)), (5, .pointer (some ⟨bk7, 0, none⟩)), (6, .pointer (some ⟨bk19, 0, none⟩)), (8, .pointer (some ⟨bk238, 0, none⟩))] ⟨rfl, rfl, rfl, (look_nd (j := 8) rfl rfl rfl e286), trivial⟩ (hK235 _ _ (c_seq fun K288 hK288 => ?_))
   have B289 := (B236.keep u283 (fun h => h))
   have B290 := (B29.keep u283 (fun h => h))
   refine WC.weak [(0, .pointer (some ⟨pv, 0, none⟩)), (5, .pointer (some ⟨bk7, 0, none⟩)), (6, .pointer (some ⟨bk19, 0, none⟩)), (8, .pointer (some ⟨bk238, 0, none⟩))] ⟨rfl, rfl, rfl, rfl, trivial⟩ (c_drawnS follows 13 12 [some (68, some (.pointer (some ⟨pv, 0, none⟩))), some (69, some (.pointer (some ⟨pv, 0, none⟩))), some (70, some (.pointer (some ⟨pv, 2, none⟩))), some (71, some (.slice V.pa V.hl.length V.pc)), some (72, some (.pointer (some ⟨bk7, 3, none⟩))), some (73, some (.int .i64 ee.frm)), some (74, some (.pointer (some ⟨V.pg, 0 + (ee.frm).toNat * 1, none⟩))), some (75, some (.pointer (some ⟨(nth V.hl ((ee.frm).toNat)).p, 0, none⟩))), some (76, some (.pointer (some ⟨(nth V.hl ((ee.frm).toNat)).p, 0, none⟩))), some (77, some (.pointer (some ⟨(nth V.hl ((ee.frm).toNat)).p, 2, none⟩))), some (78, some (.pointer (some ⟨bk7, 5, none⟩))), some (79, some (.int .i64 ee.tons))] [[],[0],[1],[2],[],[4],[3,5],[6],[7],[8],[],[10],[9,11]] (fun _ _ w => Upd (fun _ => False) w282 w) rfl rfl rfl rfl (by kernel_rfl) (by kernel_rfl) (by kernel_rfl) (Upd.drew _).to ⟨?_, ?_, ?_, ?_, ?_, ?_, ?_, ?_, ?_, ?_, ?_, ?_, trivial⟩ ?_)
   · exact pz rfl rfl rfl rfl fun _ _ _ h => h
   · exact pz rfl rfl rfl rfl fun _ _ _ h => h
   · exact pzf Try.underlying118 rfl Try.sizeOf114 (2) rfl rfl rfl rfl rfl fun _ _ _ h => h
   ·
    intro D ρ w292 hcD hnD hdD hW
    have zhW := hW.size
    refine ⟨_, kf_fr [70], fun Lr => ?_⟩
    have B295 := (B289.keep hW (fun h => h))
    refine t_load Try.isAgg114 rfl rfl rfl (B295.get rfl) ?_
    exact dz rfl hW
   · exact pzf Try.underlying41 rfl Try.sizeOf3 (3) rfl rfl rfl rfl rfl fun _ _ _ h => h
   ·
    intro D ρ w296 hcD hnD hdD hW
    have zhW := hW.size
    refine ⟨_, kf_fr [72], fun Lr => ?_⟩
    have B299 := (B290.keep hW (fun h => h))
    refine t_load Try.isAgg3 rfl rfl rfl (B299.get rfl) ?_
    exact dz rfl hW
   ·
    intro D ρ w300 hcD hnD hdD hW
    have zhW := hW.size
    refine ⟨_, kf_fr [71, 73], fun Lr => ?_⟩
    have i303 : (ee.frm).toNat < V.hl.length := (by omega)
    refine t_index (j := (ee.frm).toNat) Try.underlying114 Try.sizeOf119 rfl rfl rfl rfl ((show Sl encPt 1 _ V.pa V.pg 0 V.hl from ((hv1.ext (((((Upd.refl (fun _ => False) w14).next u22 (fun _ _ h => h.elim)).next u25 (fun i hi (h : i = bk19) => show False by first | omega | assumption)).next u283 (fun _ _ h => h.elim)).next hW (fun _ _ h => h.elim)))).pacc.sl (fun _ => rfl)).addr (by omega)) (by omega) i303 ?_
    exact dz rfl hW
   ·
    intro D ρ w304 hcD hnD hdD hW
    have zhW := hW.size
    refine ⟨_, kf_fr [74], fun Lr => ?_⟩
    refine t_load Try.isAgg119 rfl rfl rfl (((show Sl encPt 1 _ V.pa V.pg 0 V.hl from ((hv1.ext (((((Upd.refl (fun _ => False) w14).next u22 (fun _ _ h => h.elim)).next u25 (fun i hi (h : i = bk19) => show False by first | omega | assumption)).next u283 (fun _ _ h => h.elim)).next hW (fun _ _ h => h.elim)))).pacc.sl (fun _ => rfl)).at_ ((ee.frm).toNat) (by omega)) 0 _ rfl) ?_
    exact dz rfl hW
   · exact pz rfl rfl rfl rfl fun _ _ _ h => h
   · exact pzf Try.underlying122 rfl Try.sizeOf120 (2) rfl rfl rfl rfl rfl fun _ _ _ h => h
   · exact pzf Try.underlying41 rfl Try.sizeOf3 (5) rfl rfl rfl rfl rfl fun _ _ _ h => h
   ·
    intro D ρ w307 hcD hnD hdD hW
    have zhW := hW.size
    refine ⟨_, kf_fr [78], fun Lr => ?_⟩
    have B310 := (B290.keep hW (fun h => h))
    refine t_load Try.isAgg3 rfl rfl rfl (B310.get rfl) ?_
    exact dz rfl hW
   intro ρ w311 hW
   have u312 : Upd (fun _ => False) w282 w311 := hW
   have zu312 := u312.size
   have E313 := E285.next u312 (fun _ _ h => h.elim)
   refine t_weak [(6, .pointer (some ⟨bk19, 0, none⟩)), (8, .pointer (some ⟨bk238, 0, none⟩)), (77, .pointer (some ⟨(nth V.hl ((ee.frm).toNat)).p, 2, none⟩)), (79, .int .i64 ee.tons)] ⟨rfl, rfl, rfl, rfl, trivial⟩ (t_call (vs := [.pointer (some ⟨(nth V.hl ((ee.frm).toNat)).p, 2, none⟩), .int .i64 ee.tons]) own89 rfl rfl rfl rfl (grab_c ((nth V.hl ((ee.frm).toNat)).p) ee.tons _) (fun v314 w315 r317 => ?_))
   obtain ⟨⟨bt, bs, rfl, hgbt, hgbs, hBt, hBs⟩, u316⟩ := r317
   have zu316 := u316.size
   have E318 := E313.next u316 (fun _ _ h => h.elim)
   refine t_nil' (hK288 _ _ (c_block ?_))
   have hvR : Voy base pv w315 ({ V with mi := ee.minute } : VG) := (hv1.ext ((((((Upd.refl (fun _ => False) w14).next u22 (fun _ _ h => h.elim)).next u25 (fun i hi (h : i = bk19) => show False by first | omega | assumption)).next u283 (fun _ _ h => h.elim)).next u312 (fun _ _ h => h.elim)).next u316 (fun _ _ h => h.elim)))
   have hHF := hvR.hold _ (nth_mem hfi)
   have lF := hHF.blk.lt
   have lgF := hHF.lays.acc.lt
   have hbR : base ≤ w315.heap.size := by omega
   have hHT := hvR.hold _ (nth_mem hti)
   have lT := hHT.blk.lt
   have lgT := hHT.lays.acc.lt
   have B319 := (((((((B4.keep u10 (fun h => h)).keep u15 (show ¬ (bk2 = pv) by first | omega | assumption)).keep u22 (fun h => h)).keep u25 (show ¬ (bk2 = bk19) by first | omega | assumption)).keep u283 (fun h => h)).keep u312 (fun h => h)).keep u316 (fun h => h))
   have l_bk2 := B319.lt
   have B320 := ((B290.keep u312 (fun h => h)).keep u316 (fun h => h))
   have l_bk7 := B320.lt
   have B321 := (((B26.keep u283 (fun h => h)).keep u312 (fun h => h)).keep u316 (fun h => h))
   have l_bk19 := B321.lt
   have B322 := ((B287.keep u312 (fun h => h)).keep u316 (fun h => h))
   have l_bk238 := B322.lt
   have l_bs := hBs.lt
   have l_bt := hBt.lt
   refine WC.weak [(6, .pointer (some ⟨bk19, 0, none⟩)), (8, .pointer (some ⟨bk238, 0, none⟩)), (80, .func (.func 93) #[] #[.pointer (some ⟨bt, 0, none⟩), .pointer (some ⟨bs, 0, none⟩)])] ⟨rfl, rfl, rfl, trivial⟩ (c_rangeZ (γ := GrE) (δ := Nat) (lb := [.pointer (some ⟨bt, 0, none⟩), .pointer (some ⟨bs, 0, none⟩)]) (enc := (fun x : GrE => .agg (encHLay x.part).toArray)) own93 rfl rfl (YGr w315.heap.size (ShM base pv ((ee.frm).toNat) ((ee.to).toNat) (nth V.hl ((ee.frm).toNat)).p bt bs ({ V with mi := ee.minute } : VG) ee.tons (n : Int) n w315)) (ZGr (fun t V2 W => ShS base pv ((ee.frm).toNat) ((ee.to).toNat) (nth V.hl ((ee.frm).toNat)).p bt bs ({ V with mi := ee.minute } : VG) ee.tons (n : Int) n w315 [] t V2 W)) (fun W => ∃ V2, (fun t V2 W => ShS base pv ((ee.frm).toNat) ((ee.to).toNat) (nth V.hl ((ee.frm).toNat)).p bt bs ({ V with mi := ee.minute } : VG) ee.tons (n : Int) n w315 [] t V2 W) 0 V2 W) (ZGr.turned (fun t V2 W W' h hl u => h.turned hl hbR u)) (fun _ W W' h hl u => by obtain ⟨V2, h1⟩ := h; exact ⟨V2, h1.turned hl hbR u⟩) ?_ (fun x d => [(6, .pointer (some ⟨bk19, 0, none⟩)), (8, .pointer (some ⟨bk238, 0, none⟩)), (9, .pointer (some ⟨d, 0, none⟩))]) (RoY (fun d p t V2 W => (ShM base pv ((ee.frm).toNat) ((ee.to).toNat) (nth V.hl ((ee.frm).toNat)).p bt bs ({ V with mi := ee.minute } : VG) ee.tons (n : Int) n w315) p t V2 W ∧ VOff base pv (· = d) V2) w315) (RoY.turned (fun d p t V2 W W' h hl u => ⟨⟨h.1.1.turned hl hbR u, h.1.2.1.turned hl u, h.1.2.2⟩, h.2⟩)) ?_ ?_ ?_)
   ·
    intro l1 D R W hD hl hsz hE1 hH hR
    subst hD hl
    refine (grab1_c _ base pv ((ee.frm).toNat) (nth V.hl ((ee.frm).toNat)).p bt bs _ _ (fun t V2 W => ShS base pv ((ee.frm).toNat) ((ee.to).toNat) (nth V.hl ((ee.frm).toNat)).p bt bs ({ V with mi := ee.minute } : VG) ee.tons (n : Int) n w315 [] t V2 W) (ShM base pv ((ee.frm).toNat) ((ee.to).toNat) (nth V.hl ((ee.frm).toNat)).p bt bs ({ V with mi := ee.minute } : VG) ee.tons (n : Int) n w315) R ee.tons ({ V with mi := ee.minute } : VG) W (fun t V2 W h => h.gr) (fun t V2 W W' h u => h.ext u) (fun t V2 W q part ys W' hc2 h0 hq hpop u hg hp htt => by have hs := hc2.pop hij hfi h0 hq hpop u hg; exact ⟨hs.1, hp, htt.1, hs.2⟩) hH ?_ hR (by omega) rfl).mono fun _ _ h => h
    exact ⟨⟨hvR.ext hE1, hfi, rfl, hBt.keep hE1 id, hBs.keep hE1 id, (VOff.mono hv1.off (fun k hk => by subst hk; omega)), rfl, ⟨by omega, by first | omega | exact hhas, by have := hfF; exact this.2.2.2.1⟩, fun x hx => by have := hvo.tons (nth_mem hfi) hx; exact ⟨this.1, this.2.1⟩⟩, Ext.to hE1, (nth V.hl ((ee.frm).toNat)).xs, (nth V.hl ((ee.to).toNat)).ao, (nth V.hl ((ee.to).toNat)).g, (nth V.hl ((ee.to).toNat)).cp, (nth V.hl ((ee.to).toNat)).xs, [], by simp [VG.setH, set_self hfi, set_self hti], .inl rfl, by simp, by simp, (fun x hx => (hvo.tons (nth_mem hfi) hx).2.2), by have := hfT; simp only [sumT]; omega⟩
   ·
    intro l x W K323 hI hK323
    change WC _ _ _ _ _ _ [(81, .agg #[.int .i64 x.part.v.bill, .int .i64 x.part.v.tons, .slice x.part.ao ((x.part.v.path).length) x.part.cap]), (6, .pointer (some ⟨bk19, 0, none⟩)), (8, .pointer (some ⟨bk238, 0, none⟩)), (80, .func (.func 93) #[] #[.pointer (some ⟨bt, 0, none⟩), .pointer (some ⟨bs, 0, none⟩)])] _
    have E000 := Upd.refl (fun _ => False) W
    obtain ⟨hM1, hD1, hU1⟩ := hI
    refine c_region (t_alloc (cs := [.int .i64 0, .int .i64 0, .slice none 0 0]) Try.zeroValue97 rfl rfl rfl (fun bk324 w325 ebk324 sbk324 B326 u327 => ?_))
    have zu327 := u327.size
    have E328 := E000.next u327 (fun _ _ h => h.elim)
    refine t_store (vs := [.int .i64 x.part.v.bill, .int .i64 x.part.v.tons, .slice x.part.ao ((x.part.v.path).length) x.part.cap]) Try.sizeOf97 rfl rfl rfl B326 rfl rfl (Nat.le_of_ble_eq_true rfl) (by simp [Value.oneCell']) (fun w329 sw329 B331 u330 => ?_)
    have zu330 := u330.size
    have E332 := E328.next u330 (fun i hi (h : i = bk324) => show False by first | omega | assumption)
    have B331 : Blk w329 bk324 97 [.int .i64 x.part.v.bill, .int .i64 x.part.v.tons, .slice x.part.ao ((x.part.v.path).length) x.part.cap] := B331
    refine t_nil' ?_
    have hsz1 := E332.size
    exact hK323 bk324 _ _ ⟨rfl, rfl, rfl, trivial⟩ E332 ⟨⟨⟨hM1.1.ext E332, hM1.2.1.keep E332 (fun _ h => h), hM1.2.2⟩, hM1.1.gr.voy.off.mono (fun k hk => by subst hk; omega)⟩, B331, by omega, hU1.trans (Ext.to E332)⟩
   ·
    intro l x d w333 hY
    obtain ⟨⟨⟨hS, hPt, htt, hpl⟩, hof⟩, hBd, hdg, hU1⟩ := hY
    have ldd := hBd.lt
    have hrg := hS.gr.rng
    have hmid : sumT [x.part.v] = x.part.v.tons := by simp [sumT]
    have hux := hS.u
    have lV := hS.gr.voy.blk.lt
    have llb := hS.gr.voy.lblk.lt
    have u334 : Upd (fun i => i = bt ∨ i = (nth V.hl ((ee.frm).toNat)).p ∨ (i = (nth V.hl ((ee.frm).toNat)).g ∧ base ≤ i) ∨ i = (nth V.hl ((ee.to).toNat)).p ∨ (i = (nth V.hl ((ee.to).toNat)).g ∧ base ≤ i) ∨ i = (w315.heap.size + 1)) w315 w333 := hux
    have zu334 := u334.size
    have hfc := hS.st.facts hti
    have hjV := hfc.1
    obtain ⟨q, hq⟩ : ∃ q, nth x.V.hl ((ee.to).toNat) = q := ⟨_, rfl⟩
    have hmq := hS.gr.voy.hold _ (nth_mem hjV)
    rw [hq] at hmq hfc
    have hqp : q.p = (nth V.hl ((ee.to).toNat)).p := hfc.2.1
    have hqg : q.g = (nth V.hl ((ee.to).toNat)).g ∨ w315.heap.size + 1 < q.g := hfc.2.2.2
    have hql : (q.xs.length : Int) ≤ sumT ((nth V.hl ((ee.to).toNat)).xs.map HLay.v) + (ee.tons - x.t - sumT [x.part.v]) := hfc.2.2.1
    have hBq : Blk w333 (nth V.hl ((ee.to).toNat)).p 122 q.cells := hqp ▸ hmq.blk
    have lq := hmq.lays.acc.lt
    have lq2 := hBq.lt
    have nqg : base ≤ q.g → q.g ≠ (nth V.hl ((ee.to).toNat)).p := fun h => hmq.lays.acc.neB hBq (by decide) h
    have nqd := hBd.neT hBq (by decide)
    have np1 : base ≤ x.part.b → x.part.b ≠ (nth V.hl ((ee.to).toNat)).p := fun h => hPt.1.neB hBq (by decide) h
    have np2 : base ≤ x.part.b → base ≤ q.g → x.part.b ≠ q.g := fun h h2 => hPt.1.neA hmq.lays.acc (by decide) h h2
    have nqd2 : base ≤ q.g → q.g ≠ d := by have h := (hof.hp _ (nth_mem hjV)).2.1; rw [hq] at h; exact h
    have lt_q_g := hmq.lays.acc.lt
    change WC _ _ _ _ _ _ [(6, .pointer (some ⟨bk19, 0, none⟩)), (8, .pointer (some ⟨bk238, 0, none⟩)), (9, .pointer (some ⟨d, 0, none⟩))] _
    have hcellsR := ((hBq).cellsIn.or (hmq.lays.acc).cellsIn)
    refine c_block ?_
    have B336 := (B321.keep u334 (show ¬ (bk19 = bt ∨ bk19 = (nth V.hl ((ee.frm).toNat)).p ∨ (bk19 = (nth V.hl ((ee.frm).toNat)).g ∧ base ≤ bk19) ∨ bk19 = (nth V.hl ((ee.to).toNat)).p ∨ (bk19 = (nth V.hl ((ee.to).toNat)).g ∧ base ≤ bk19) ∨ bk19 = (w315.heap.size + 1)) by first | omega | assumption))
    have B337 := (B322.keep u334 (show ¬ (bk238 = bt ∨ bk238 = (nth V.hl ((ee.frm).toNat)).p ∨ (bk238 = (nth V.hl ((ee.frm).toNat)).g ∧ base ≤ bk238) ∨ bk238 = (nth V.hl ((ee.to).toNat)).p ∨ (bk238 = (nth V.hl ((ee.to).toNat)).g ∧ base ≤ bk238) ∨ bk238 = (w315.heap.size + 1)) by first | omega | assumption))
    refine WC.weak [(6, .pointer (some ⟨bk19, 0, none⟩)), (8, .pointer (some ⟨bk238, 0, none⟩)), (9, .pointer (some ⟨d, 0, none⟩))] ⟨rfl, rfl, rfl, trivial⟩ (c_drawn follows 13 [some (82, some (.pointer (some ⟨(nth V.hl ((ee.to).toNat)).p, 0, none⟩))), some (83, some (.pointer (some ⟨(nth V.hl ((ee.to).toNat)).p, 0, none⟩))), some (84, some (.pointer (some ⟨(nth V.hl ((ee.to).toNat)).p, 0, none⟩))), some (85, some (.pointer (some ⟨(nth V.hl ((ee.to).toNat)).p, 2, none⟩))), some (86, some (.slice q.ao q.xs.length q.cp)), some (87, some (.func (.func 87) #[] #[.pointer (some ⟨bk2, 0, none⟩)])), some (88, some (.agg #[.int .i64 x.part.v.bill, .int .i64 x.part.v.tons, .slice x.part.ao ((x.part.v.path).length) x.part.cap])), some (89, none), some (90, none), some (91, none), some (92, some (.pointer (some ⟨(nth V.hl ((ee.to).toNat)).p, 0, none⟩))), some (93, some (.pointer (some ⟨(nth V.hl ((ee.to).toNat)).p, 2, none⟩))), none] [[],[],[1],[2],[3],[],[],[5,6],[7],[4,8,7],[0,0,1,2,3,4,5,6,7,8,9],[10,0,1,2,3,4,5,6,7,8,9],[11,9,9,0,1,2,3,4,5,6,7,8,9]] (fun D ρ w => Upd (fun i => i = (nth V.hl ((ee.to).toNat)).p ∨ (i = q.g ∧ base ≤ i)) w333 w ∧ (D 9 = false → Acc encHLay 3 97 base w q.ao q.g q.cp q.xs) ∧ (D 9 = false → Blk w (nth V.hl ((ee.to).toNat)).p 122 [.int .i64 q.hull, .int .i64 q.cap, .slice q.ao q.xs.length q.cp, .bool q.sealed]) ∧ (D 7 = true → ∃ gA cA, ρ 7 = .agg #[.int .i64 x.part.v.bill, .int .i64 x.part.v.tons, .slice (some ⟨gA, 0, none⟩) (List.length (x.part.v.path ++ [(n : Int)])) cA] ∧ (D 8 = false → (Acc encI 1 3 base w (some ⟨gA, 0, none⟩) gA cA (x.part.v.path ++ [(n : Int)]) ∧ w333.heap.size ≤ gA))) ∧ (D 8 = true → ∃ gA cA bk344, ρ 8 = .slice (some ⟨bk344, 0, none⟩) 1 1 ∧ w333.heap.size ≤ bk344 ∧ Blk w bk344 97 [.int .i64 x.part.v.bill, .int .i64 x.part.v.tons, .slice (some ⟨gA, 0, none⟩) (List.length (x.part.v.path ++ [(n : Int)])) cA] ∧ (Acc encI 1 3 base w (some ⟨gA, 0, none⟩) gA cA (x.part.v.path ++ [(n : Int)]) ∧ w333.heap.size ≤ gA)) ∧ (D 9 = true → ∃ gA cA ao350 gb351 cp352, ρ 9 = .slice ao350 (((q.xs ++ [(⟨movL (n : Int) x.part.v, some ⟨gA, 0, none⟩, gA, cA⟩ : HLay)])).length) cp352 ∧ Acc encHLay 3 97 base w ao350 gb351 cp352 (q.xs ++ [(⟨movL (n : Int) x.part.v, some ⟨gA, 0, none⟩, gA, cA⟩ : HLay)]) ∧ (gb351 = q.g ∨ w333.heap.size ≤ gb351) ∧ (Acc encI 1 3 base w (some ⟨gA, 0, none⟩) gA cA (x.part.v.path ++ [(n : Int)]) ∧ w333.heap.size ≤ gA) ∧ Blk w (nth V.hl ((ee.to).toNat)).p 122 [.int .i64 q.hull, .int .i64 q.cap, (bif D 12 then .slice ao350 (((q.xs ++ [(⟨movL (n : Int) x.part.v, some ⟨gA, 0, none⟩, gA, cA⟩ : HLay)])).length) cp352 else .slice q.ao q.xs.length q.cp), .bool q.sealed])) rfl rfl rfl (by kernel_rfl) (by kernel_rfl) ⟨(Upd.drew _).to, (fun _ => hmq.lays.acc.keep (Upd.drew _) (fun _ h => h)), (fun _ => hBq.keep (Upd.drew _) (fun h => h)), (fun h => by cases h), (fun h => by cases h), (fun h => by cases h)⟩ ⟨?_, ?_, ?_, ?_, ?_, ?_, ?_, ?_, ?_, ?_, ?_, ?_, ?_, trivial⟩ ?_)
    · exact fun D ρ w357 hcD hnD hdD hW => ⟨_, kf_fr [8], fun Lr => t_load Try.isAgg119 rfl rfl rfl ((B337.keep hW.1 (show ¬ (bk238 = (nth V.hl ((ee.to).toNat)).p ∨ (bk238 = q.g ∧ base ≤ bk238)) by first | omega | assumption)).get rfl) (dz rfl hW)⟩
    · exact fun D ρ w366 hcD hnD hdD hW => ⟨_, kf_fr [8], fun Lr => t_load Try.isAgg119 rfl rfl rfl ((B337.keep hW.1 (show ¬ (bk238 = (nth V.hl ((ee.to).toNat)).p ∨ (bk238 = q.g ∧ base ≤ bk238)) by first | omega | assumption)).get rfl) (dz rfl hW)⟩
    · exact pz rfl rfl rfl rfl fun _ _ _ h => h
    · exact pzf Try.underlying122 rfl Try.sizeOf120 (2) rfl rfl rfl rfl rfl fun _ _ _ h => h
    · exact fun D ρ w376 hcD hnD hdD hW => ⟨_, kf_fr [85], fun Lr => t_load Try.isAgg120 rfl rfl rfl ((hW.2.2.1 (hcD.late 9 hnD rfl)).get rfl) (dz rfl hW)⟩
    · exact fun D ρ w385 hcD hnD hdD hW => ⟨_, kf_fr [6], fun Lr => t_load Try.isAgg174 rfl rfl rfl ((B336.keep hW.1 (show ¬ (bk19 = (nth V.hl ((ee.to).toNat)).p ∨ (bk19 = q.g ∧ base ≤ bk19)) by first | omega | assumption)).get rfl) (dz rfl hW)⟩
    · exact fun D ρ w395 hcD hnD hdD hW => ⟨_, kf_fr [9], fun Lr => t_loadN (vs := [.int .i64 x.part.v.bill, .int .i64 x.part.v.tons, .slice x.part.ao ((x.part.v.path).length) x.part.cap]) Try.isAgg97 Try.sizeOf97 rfl rfl rfl ((hBd.keep hW.1 (show ¬ (d = (nth V.hl ((ee.to).toNat)).p ∨ (d = q.g ∧ base ≤ d)) by first | omega | assumption)).at.sub 0 3) rfl (dz rfl hW)⟩
    ·
     intro D ρ w405 hcD hnD hdD hW
     obtain ⟨u406, C407, T408, F409, F410, F411⟩ := hW
     have zu406 := u406.size
     refine ⟨_, kf_fr [87, 88], fun Lr => ?_⟩
     have B414 := ((B319.keep u334 (show ¬ (bk2 = bt ∨ bk2 = (nth V.hl ((ee.frm).toNat)).p ∨ (bk2 = (nth V.hl ((ee.frm).toNat)).g ∧ base ≤ bk2) ∨ bk2 = (nth V.hl ((ee.to).toNat)).p ∨ (bk2 = (nth V.hl ((ee.to).toNat)).g ∧ base ≤ bk2) ∨ bk2 = (w315.heap.size + 1)) by first | omega | assumption)).keep u406 (show ¬ (bk2 = (nth V.hl ((ee.to).toNat)).p ∨ (bk2 = q.g ∧ base ≤ bk2)) by first | omega | assumption))
     have D415 := (hPt.1.keep u406 (fun hb => show ¬ (x.part.b = (nth V.hl ((ee.to).toNat)).p ∨ (x.part.b = q.g ∧ base ≤ x.part.b)) by have h1 := np1 hb; have h2 := np2 hb; omega))
     refine t_call (vs := [.agg #[.int .i64 x.part.v.bill, .int .i64 x.part.v.tons, .slice x.part.ao ((x.part.v.path).length) x.part.cap]]) own87 rfl rfl rfl rfl (moved_c base bk2 (n : Int) x.part.v.bill x.part.v.tons x.part.v.path x.part.ao x.part.b x.part.cap _ B414 (D415.sl (fun _ => rfl)) D415.cap_le (by omega) (by omega)) (fun v416 w417 r419 => ?_)
     obtain ⟨gA, cA, rfl, hAp, hgA, u418⟩ := r419
     have zu418 := u418.size
     exact dzn rfl ⟨(u406.next u418 (fun _ _ h => h.elim)), (fun h => ((C407 h).keep u418 (fun _ h => h))), (fun h => ((T408 h).keep u418 (fun h => h))), (fun _ => ⟨gA, cA, rfl, fun _ => ⟨hAp, by omega⟩⟩), (fun h => absurd ((hcD.late 8 hnD rfl).symm.trans h) (by decide)), (fun h => absurd ((hcD.late 9 hnD rfl).symm.trans h) (by decide))⟩
    ·
     intro D ρ w421 hcD hnD hdD hW
     obtain ⟨u422, C423, T424, F425, F426, F427⟩ := hW
     have zu422 := u422.size
     obtain ⟨gA, cA, e430, H431⟩ := F425 (hdD 7 rfl)
     have H432 := H431 hnD
     refine ⟨[(89, .agg #[.int .i64 x.part.v.bill, .int .i64 x.part.v.tons, .slice (some ⟨gA, 0, none⟩) (List.length (x.part.v.path ++ [(n : Int)])) cA])], ⟨fi 7 rfl rfl e430.symm, trivial⟩, fun Lr => ?_⟩
     refine t_bslice (ps := [(0, .agg #[.int .i64 x.part.v.bill, .int .i64 x.part.v.tons, .slice (some ⟨gA, 0, none⟩) (List.length (x.part.v.path ++ [(n : Int)])) cA])]) (cs := [.int .i64 x.part.v.bill, .int .i64 x.part.v.tons, .slice (some ⟨gA, 0, none⟩) (List.length (x.part.v.path ++ [(n : Int)])) cA]) (e := 97) rfl rfl ⟨rfl, rfl⟩ (fun w => by kernel_rfl) (fun bk433 w434 ebk433 sbk433 B435 u436 => ?_)
     have zu436 := u436.size
     exact dzn rfl ⟨(u422.next u436 (fun _ _ h => h.elim)), (fun h => ((C423 h).keep u436 (fun _ h => h))), (fun h => ((T424 h).keep u436 (fun h => h))), (fun h => by obtain ⟨gA, cA, e, _⟩ := F425 h; exact ⟨gA, cA, e, fun h => by cases h⟩), (fun _ => ⟨gA, cA, bk433, rfl, (by omega), (by show Blk w434 bk433 97 [.int .i64 x.part.v.bill, .int .i64 x.part.v.tons, .slice (some ⟨gA, 0, none⟩) (List.length (x.part.v.path ++ [(n : Int)])) cA]; exact B435), ⟨(H432.1.keep u436 (fun _ h => h)), H432.2⟩⟩), (fun h => absurd ((hcD.late 9 hnD rfl).symm.trans h) (by decide))⟩
    ·
     intro D ρ w438 hcD hnD hdD hW
     obtain ⟨u439, C440, T441, F442, F443, F444⟩ := hW
     have zu439 := u439.size
     have B446 := T441 hnD
     have C447 := C440 hnD
     obtain ⟨gA, cA, bk344, e448, gebk344, B449, fcB449_7⟩ := F443 (hdD 8 rfl)
     refine ⟨[(86, .slice q.ao q.xs.length q.cp), (90, .slice (some ⟨bk344, 0, none⟩) 1 1)], ⟨fi 4 rfl rfl rfl, fi 8 rfl rfl e448.symm, trivial⟩, fun Lr => ?_⟩
     refine t_append (z := .agg #[.int .i64 0, .int .i64 0, .slice none 0 0]) (bytes := 40) (k := 3) (base := base) (⟨movL (n : Int) x.part.v, some ⟨gA, 0, none⟩, gA, cA⟩ : HLay) Try.underlying120 (by kernel_rfl) rfl (by decide) (fun _ => rfl) (by intro x; simp [encHLay, Value.oneCell']) rfl rfl rfl rfl C447 B449 (by omega) (by omega) (by decide) (fun ao450 gb451 cp452 w453 A454 u455 gegb451 lngb451 => ?_)
     have zu455 := u455.size
     have lt_gb451 := A454.lt
     have d12 := (hcD.late 12 hnD rfl)
     have B457 := (B446.keep u455 (show ¬ (((nth V.hl ((ee.to).toNat)).p = q.g ∧ base ≤ (nth V.hl ((ee.to).toNat)).p)) by first | omega | assumption))
     exact dzn rfl ⟨(u439.next u455 (fun i hi (h : (i = q.g ∧ base ≤ i)) => show i = (nth V.hl ((ee.to).toNat)).p ∨ (i = q.g ∧ base ≤ i) by first | omega | assumption)), (fun h => by cases h), (fun h => by cases h), (fun h => by obtain ⟨gA, cA, e, _⟩ := F442 h; exact ⟨gA, cA, e, fun h2 => absurd ((hdD 8 rfl).symm.trans h2) (by decide)⟩), (fun h => by obtain ⟨gA, cA, b, e, hge, hB, hF7⟩ := F443 h; exact ⟨gA, cA, b, e, hge, (hB.keep u455 (show ¬ ((b = q.g ∧ base ≤ b)) by first | omega | assumption)), ⟨(hF7.1.keep u455 (fun _ => by have hgg := hF7.2; show ¬ ((gA = q.g ∧ base ≤ gA)); omega)), hF7.2⟩⟩), (fun _ => ⟨gA, cA, ao450, gb451, cp452, rfl, A454, (by omega), ⟨(fcB449_7.1.keep u455 (fun _ => by have hgg := fcB449_7.2; show ¬ ((gA = q.g ∧ base ≤ gA)); omega)), fcB449_7.2⟩, (by show Blk w453 (nth V.hl ((ee.to).toNat)).p 122 [.int .i64 q.hull, .int .i64 q.cap, (bif D 12 then .slice ao450 (((q.xs ++ [(⟨movL (n : Int) x.part.v, some ⟨gA, 0, none⟩, gA, cA⟩ : HLay)])).length) cp452 else .slice q.ao q.xs.length q.cp), .bool q.sealed]; simp only [d12, cond_false]; exact B457)⟩)⟩
    · exact pz rfl rfl rfl rfl fun _ _ _ h => h
    · exact pzf Try.underlying122 rfl Try.sizeOf120 (2) rfl rfl rfl rfl rfl fun _ _ _ h => h
    ·
     intro D ρ w458 hcD hnD hdD hW
     obtain ⟨u459, C460, T461, F462, F463, F464⟩ := hW
     have zu459 := u459.size
     obtain ⟨gA, cA, ao350, gb351, cp352, e466, A467, h468, fcA467_7, B470⟩ := F464 (hdD 9 rfl)
     simp only [hnD, cond_false] at B470
     refine ⟨[(91, .slice ao350 (((q.xs ++ [(⟨movL (n : Int) x.part.v, some ⟨gA, 0, none⟩, gA, cA⟩ : HLay)])).length) cp352), (93, .pointer (some ⟨(nth V.hl ((ee.to).toNat)).p, 2, none⟩))], ⟨fi 9 rfl rfl e466.symm, fi 11 rfl rfl rfl, trivial⟩, fun Lr => ?_⟩
     refine t_store (vs := [.slice ao350 (((q.xs ++ [(⟨movL (n : Int) x.part.v, some ⟨gA, 0, none⟩, gA, cA⟩ : HLay)])).length) cp352]) Try.sizeOf120 rfl rfl rfl B470 rfl rfl (Nat.le_of_ble_eq_true rfl) (by simp [Value.oneCell']) (fun w471 sw471 B473 u472 => ?_)
     have zu472 := u472.size
     have B473 : Blk w471 (nth V.hl ((ee.to).toNat)).p 122 [.int .i64 q.hull, .int .i64 q.cap, .slice ao350 (((q.xs ++ [(⟨movL (n : Int) x.part.v, some ⟨gA, 0, none⟩, gA, cA⟩ : HLay)])).length) cp352, .bool q.sealed] := B473
     exact dz0 rfl ⟨(u459.next u472 (fun i hi (h : i = (nth V.hl ((ee.to).toNat)).p) => show i = (nth V.hl ((ee.to).toNat)).p ∨ (i = q.g ∧ base ≤ i) by first | omega | assumption)), (fun h => absurd ((hdD 9 rfl).symm.trans h) (by decide)), (fun h => absurd ((hdD 9 rfl).symm.trans h) (by decide)), (fun h => by obtain ⟨gA, cA, e, _⟩ := F462 h; exact ⟨gA, cA, e, fun h2 => absurd ((hdD 8 rfl).symm.trans h2) (by decide)⟩), (fun h => by obtain ⟨gA, cA, b, e, hge, hB, hF7⟩ := F463 h; exact ⟨gA, cA, b, e, hge, (hB.keep u472 (show ¬ (b = (nth V.hl ((ee.to).toNat)).p) by first | omega | assumption)), ⟨(hF7.1.keep u472 (fun _ => by have hgg := hF7.2; show ¬ (gA = (nth V.hl ((ee.to).toNat)).p); omega)), hF7.2⟩⟩), (fun _ => ⟨gA, cA, ao350, gb351, cp352, e466, (A467.keep u472 (fun _ => show ¬ (gb351 = (nth V.hl ((ee.to).toNat)).p) by first | omega | assumption)), h468, ⟨(fcA467_7.1.keep u472 (fun _ => by have hgg := fcA467_7.2; show ¬ (gA = (nth V.hl ((ee.to).toNat)).p); omega)), fcA467_7.2⟩, B473⟩)⟩
    intro ρ w475 hW
    obtain ⟨u476, C477, T478, F479, F480, F481⟩ := hW
    have zu476 := u476.size
    clear C477
    obtain ⟨gA, cA, ao350, gb351, cp352, e485, A486, gegb351, fcA486_7, bkgb351⟩ := F481 rfl
    have bkgb351 : Blk w475 (nth V.hl ((ee.to).toNat)).p 122 [.int .i64 q.hull, .int .i64 q.cap, .slice ao350 (((q.xs ++ [(⟨movL (n : Int) x.part.v, some ⟨gA, 0, none⟩, gA, cA⟩ : HLay)])).length) cp352, .bool q.sealed] := bkgb351
    have lt_gb351 := A486.lt
    refine QK.weak [(6, .pointer (some ⟨bk19, 0, none⟩)), (8, .pointer (some ⟨bk238, 0, none⟩)), (9, .pointer (some ⟨d, 0, none⟩)), (82, .pointer (some ⟨(nth V.hl ((ee.to).toNat)).p, 0, none⟩)), (83, .pointer (some ⟨(nth V.hl ((ee.to).toNat)).p, 0, none⟩)), (84, .pointer (some ⟨(nth V.hl ((ee.to).toNat)).p, 0, none⟩)), (85, .pointer (some ⟨(nth V.hl ((ee.to).toNat)).p, 2, none⟩)), (86, .slice q.ao q.xs.length q.cp), (87, .func (.func 87) #[] #[.pointer (some ⟨bk2, 0, none⟩)]), (88, .agg #[.int .i64 x.part.v.bill, .int .i64 x.part.v.tons, .slice x.part.ao ((x.part.v.path).length) x.part.cap]), (91, .slice ao350 (((q.xs ++ [(⟨movL (n : Int) x.part.v, some ⟨gA, 0, none⟩, gA, cA⟩ : HLay)])).length) cp352), (92, .pointer (some ⟨(nth V.hl ((ee.to).toNat)).p, 0, none⟩)), (93, .pointer (some ⟨(nth V.hl ((ee.to).toNat)).p, 2, none⟩))] ⟨rfl, rfl, rfl, rfl, rfl, rfl, rfl, rfl, rfl, rfl, (look_nd (j := 9) rfl rfl rfl e485), rfl, rfl, trivial⟩ ?_
    have hUr := ((Upd.refl (fun i => i = (nth V.hl ((ee.to).toNat)).p ∨ (i = q.g ∧ base ≤ i)) w333).next u476 (fun i hi (h : i = (nth V.hl ((ee.to).toNat)).p ∨ (i = q.g ∧ base ≤ i)) => show i = (nth V.hl ((ee.to).toNat)).p ∨ (i = q.g ∧ base ≤ i) by first | omega | assumption))
    have hcu : Upd (fun k => k = q.p ∨ (k = q.g ∧ base ≤ k)) w333 w475 := by rw [hqp]; exact ((Upd.refl (fun i => i = (nth V.hl ((ee.to).toNat)).p ∨ (i = q.g ∧ base ≤ i)) w333).next u476 (fun i hi (h : i = (nth V.hl ((ee.to).toNat)).p ∨ (i = q.g ∧ base ≤ i)) => show i = (nth V.hl ((ee.to).toNat)).p ∨ (i = q.g ∧ base ≤ i) by first | omega | assumption))
    exact fun a ha => ⟨KeepsFrom.of_upd hUr hcellsR, ⟨_, hS.add hij hti hq (by omega) (by omega) (by omega) hcu (by rw [hqp]; exact bkgb351) A486 fcA486_7.1 (by have hgg := fcA486_7.2; omega) (by omega) htt⟩, hU1.trans (hUr.mono fun _ _ => trivial)⟩
   ·
    have hmk0 := (show Marks w0.heap.size [] w315 from trivial)
    have hmc0 := (show CellsIn (fun i => i = bt ∨ i = (nth V.hl ((ee.frm).toNat)).p ∨ (i = (nth V.hl ((ee.frm).toNat)).g ∧ base ≤ i) ∨ i = (nth V.hl ((ee.to).toNat)).p ∨ (i = (nth V.hl ((ee.to).toNat)).g ∧ base ≤ i) ∨ i = (w315.heap.size + 1)) w315 from fun k hk e => by
      rcases e with rfl | rfl | e | rfl | e | e
      · exact ⟨_, _, _, hBt⟩
      · exact ⟨_, _, _, hHF.blk⟩
      · exact hHF.lays.acc.cellsIn _ hk e
      · exact ⟨_, _, _, hHT.blk⟩
      · exact hHT.lays.acc.cellsIn _ hk e
      · omega)
    intro D488 w487 hD488 hE hdD488
    obtain ⟨VE, hSE⟩ := hE
    have u489 : Upd (fun i => i = bt ∨ i = (nth V.hl ((ee.frm).toNat)).p ∨ (i = (nth V.hl ((ee.frm).toNat)).g ∧ base ≤ i) ∨ i = (nth V.hl ((ee.to).toNat)).p ∨ (i = (nth V.hl ((ee.to).toNat)).g ∧ base ≤ i) ∨ i = (w315.heap.size + 1)) w315 w487 := hSE.u
    have zu489 := u489.size
    have E490 := E318.next u489 (fun i hi (h : i = bt ∨ i = (nth V.hl ((ee.frm).toNat)).p ∨ (i = (nth V.hl ((ee.frm).toNat)).g ∧ base ≤ i) ∨ i = (nth V.hl ((ee.to).toNat)).p ∨ (i = (nth V.hl ((ee.to).toNat)).g ∧ base ≤ i) ∨ i = (w315.heap.size + 1)) => show base ≤ i by first | omega | assumption)
    have hVr : VE.r < w0.heap.size := by obtain ⟨_, _, _, _, _, _, h1, _⟩ := hSE.st; rw [h1]; exact hrlt
    have mk491 := (hmk0.keep u489 hmc0).push (D := D488) (by omega) hdD488 (fun d hd D' e => Nat.lt_of_lt_of_le (hmk0.lt d hd D' e) hD488)
    have hvF := hSE.gr.voy
    have hFin := fin2 g58 hfi hti hij hSE.st
    have hmkE := mk491
    refine f_retMc0  Try.results74  mk491 (fun w492 u493 omw492 => ?_)
    have zu493 := u493.size
    have E494 := E490.next u493 (fun i hi (h : w0.heap.size ≤ i) => show base ≤ i by first | omega | assumption)
    exact ⟨⟨_, hvF.marks hmkE u493 omw492 hVr hb0, hFin⟩, E494⟩
  ·
   refine c_seq fun K495 hK495 => (c_region (t_cmp rfl rfl rfl rfl rfl (t_assign rfl rfl rfl (t_nil' (hK495 _ _ (c_condp rfl (fun g94 => ?_) (fun g94 => ?_)))))))
   ·
    have uF : useF ee = true := by simp [useF, g94]
    have hfi := hc.frm uF
    rw [List.length_map] at hfi
    have lF0 := (hv.hold _ (nth_mem hfi)).blk.lt
    have lgF0 := (hv.hold _ (nth_mem hfi)).lays.acc.lt
    have hpF := (hv.hold _ (nth_mem hfi)).pge
    have htn := (okEv_rng hx).2.2.2.2.2.2.1 (by omega)
    have hfF := hvo.few (nth_mem hfi)
    have hhas := hc.has uF
    rw [st_hold hfi] at hhas
    have ldg0 := hv.dacc.lt
    have hldn := hvo.ok.ldn
    have hldn2 : V.ld.length ≤ n := by have h := hldn; simp only [VG.st, List.length_map] at h; exact h
    refine c_seq fun K496 hK496 => (c_region ?_)
    have B497 := ((((B4.keep u10 (fun h => h)).keep u15 (show ¬ (bk2 = pv) by first | omega | assumption)).keep u22 (fun h => h)).keep u25 (show ¬ (bk2 = bk19) by first | omega | assumption))
    refine t_load Try.isAgg3 rfl rfl rfl (B497.get rfl) (t_field Try.underlying41 rfl Try.sizeOf3 (6) rfl rfl rfl rfl (t_load Try.isAgg3 rfl rfl rfl (B29.get rfl) (t_build (ps := [(0, .int .i64 (n : Int)), (1, .int .i64 ee.port)]) (v := .agg #[.int .i64 (n : Int), .int .i64 ee.port, .slice none 0 0]) rfl rfl ⟨rfl, rfl⟩ (fun w => by kernel_rfl) (t_alloc (cs := [.int .i64 0, .int .i64 0, .slice none 0 0]) Try.zeroValue125 rfl rfl rfl (fun bk498 w499 ebk498 sbk498 B500 u501 => ?_)))))
    have zu501 := u501.size
    have E502 := E27.next u501 (fun _ _ h => h.elim)
    refine t_store (vs := [.int .i64 (n : Int), .int .i64 ee.port, .slice none 0 0]) Try.sizeOf125 rfl rfl rfl B500 rfl rfl (Nat.le_of_ble_eq_true rfl) (by simp [Value.oneCell']) (fun w503 sw503 B505 u504 => ?_)
    have zu504 := u504.size
    have E506 := E502.next u504 (fun i hi (h : i = bk498) => show base ≤ i by first | omega | assumption)
    have B505 : Blk w503 bk498 125 [.int .i64 (n : Int), .int .i64 ee.port, .slice none 0 0] := B505
    refine t_nil' (hK496 _ _ (c_seq fun K507 hK507 => (c_seq fun K508 hK508 => ?_)))
    have B509 := ((((B16.keep u22 (fun h => h)).keep u25 (show ¬ (pv = bk19) by first | omega | assumption)).keep u501 (fun h => h)).keep u504 (show ¬ (pv = bk498) by first | omega | assumption))
    have B510 := ((B29.keep u501 (fun h => h)).keep u504 (show ¬ (bk7 = bk498) by first | omega | assumption))
    refine WC.weak [(0, .pointer (some ⟨pv, 0, none⟩)), (5, .pointer (some ⟨bk7, 0, none⟩)), (6, .pointer (some ⟨bk19, 0, none⟩)), (10, .pointer (some ⟨bk498, 0, none⟩))] ⟨rfl, rfl, rfl, rfl, trivial⟩ (c_drawnS follows 13 12 [some (100, some (.pointer (some ⟨pv, 0, none⟩))), some (101, some (.pointer (some ⟨pv, 0, none⟩))), some (102, some (.pointer (some ⟨pv, 2, none⟩))), some (103, some (.slice V.pa V.hl.length V.pc)), some (104, some (.pointer (some ⟨bk7, 3, none⟩))), some (105, some (.int .i64 ee.frm)), some (106, some (.pointer (some ⟨V.pg, 0 + (ee.frm).toNat * 1, none⟩))), some (107, some (.pointer (some ⟨(nth V.hl ((ee.frm).toNat)).p, 0, none⟩))), some (108, some (.pointer (some ⟨(nth V.hl ((ee.frm).toNat)).p, 0, none⟩))), some (109, some (.pointer (some ⟨(nth V.hl ((ee.frm).toNat)).p, 2, none⟩))), some (110, some (.pointer (some ⟨bk7, 5, none⟩))), some (111, some (.int .i64 ee.tons))] [[],[0],[1],[2],[],[4],[3,5],[6],[7],[8],[],[10],[9,11]] (fun _ _ w => Upd (fun _ => False) w503 w) rfl rfl rfl rfl (by kernel_rfl) (by kernel_rfl) (by kernel_rfl) (Upd.drew _).to ⟨?_, ?_, ?_, ?_, ?_, ?_, ?_, ?_, ?_, ?_, ?_, ?_, trivial⟩ ?_)
    · exact pz rfl rfl rfl rfl fun _ _ _ h => h
    · exact pz rfl rfl rfl rfl fun _ _ _ h => h
    · exact pzf Try.underlying118 rfl Try.sizeOf114 (2) rfl rfl rfl rfl rfl fun _ _ _ h => h
    ·
     intro D ρ w512 hcD hnD hdD hW
     have zhW := hW.size
     refine ⟨_, kf_fr [102], fun Lr => ?_⟩
     have B515 := (B509.keep hW (fun h => h))
     refine t_load Try.isAgg114 rfl rfl rfl (B515.get rfl) ?_
     exact dz rfl hW
    · exact pzf Try.underlying41 rfl Try.sizeOf3 (3) rfl rfl rfl rfl rfl fun _ _ _ h => h
    ·
     intro D ρ w516 hcD hnD hdD hW
     have zhW := hW.size
     refine ⟨_, kf_fr [104], fun Lr => ?_⟩
     have B519 := (B510.keep hW (fun h => h))
     refine t_load Try.isAgg3 rfl rfl rfl (B519.get rfl) ?_
     exact dz rfl hW
    ·
     intro D ρ w520 hcD hnD hdD hW
     have zhW := hW.size
     refine ⟨_, kf_fr [103, 105], fun Lr => ?_⟩
     have i523 : (ee.frm).toNat < V.hl.length := (by omega)
     refine t_index (j := (ee.frm).toNat) Try.underlying114 Try.sizeOf119 rfl rfl rfl rfl ((show Sl encPt 1 _ V.pa V.pg 0 V.hl from ((hv1.ext ((((((Upd.refl (fun _ => False) w14).next u22 (fun _ _ h => h.elim)).next u25 (fun i hi (h : i = bk19) => show False by first | omega | assumption)).next u501 (fun _ _ h => h.elim)).next u504 (fun i hi (h : i = bk498) => show False by first | omega | assumption)).next hW (fun _ _ h => h.elim)))).pacc.sl (fun _ => rfl)).addr (by omega)) (by omega) i523 ?_
     exact dz rfl hW
    ·
     intro D ρ w524 hcD hnD hdD hW
     have zhW := hW.size
     refine ⟨_, kf_fr [106], fun Lr => ?_⟩
     refine t_load Try.isAgg119 rfl rfl rfl (((show Sl encPt 1 _ V.pa V.pg 0 V.hl from ((hv1.ext ((((((Upd.refl (fun _ => False) w14).next u22 (fun _ _ h => h.elim)).next u25 (fun i hi (h : i = bk19) => show False by first | omega | assumption)).next u501 (fun _ _ h => h.elim)).next u504 (fun i hi (h : i = bk498) => show False by first | omega | assumption)).next hW (fun _ _ h => h.elim)))).pacc.sl (fun _ => rfl)).at_ ((ee.frm).toNat) (by omega)) 0 _ rfl) ?_
     exact dz rfl hW
    · exact pz rfl rfl rfl rfl fun _ _ _ h => h
    · exact pzf Try.underlying122 rfl Try.sizeOf120 (2) rfl rfl rfl rfl rfl fun _ _ _ h => h
    · exact pzf Try.underlying41 rfl Try.sizeOf3 (5) rfl rfl rfl rfl rfl fun _ _ _ h => h
    ·
     intro D ρ w527 hcD hnD hdD hW
     have zhW := hW.size
     refine ⟨_, kf_fr [110], fun Lr => ?_⟩
     have B530 := (B510.keep hW (fun h => h))
     refine t_load Try.isAgg3 rfl rfl rfl (B530.get rfl) ?_
     exact dz rfl hW
    intro ρ w531 hW
    have u532 : Upd (fun _ => False) w503 w531 := hW
    have zu532 := u532.size
    have E533 := E506.next u532 (fun _ _ h => h.elim)
    refine t_weak [(0, .pointer (some ⟨pv, 0, none⟩)), (6, .pointer (some ⟨bk19, 0, none⟩)), (10, .pointer (some ⟨bk498, 0, none⟩)), (109, .pointer (some ⟨(nth V.hl ((ee.frm).toNat)).p, 2, none⟩)), (111, .int .i64 ee.tons)] ⟨rfl, rfl, rfl, rfl, rfl, trivial⟩ (t_call (vs := [.pointer (some ⟨(nth V.hl ((ee.frm).toNat)).p, 2, none⟩), .int .i64 ee.tons]) own89 rfl rfl rfl rfl (grab_c ((nth V.hl ((ee.frm).toNat)).p) ee.tons _) (fun v534 w535 r537 => ?_))
    obtain ⟨⟨bt, bs, rfl, hgbt, hgbs, hBt, hBs⟩, u536⟩ := r537
    have zu536 := u536.size
    have E538 := E533.next u536 (fun _ _ h => h.elim)
    refine t_nil' (hK508 _ _ (c_block ?_))
    have hvR : Voy base pv w535 ({ V with mi := ee.minute } : VG) := (hv1.ext (((((((Upd.refl (fun _ => False) w14).next u22 (fun _ _ h => h.elim)).next u25 (fun i hi (h : i = bk19) => show False by first | omega | assumption)).next u501 (fun _ _ h => h.elim)).next u504 (fun i hi (h : i = bk498) => show False by first | omega | assumption)).next u532 (fun _ _ h => h.elim)).next u536 (fun _ _ h => h.elim)))
    have hHF := hvR.hold _ (nth_mem hfi)
    have lF := hHF.blk.lt
    have lgF := hHF.lays.acc.lt
    have hbR : base ≤ w535.heap.size := by omega
    have B539 := ((((B497.keep u501 (fun h => h)).keep u504 (show ¬ (bk2 = bk498) by first | omega | assumption)).keep u532 (fun h => h)).keep u536 (fun h => h))
    have l_bk2 := B539.lt
    have B540 := ((B510.keep u532 (fun h => h)).keep u536 (fun h => h))
    have l_bk7 := B540.lt
    have B541 := ((((B26.keep u501 (fun h => h)).keep u504 (show ¬ (bk19 = bk498) by first | omega | assumption)).keep u532 (fun h => h)).keep u536 (fun h => h))
    have l_bk19 := B541.lt
    have l_bs := hBs.lt
    have l_bt := hBt.lt
    have B542 := ((B505.keep u532 (fun h => h)).keep u536 (fun h => h))
    have l_bk498 := B542.lt
    refine WC.weak [(0, .pointer (some ⟨pv, 0, none⟩)), (6, .pointer (some ⟨bk19, 0, none⟩)), (10, .pointer (some ⟨bk498, 0, none⟩)), (112, .func (.func 93) #[] #[.pointer (some ⟨bt, 0, none⟩), .pointer (some ⟨bs, 0, none⟩)])] ⟨rfl, rfl, rfl, rfl, trivial⟩ (c_rangeZ (γ := GrE) (δ := Nat) (lb := [.pointer (some ⟨bt, 0, none⟩), .pointer (some ⟨bs, 0, none⟩)]) (enc := (fun x : GrE => .agg (encHLay x.part).toArray)) own93 rfl rfl (YGr w535.heap.size (UnM (fun _ => False) w14.heap.size base pv ((ee.frm).toNat) (nth V.hl ((ee.frm).toNat)).p bt bs ({ V with mi := ee.minute } : VG) ee.tons (n : Int) ee.port n bk498 w535)) (ZGr (fun t V2 W => UnS (fun _ => False) w14.heap.size base pv ((ee.frm).toNat) (nth V.hl ((ee.frm).toNat)).p bt bs ({ V with mi := ee.minute } : VG) ee.tons (n : Int) ee.port n bk498 w535 [] t V2 W)) (fun W => ∃ V2, (fun t V2 W => UnS (fun _ => False) w14.heap.size base pv ((ee.frm).toNat) (nth V.hl ((ee.frm).toNat)).p bt bs ({ V with mi := ee.minute } : VG) ee.tons (n : Int) ee.port n bk498 w535 [] t V2 W) 0 V2 W) (ZGr.turned (fun t V2 W W' h hl u => h.turned hl hbR u)) (fun _ W W' h hl u => by obtain ⟨V2, h1⟩ := h; exact ⟨V2, h1.turned hl hbR u⟩) ?_ (fun x d => [(0, .pointer (some ⟨pv, 0, none⟩)), (6, .pointer (some ⟨bk19, 0, none⟩)), (10, .pointer (some ⟨bk498, 0, none⟩)), (11, .pointer (some ⟨d, 0, none⟩))]) (RoY (fun d => (UnM (· = d) w14.heap.size base pv ((ee.frm).toNat) (nth V.hl ((ee.frm).toNat)).p bt bs ({ V with mi := ee.minute } : VG) ee.tons (n : Int) ee.port n bk498 w535)) w535) (RoY.turned (fun d p t V2 W W' h hl u => ⟨h.1.turned hl hbR u, h.2.1.turned hl u, h.2.2⟩)) ?_ ?_ ?_)
    ·
     intro l1 D R W hD hl hsz hE1 hH hR
     subst hD hl
     refine (grab1_c _ base pv ((ee.frm).toNat) (nth V.hl ((ee.frm).toNat)).p bt bs _ _ (fun t V2 W => UnS (fun _ => False) w14.heap.size base pv ((ee.frm).toNat) (nth V.hl ((ee.frm).toNat)).p bt bs ({ V with mi := ee.minute } : VG) ee.tons (n : Int) ee.port n bk498 w535 [] t V2 W) (UnM (fun _ => False) w14.heap.size base pv ((ee.frm).toNat) (nth V.hl ((ee.frm).toNat)).p bt bs ({ V with mi := ee.minute } : VG) ee.tons (n : Int) ee.port n bk498 w535) R ee.tons ({ V with mi := ee.minute } : VG) W (fun t V2 W h => h.gr) (fun t V2 W W' h u => h.ext u) (fun t V2 W q part ys W' hc2 h0 hq hpop u hg hp htt => by have hs := hc2.pop hfi lgF lF l_bt (by omega) h0 hq hpop u hg; exact ⟨hs.1, hp, htt.1, hs.2⟩) hH ?_ hR (by omega) rfl).mono fun _ _ h => h
     exact ⟨⟨hvR.ext hE1, hfi, rfl, hBt.keep hE1 id, hBs.keep hE1 id, hv1.off, (by show w14.heap.size ≤ bt; omega), ⟨by omega, by first | omega | exact hhas, by have := hfF; exact this.2.2.2.1⟩, fun x hx => by have := hvo.tons (nth_mem hfi) hx; exact ⟨this.1, this.2.1⟩⟩, Ext.to hE1, (nth V.hl ((ee.frm).toNat)).xs, none, 0, 0, [], [], by simp [VG.setH, set_self hfi], B542.keep hE1 id, ⟨Acc.nil _ _ _ _ _ (by omega) hE1.size, fun x hx => by cases hx⟩, rfl, by simp, (fun x hx => (hvo.tons (nth_mem hfi) hx).2.2), by simp [sumT], id⟩
    ·
     intro l x W K543 hI hK543
     change WC _ _ _ _ _ _ [(113, .agg #[.int .i64 x.part.v.bill, .int .i64 x.part.v.tons, .slice x.part.ao ((x.part.v.path).length) x.part.cap]), (0, .pointer (some ⟨pv, 0, none⟩)), (6, .pointer (some ⟨bk19, 0, none⟩)), (10, .pointer (some ⟨bk498, 0, none⟩)), (112, .func (.func 93) #[] #[.pointer (some ⟨bt, 0, none⟩), .pointer (some ⟨bs, 0, none⟩)])] _
     have E000 := Upd.refl (fun _ => False) W
     obtain ⟨hM1, hD1, hU1⟩ := hI
     refine c_region (t_alloc (cs := [.int .i64 0, .int .i64 0, .slice none 0 0]) Try.zeroValue97 rfl rfl rfl (fun bk544 w545 ebk544 sbk544 B546 u547 => ?_))
     have zu547 := u547.size
     have E548 := E000.next u547 (fun _ _ h => h.elim)
     refine t_store (vs := [.int .i64 x.part.v.bill, .int .i64 x.part.v.tons, .slice x.part.ao ((x.part.v.path).length) x.part.cap]) Try.sizeOf97 rfl rfl rfl B546 rfl rfl (Nat.le_of_ble_eq_true rfl) (by simp [Value.oneCell']) (fun w549 sw549 B551 u550 => ?_)
     have zu550 := u550.size
     have E552 := E548.next u550 (fun i hi (h : i = bk544) => show False by first | omega | assumption)
     have B551 : Blk w549 bk544 97 [.int .i64 x.part.v.bill, .int .i64 x.part.v.tons, .slice x.part.ao ((x.part.v.path).length) x.part.cap] := B551
     refine t_nil' ?_
     have hsz1 := E552.size
     exact hK543 bk544 _ _ ⟨rfl, rfl, rfl, rfl, trivial⟩ E552 ⟨⟨(hM1.1.fresh (d := bk544) (by omega)).ext E552, hM1.2.1.keep E552 (fun _ h => h), hM1.2.2⟩, B551, by omega, hU1.trans (Ext.to E552)⟩
    ·
     intro l x d w553 hY
     obtain ⟨⟨hS, hPt, htt, hpl⟩, hBd, hdg, hU1⟩ := hY
     have ldd := hBd.lt
     have hrg := hS.gr.rng
     have hmid : sumT [x.part.v] = x.part.v.tons := by simp [sumT]
     have hux := hS.u
     have lV := hS.gr.voy.blk.lt
     have llb := hS.gr.voy.lblk.lt
     have u554 : Upd (fun i => i = bt ∨ i = (nth V.hl ((ee.frm).toNat)).p ∨ (i = (nth V.hl ((ee.frm).toNat)).g ∧ base ≤ i) ∨ i = bk498 ∨ i = (w535.heap.size + 1)) w535 w553 := hux
     have zu554 := u554.size
     obtain ⟨xf, aoL, gL, cpL, yl, ps, hV2, hBL, hLL, hmL, htL, hplL, hlL, hDd⟩ := hS.st
     have lgL := hLL.acc.lt
     have hDd2 : gL ≠ d := hDd
     have nb1 := hBL.neT hBd (by decide)
     have nb2 : w535.heap.size ≤ gL → gL ≠ bk498 := fun h => hLL.acc.neB hBL (by decide) h
     have np1 : base ≤ x.part.b → x.part.b ≠ bk498 := fun h => hPt.1.neB hBL (by decide) h
     have np2 : base ≤ x.part.b → w535.heap.size ≤ gL → x.part.b ≠ gL := fun h h2 => hPt.1.neA hLL.acc (by decide) h h2
     have lt_gL := hLL.acc.lt
     change WC _ _ _ _ _ _ [(0, .pointer (some ⟨pv, 0, none⟩)), (6, .pointer (some ⟨bk19, 0, none⟩)), (10, .pointer (some ⟨bk498, 0, none⟩)), (11, .pointer (some ⟨d, 0, none⟩))] _
     have hcellsR := ((hBL).cellsIn.or (hLL.acc).cellsIn)
     refine c_block ?_
     have B556 := (B541.keep u554 (show ¬ (bk19 = bt ∨ bk19 = (nth V.hl ((ee.frm).toNat)).p ∨ (bk19 = (nth V.hl ((ee.frm).toNat)).g ∧ base ≤ bk19) ∨ bk19 = bk498 ∨ bk19 = (w535.heap.size + 1)) by first | omega | assumption))
     refine WC.weak [(0, .pointer (some ⟨pv, 0, none⟩)), (6, .pointer (some ⟨bk19, 0, none⟩)), (10, .pointer (some ⟨bk498, 0, none⟩)), (11, .pointer (some ⟨d, 0, none⟩))] ⟨rfl, rfl, rfl, rfl, trivial⟩ (c_drawn follows 9 [some (114, some (.pointer (some ⟨bk498, 2, none⟩))), some (115, some (.slice aoL yl.length cpL)), some (116, some (.func (.func 87) #[] #[.pointer (some ⟨bk2, 0, none⟩)])), some (117, some (.agg #[.int .i64 x.part.v.bill, .int .i64 x.part.v.tons, .slice x.part.ao ((x.part.v.path).length) x.part.cap])), some (118, none), some (119, none), some (120, none), some (121, some (.pointer (some ⟨bk498, 2, none⟩))), none] [[],[0],[],[],[2,3],[4],[1,5,4],[0,1,2,3,4,5,6],[7,6,6,0,1,2,3,4,5,6]] (fun D ρ w => Upd (fun i => i = bk498 ∨ (i = gL ∧ w535.heap.size ≤ i)) w553 w ∧ (D 6 = false → Acc encHLay 3 97 w535.heap.size w aoL gL cpL yl) ∧ (D 6 = false → Blk w bk498 125 [.int .i64 (n : Int), .int .i64 ee.port, .slice aoL yl.length cpL]) ∧ (D 4 = true → ∃ gA cA, ρ 4 = .agg #[.int .i64 x.part.v.bill, .int .i64 x.part.v.tons, .slice (some ⟨gA, 0, none⟩) (List.length (x.part.v.path ++ [(n : Int)])) cA] ∧ (D 5 = false → (Acc encI 1 3 base w (some ⟨gA, 0, none⟩) gA cA (x.part.v.path ++ [(n : Int)]) ∧ w553.heap.size ≤ gA))) ∧ (D 5 = true → ∃ gA cA bk563, ρ 5 = .slice (some ⟨bk563, 0, none⟩) 1 1 ∧ w553.heap.size ≤ bk563 ∧ Blk w bk563 97 [.int .i64 x.part.v.bill, .int .i64 x.part.v.tons, .slice (some ⟨gA, 0, none⟩) (List.length (x.part.v.path ++ [(n : Int)])) cA] ∧ (Acc encI 1 3 base w (some ⟨gA, 0, none⟩) gA cA (x.part.v.path ++ [(n : Int)]) ∧ w553.heap.size ≤ gA)) ∧ (D 6 = true → ∃ gA cA ao569 gb570 cp571, ρ 6 = .slice ao569 (((yl ++ [(⟨movL (n : Int) x.part.v, some ⟨gA, 0, none⟩, gA, cA⟩ : HLay)])).length) cp571 ∧ Acc encHLay 3 97 w535.heap.size w ao569 gb570 cp571 (yl ++ [(⟨movL (n : Int) x.part.v, some ⟨gA, 0, none⟩, gA, cA⟩ : HLay)]) ∧ (gb570 = gL ∨ w553.heap.size ≤ gb570) ∧ (Acc encI 1 3 base w (some ⟨gA, 0, none⟩) gA cA (x.part.v.path ++ [(n : Int)]) ∧ w553.heap.size ≤ gA) ∧ Blk w bk498 125 [.int .i64 (n : Int), .int .i64 ee.port, (bif D 8 then .slice ao569 (((yl ++ [(⟨movL (n : Int) x.part.v, some ⟨gA, 0, none⟩, gA, cA⟩ : HLay)])).length) cp571 else .slice aoL yl.length cpL)])) rfl rfl rfl (by kernel_rfl) (by kernel_rfl) ⟨(Upd.drew _).to, (fun _ => hLL.acc.keep (Upd.drew _) (fun _ h => h)), (fun _ => hBL.keep (Upd.drew _) (fun h => h)), (fun h => by cases h), (fun h => by cases h), (fun h => by cases h)⟩ ⟨?_, ?_, ?_, ?_, ?_, ?_, ?_, ?_, ?_, trivial⟩ ?_)
     · exact pzf Try.underlying125 rfl Try.sizeOf120 (2) rfl rfl rfl rfl rfl fun _ _ _ h => h
     · exact fun D ρ w576 hcD hnD hdD hW => ⟨_, kf_fr [114], fun Lr => t_load Try.isAgg120 rfl rfl rfl ((hW.2.2.1 (hcD.late 6 hnD rfl)).get rfl) (dz rfl hW)⟩
     · exact fun D ρ w585 hcD hnD hdD hW => ⟨_, kf_fr [6], fun Lr => t_load Try.isAgg174 rfl rfl rfl ((B556.keep hW.1 (show ¬ (bk19 = bk498 ∨ (bk19 = gL ∧ w535.heap.size ≤ bk19)) by first | omega | assumption)).get rfl) (dz rfl hW)⟩
     · exact fun D ρ w595 hcD hnD hdD hW => ⟨_, kf_fr [11], fun Lr => t_loadN (vs := [.int .i64 x.part.v.bill, .int .i64 x.part.v.tons, .slice x.part.ao ((x.part.v.path).length) x.part.cap]) Try.isAgg97 Try.sizeOf97 rfl rfl rfl ((hBd.keep hW.1 (show ¬ (d = bk498 ∨ (d = gL ∧ w535.heap.size ≤ d)) by first | omega | assumption)).at.sub 0 3) rfl (dz rfl hW)⟩
     ·
      intro D ρ w605 hcD hnD hdD hW
      obtain ⟨u606, C607, T608, F609, F610, F611⟩ := hW
      have zu606 := u606.size
      refine ⟨_, kf_fr [116, 117], fun Lr => ?_⟩
      have B614 := ((B539.keep u554 (show ¬ (bk2 = bt ∨ bk2 = (nth V.hl ((ee.frm).toNat)).p ∨ (bk2 = (nth V.hl ((ee.frm).toNat)).g ∧ base ≤ bk2) ∨ bk2 = bk498 ∨ bk2 = (w535.heap.size + 1)) by first | omega | assumption)).keep u606 (show ¬ (bk2 = bk498 ∨ (bk2 = gL ∧ w535.heap.size ≤ bk2)) by first | omega | assumption))
      have D615 := (hPt.1.keep u606 (fun hb => show ¬ (x.part.b = bk498 ∨ (x.part.b = gL ∧ w535.heap.size ≤ x.part.b)) by have h1 := np1 hb; have h2 := np2 hb; omega))
      refine t_call (vs := [.agg #[.int .i64 x.part.v.bill, .int .i64 x.part.v.tons, .slice x.part.ao ((x.part.v.path).length) x.part.cap]]) own87 rfl rfl rfl rfl (moved_c base bk2 (n : Int) x.part.v.bill x.part.v.tons x.part.v.path x.part.ao x.part.b x.part.cap _ B614 (D615.sl (fun _ => rfl)) D615.cap_le (by omega) (by omega)) (fun v616 w617 r619 => ?_)
      obtain ⟨gA, cA, rfl, hAp, hgA, u618⟩ := r619
      have zu618 := u618.size
      exact dzn rfl ⟨(u606.next u618 (fun _ _ h => h.elim)), (fun h => ((C607 h).keep u618 (fun _ h => h))), (fun h => ((T608 h).keep u618 (fun h => h))), (fun _ => ⟨gA, cA, rfl, fun _ => ⟨hAp, by omega⟩⟩), (fun h => absurd ((hcD.late 5 hnD rfl).symm.trans h) (by decide)), (fun h => absurd ((hcD.late 6 hnD rfl).symm.trans h) (by decide))⟩
     ·
      intro D ρ w621 hcD hnD hdD hW
      obtain ⟨u622, C623, T624, F625, F626, F627⟩ := hW
      have zu622 := u622.size
      obtain ⟨gA, cA, e630, H631⟩ := F625 (hdD 4 rfl)
      have H632 := H631 hnD
      refine ⟨[(118, .agg #[.int .i64 x.part.v.bill, .int .i64 x.part.v.tons, .slice (some ⟨gA, 0, none⟩) (List.length (x.part.v.path ++ [(n : Int)])) cA])], ⟨fi 4 rfl rfl e630.symm, trivial⟩, fun Lr => ?_⟩
      refine t_bslice (ps := [(0, .agg #[.int .i64 x.part.v.bill, .int .i64 x.part.v.tons, .slice (some ⟨gA, 0, none⟩) (List.length (x.part.v.path ++ [(n : Int)])) cA])]) (cs := [.int .i64 x.part.v.bill, .int .i64 x.part.v.tons, .slice (some ⟨gA, 0, none⟩) (List.length (x.part.v.path ++ [(n : Int)])) cA]) (e := 97) rfl rfl ⟨rfl, rfl⟩ (fun w => by kernel_rfl) (fun bk633 w634 ebk633 sbk633 B635 u636 => ?_)
      have zu636 := u636.size
      exact dzn rfl ⟨(u622.next u636 (fun _ _ h => h.elim)), (fun h => ((C623 h).keep u636 (fun _ h => h))), (fun h => ((T624 h).keep u636 (fun h => h))), (fun h => by obtain ⟨gA, cA, e, _⟩ := F625 h; exact ⟨gA, cA, e, fun h => by cases h⟩), (fun _ => ⟨gA, cA, bk633, rfl, (by omega), (by show Blk w634 bk633 97 [.int .i64 x.part.v.bill, .int .i64 x.part.v.tons, .slice (some ⟨gA, 0, none⟩) (List.length (x.part.v.path ++ [(n : Int)])) cA]; exact B635), ⟨(H632.1.keep u636 (fun _ h => h)), H632.2⟩⟩), (fun h => absurd ((hcD.late 6 hnD rfl).symm.trans h) (by decide))⟩
     ·
      intro D ρ w638 hcD hnD hdD hW
      obtain ⟨u639, C640, T641, F642, F643, F644⟩ := hW
      have zu639 := u639.size
      have B646 := T641 hnD
      have C647 := C640 hnD
      obtain ⟨gA, cA, bk563, e648, gebk563, B649, fcB649_4⟩ := F643 (hdD 5 rfl)
      refine ⟨[(115, .slice aoL yl.length cpL), (119, .slice (some ⟨bk563, 0, none⟩) 1 1)], ⟨fi 1 rfl rfl rfl, fi 5 rfl rfl e648.symm, trivial⟩, fun Lr => ?_⟩
      refine t_append (z := .agg #[.int .i64 0, .int .i64 0, .slice none 0 0]) (bytes := 40) (k := 3) (base := w535.heap.size) (⟨movL (n : Int) x.part.v, some ⟨gA, 0, none⟩, gA, cA⟩ : HLay) Try.underlying120 (by kernel_rfl) rfl (by decide) (fun _ => rfl) (by intro x; simp [encHLay, Value.oneCell']) rfl rfl rfl rfl C647 B649 (by omega) (by omega) (by decide) (fun ao650 gb651 cp652 w653 A654 u655 gegb651 lngb651 => ?_)
      have zu655 := u655.size
      have lt_gb651 := A654.lt
      have d8 := (hcD.late 8 hnD rfl)
      have B657 := (B646.keep u655 (show ¬ ((bk498 = gL ∧ w535.heap.size ≤ bk498)) by first | omega | assumption))
      exact dzn rfl ⟨(u639.next u655 (fun i hi (h : (i = gL ∧ w535.heap.size ≤ i)) => show i = bk498 ∨ (i = gL ∧ w535.heap.size ≤ i) by first | omega | assumption)), (fun h => by cases h), (fun h => by cases h), (fun h => by obtain ⟨gA, cA, e, _⟩ := F642 h; exact ⟨gA, cA, e, fun h2 => absurd ((hdD 5 rfl).symm.trans h2) (by decide)⟩), (fun h => by obtain ⟨gA, cA, b, e, hge, hB, hF4⟩ := F643 h; exact ⟨gA, cA, b, e, hge, (hB.keep u655 (show ¬ ((b = gL ∧ w535.heap.size ≤ b)) by first | omega | assumption)), ⟨(hF4.1.keep u655 (fun _ => by have hgg := hF4.2; show ¬ ((gA = gL ∧ w535.heap.size ≤ gA)); omega)), hF4.2⟩⟩), (fun _ => ⟨gA, cA, ao650, gb651, cp652, rfl, A654, (by omega), ⟨(fcB649_4.1.keep u655 (fun _ => by have hgg := fcB649_4.2; show ¬ ((gA = gL ∧ w535.heap.size ≤ gA)); omega)), fcB649_4.2⟩, (by show Blk w653 bk498 125 [.int .i64 (n : Int), .int .i64 ee.port, (bif D 8 then .slice ao650 (((yl ++ [(⟨movL (n : Int) x.part.v, some ⟨gA, 0, none⟩, gA, cA⟩ : HLay)])).length) cp652 else .slice aoL yl.length cpL)]; simp only [d8, cond_false]; exact B657)⟩)⟩
     · exact pzf Try.underlying125 rfl Try.sizeOf120 (2) rfl rfl rfl rfl rfl fun _ _ _ h => h
     ·
      intro D ρ w658 hcD hnD hdD hW
      obtain ⟨u659, C660, T661, F662, F663, F664⟩ := hW
      have zu659 := u659.size
      obtain ⟨gA, cA, ao569, gb570, cp571, e666, A667, h668, fcA667_4, B670⟩ := F664 (hdD 6 rfl)
      simp only [hnD, cond_false] at B670
      refine ⟨[(120, .slice ao569 (((yl ++ [(⟨movL (n : Int) x.part.v, some ⟨gA, 0, none⟩, gA, cA⟩ : HLay)])).length) cp571), (121, .pointer (some ⟨bk498, 2, none⟩))], ⟨fi 6 rfl rfl e666.symm, fi 7 rfl rfl rfl, trivial⟩, fun Lr => ?_⟩
      refine t_store (vs := [.slice ao569 (((yl ++ [(⟨movL (n : Int) x.part.v, some ⟨gA, 0, none⟩, gA, cA⟩ : HLay)])).length) cp571]) Try.sizeOf120 rfl rfl rfl B670 rfl rfl (Nat.le_of_ble_eq_true rfl) (by simp [Value.oneCell']) (fun w671 sw671 B673 u672 => ?_)
      have zu672 := u672.size
      have B673 : Blk w671 bk498 125 [.int .i64 (n : Int), .int .i64 ee.port, .slice ao569 (((yl ++ [(⟨movL (n : Int) x.part.v, some ⟨gA, 0, none⟩, gA, cA⟩ : HLay)])).length) cp571] := B673
      exact dz0 rfl ⟨(u659.next u672 (fun i hi (h : i = bk498) => show i = bk498 ∨ (i = gL ∧ w535.heap.size ≤ i) by first | omega | assumption)), (fun h => absurd ((hdD 6 rfl).symm.trans h) (by decide)), (fun h => absurd ((hdD 6 rfl).symm.trans h) (by decide)), (fun h => by obtain ⟨gA, cA, e, _⟩ := F662 h; exact ⟨gA, cA, e, fun h2 => absurd ((hdD 5 rfl).symm.trans h2) (by decide)⟩), (fun h => by obtain ⟨gA, cA, b, e, hge, hB, hF4⟩ := F663 h; exact ⟨gA, cA, b, e, hge, (hB.keep u672 (show ¬ (b = bk498) by first | omega | assumption)), ⟨(hF4.1.keep u672 (fun _ => by have hgg := hF4.2; show ¬ (gA = bk498); omega)), hF4.2⟩⟩), (fun _ => ⟨gA, cA, ao569, gb570, cp571, e666, (A667.keep u672 (fun _ => show ¬ (gb570 = bk498) by first | omega | assumption)), h668, ⟨(fcA667_4.1.keep u672 (fun _ => by have hgg := fcA667_4.2; show ¬ (gA = bk498); omega)), fcA667_4.2⟩, B673⟩)⟩
     intro ρ w675 hW
     obtain ⟨u676, C677, T678, F679, F680, F681⟩ := hW
     have zu676 := u676.size
     clear C677
     obtain ⟨gA, cA, ao569, gb570, cp571, e685, A686, gegb570, fcA686_4, bkgb570⟩ := F681 rfl
     have bkgb570 : Blk w675 bk498 125 [.int .i64 (n : Int), .int .i64 ee.port, .slice ao569 (((yl ++ [(⟨movL (n : Int) x.part.v, some ⟨gA, 0, none⟩, gA, cA⟩ : HLay)])).length) cp571] := bkgb570
     have lt_gb570 := A686.lt
     refine QK.weak [(0, .pointer (some ⟨pv, 0, none⟩)), (6, .pointer (some ⟨bk19, 0, none⟩)), (10, .pointer (some ⟨bk498, 0, none⟩)), (11, .pointer (some ⟨d, 0, none⟩)), (114, .pointer (some ⟨bk498, 2, none⟩)), (115, .slice aoL yl.length cpL), (116, .func (.func 87) #[] #[.pointer (some ⟨bk2, 0, none⟩)]), (117, .agg #[.int .i64 x.part.v.bill, .int .i64 x.part.v.tons, .slice x.part.ao ((x.part.v.path).length) x.part.cap]), (120, .slice ao569 (((yl ++ [(⟨movL (n : Int) x.part.v, some ⟨gA, 0, none⟩, gA, cA⟩ : HLay)])).length) cp571), (121, .pointer (some ⟨bk498, 2, none⟩))] ⟨rfl, rfl, rfl, rfl, rfl, rfl, rfl, rfl, (look_nd (j := 6) rfl rfl rfl e685), rfl, trivial⟩ ?_
     have hUr := ((Upd.refl (fun i => i = bk498 ∨ (i = gL ∧ w535.heap.size ≤ i)) w553).next u676 (fun i hi (h : i = bk498 ∨ (i = gL ∧ w535.heap.size ≤ i)) => show i = bk498 ∨ (i = gL ∧ w535.heap.size ≤ i) by first | omega | assumption))
     have hcu := ((Upd.refl (fun i => i = bk498 ∨ (i = gL ∧ w535.heap.size ≤ i)) w553).next u676 (fun i hi (h : i = bk498 ∨ (i = gL ∧ w535.heap.size ≤ i)) => show i = bk498 ∨ (i = gL ∧ w535.heap.size ≤ i) by first | omega | assumption))
     exact fun a ha => ⟨KeepsFrom.of_upd hUr hcellsR, ⟨_, hS.addL hLL hV2 hmL htL hplL hlL ⟨by omega, by omega, by omega, by omega, by omega, by omega, by omega, by show V.lb < _; omega⟩ (by omega) hcu bkgb570 A686 (fcA686_4.1.mono2 (by omega)) (by have hgg := fcA686_4.2; omega) htt⟩, hU1.trans (hUr.mono fun _ _ => trivial)⟩
    ·
     have hmk0 := (show Marks w0.heap.size [] w535 from trivial)
     have hmc0 := (show CellsIn (fun i => i = bt ∨ i = (nth V.hl ((ee.frm).toNat)).p ∨ (i = (nth V.hl ((ee.frm).toNat)).g ∧ base ≤ i) ∨ i = bk498 ∨ i = (w535.heap.size + 1)) w535 from fun k hk e => by
       rcases e with rfl | rfl | e | rfl | e
       · exact ⟨_, _, _, hBt⟩
       · exact ⟨_, _, _, hHF.blk⟩
       · exact hHF.lays.acc.cellsIn _ hk e
       · exact ⟨_, _, _, B542⟩
       · omega)
     intro D688 w687 hD688 hE hdD688
     obtain ⟨VE, hSE⟩ := hE
     have u689 : Upd (fun i => i = bt ∨ i = (nth V.hl ((ee.frm).toNat)).p ∨ (i = (nth V.hl ((ee.frm).toNat)).g ∧ base ≤ i) ∨ i = bk498 ∨ i = (w535.heap.size + 1)) w535 w687 := hSE.u
     have zu689 := u689.size
     have E690 := E538.next u689 (fun i hi (h : i = bt ∨ i = (nth V.hl ((ee.frm).toNat)).p ∨ (i = (nth V.hl ((ee.frm).toNat)).g ∧ base ≤ i) ∨ i = bk498 ∨ i = (w535.heap.size + 1)) => show base ≤ i by first | omega | assumption)
     obtain ⟨xf, aoL, gL, cpL, yl, ps, hV2, hBL, hLL, hmL, htL, hplL, hlL, _⟩ := hSE.st
     have hVld : VE.ld = V.ld := by rw [hV2]; rfl
     have mk691 := (hmk0.keep u689 hmc0).push (D := D688) (by omega) hdD688 (fun d hd D' e => Nat.lt_of_lt_of_le (hmk0.lt d hd D' e) hD688)
     refine hK507 _ _ ?_
     have hvE := hSE.gr.voy
     have hdA : Acc encLG 3 125 base w687 V.da V.dg V.dc V.ld := by have h := hvE.dacc; rw [hV2] at h; exact h
     have ldA := hdA.lt
     have hdne : base ≤ V.dg → V.dg ≠ pv := fun h => hdA.neB hvE.blk (by decide) h
     have lt_V_dg := hdA.lt
     have hpE : Blk w687 pv 118 [.slice V.ab V.bs.length V.cb, .slice V.ah V.hs.length V.ch, .slice V.pa V.hl.length V.pc, .slice (some ⟨V.lb, 0, none⟩) V.ls.length V.ls.length, .map (some V.r), .slice V.da V.ld.length V.dc, .int .i64 ee.minute] := (by have h := hvE.blk; rw [hV2, VG.setH_cells] at h; exact h)
     refine WC.weak [(0, .pointer (some ⟨pv, 0, none⟩)), (10, .pointer (some ⟨bk498, 0, none⟩))] ⟨rfl, rfl, trivial⟩ (c_drawn follows 11 [some (122, some (.pointer (some ⟨pv, 0, none⟩))), some (123, some (.pointer (some ⟨pv, 0, none⟩))), some (124, some (.pointer (some ⟨pv, 0, none⟩))), some (125, some (.pointer (some ⟨pv, 5, none⟩))), some (126, some (.slice V.da V.ld.length V.dc)), some (127, some (.agg #[.int .i64 (n : Int), .int .i64 ee.port, .slice aoL (List.length yl) cpL])), some (128, none), some (129, none), some (130, some (.pointer (some ⟨pv, 0, none⟩))), some (131, some (.pointer (some ⟨pv, 5, none⟩))), none] [[],[],[1],[2],[3],[],[5],[4,6],[0,0,1,2,3,4,5,6,7],[8,0,1,2,3,4,5,6,7],[9,7,7,0,1,2,3,4,5,6,7]] (fun D ρ w => Upd (fun i => i = pv ∨ (i = V.dg ∧ base ≤ i)) w687 w ∧ (D 7 = false → Acc encLG 3 125 base w V.da V.dg V.dc V.ld) ∧ (D 7 = false → Blk w pv 118 [.slice V.ab V.bs.length V.cb, .slice V.ah V.hs.length V.ch, .slice V.pa V.hl.length V.pc, .slice (some ⟨V.lb, 0, none⟩) V.ls.length V.ls.length, .map (some V.r), .slice V.da V.ld.length V.dc, .int .i64 ee.minute]) ∧ (D 6 = true → ∃ bk692, ρ 6 = .slice (some ⟨bk692, 0, none⟩) 1 1 ∧ w687.heap.size ≤ bk692 ∧ Blk w bk692 125 [.int .i64 (n : Int), .int .i64 ee.port, .slice aoL (List.length yl) cpL]) ∧ (D 7 = true → ∃ ao698 gb699 cp700, ρ 7 = .slice ao698 (((V.ld ++ [(⟨(n : Int), ee.port, aoL, gL, cpL, yl⟩ : LG)])).length) cp700 ∧ Acc encLG 3 125 base w ao698 gb699 cp700 (V.ld ++ [(⟨(n : Int), ee.port, aoL, gL, cpL, yl⟩ : LG)]) ∧ (gb699 = V.dg ∨ w687.heap.size ≤ gb699) ∧ Blk w pv 118 [.slice V.ab V.bs.length V.cb, .slice V.ah V.hs.length V.ch, .slice V.pa V.hl.length V.pc, .slice (some ⟨V.lb, 0, none⟩) V.ls.length V.ls.length, .map (some V.r), (bif D 10 then .slice ao698 (((V.ld ++ [(⟨(n : Int), ee.port, aoL, gL, cpL, yl⟩ : LG)])).length) cp700 else .slice V.da V.ld.length V.dc), .int .i64 ee.minute])) rfl rfl rfl (by kernel_rfl) (by kernel_rfl) ⟨(Upd.drew _).to, (fun _ => hdA.keep (Upd.drew _) (fun _ h => h)), (fun _ => hpE.keep (Upd.drew _) (fun h => h)), (fun h => by cases h), (fun h => by cases h)⟩ ⟨?_, ?_, ?_, ?_, ?_, ?_, ?_, ?_, ?_, ?_, ?_, trivial⟩ ?_)
     · exact pz rfl rfl rfl rfl fun _ _ _ h => h
     · exact pz rfl rfl rfl rfl fun _ _ _ h => h
     · exact pz rfl rfl rfl rfl fun _ _ _ h => h
     · exact pzf Try.underlying118 rfl Try.sizeOf116 (5) rfl rfl rfl rfl rfl fun _ _ _ h => h
     · exact fun D ρ w705 hcD hnD hdD hW => ⟨_, kf_fr [125], fun Lr => t_load Try.isAgg116 rfl rfl rfl ((hW.2.2.1 (hcD.late 7 hnD rfl)).get rfl) (dz rfl hW)⟩
     · exact fun D ρ w713 hcD hnD hdD hW => ⟨_, kf_fr [10], fun Lr => t_loadN (vs := [.int .i64 (n : Int), .int .i64 ee.port, .slice aoL (List.length yl) cpL]) Try.isAgg125 Try.sizeOf125 rfl rfl rfl ((hBL.keep hW.1 (show ¬ (bk498 = pv ∨ (bk498 = V.dg ∧ base ≤ bk498)) by first | omega | assumption)).at.sub 0 3) rfl (dz rfl hW)⟩
     ·
      intro D ρ w722 hcD hnD hdD hW
      obtain ⟨u723, C724, T725, F726, F727⟩ := hW
      have zu723 := u723.size
      refine ⟨_, kf_fr [127], fun Lr => ?_⟩
      refine t_bslice (ps := [(0, .agg #[.int .i64 (n : Int), .int .i64 ee.port, .slice aoL (List.length yl) cpL])]) (cs := [.int .i64 (n : Int), .int .i64 ee.port, .slice aoL (List.length yl) cpL]) (e := 125) rfl rfl ⟨rfl, rfl⟩ (fun w => by kernel_rfl) (fun bk730 w731 ebk730 sbk730 B732 u733 => ?_)
      have zu733 := u733.size
      exact dzn rfl ⟨(u723.next u733 (fun _ _ h => h.elim)), (fun h => ((C724 h).keep u733 (fun _ h => h))), (fun h => ((T725 h).keep u733 (fun h => h))), (fun _ => ⟨bk730, rfl, (by omega), (by show Blk w731 bk730 125 [.int .i64 (n : Int), .int .i64 ee.port, .slice aoL (List.length yl) cpL]; exact B732)⟩), (fun h => absurd ((hcD.late 7 hnD rfl).symm.trans h) (by decide))⟩
     ·
      intro D ρ w735 hcD hnD hdD hW
      obtain ⟨u736, C737, T738, F739, F740⟩ := hW
      have zu736 := u736.size
      have B742 := T738 hnD
      have C743 := C737 hnD
      obtain ⟨bk692, e744, gebk692, B745⟩ := F739 (hdD 6 rfl)
      refine ⟨[(126, .slice V.da V.ld.length V.dc), (128, .slice (some ⟨bk692, 0, none⟩) 1 1)], ⟨fi 4 rfl rfl rfl, fi 6 rfl rfl e744.symm, trivial⟩, fun Lr => ?_⟩
      refine t_append (z := .agg #[.int .i64 0, .int .i64 0, .slice none 0 0]) (bytes := 40) (k := 3) (base := base) (⟨(n : Int), ee.port, aoL, gL, cpL, yl⟩ : LG) Try.underlying116 (by kernel_rfl) rfl (by decide) (fun _ => rfl) (by intro x; simp [encLG, Value.oneCell']) rfl rfl rfl rfl C743 B745 (by omega) (by omega) (by decide) (fun ao746 gb747 cp748 w749 A750 u751 gegb747 lngb747 => ?_)
      have zu751 := u751.size
      have lt_gb747 := A750.lt
      have d10 := (hcD.late 10 hnD rfl)
      have B753 := (B742.keep u751 (show ¬ ((pv = V.dg ∧ base ≤ pv)) by first | omega | assumption))
      exact dzn rfl ⟨(u736.next u751 (fun i hi (h : (i = V.dg ∧ base ≤ i)) => show i = pv ∨ (i = V.dg ∧ base ≤ i) by first | omega | assumption)), (fun h => by cases h), (fun h => by cases h), (fun h => by obtain ⟨b, e, hge, hB⟩ := F739 h; exact ⟨b, e, hge, (hB.keep u751 (show ¬ ((b = V.dg ∧ base ≤ b)) by first | omega | assumption))⟩), (fun _ => ⟨ao746, gb747, cp748, rfl, A750, (by omega), (by show Blk w749 pv 118 [.slice V.ab V.bs.length V.cb, .slice V.ah V.hs.length V.ch, .slice V.pa V.hl.length V.pc, .slice (some ⟨V.lb, 0, none⟩) V.ls.length V.ls.length, .map (some V.r), (bif D 10 then .slice ao746 (((V.ld ++ [(⟨(n : Int), ee.port, aoL, gL, cpL, yl⟩ : LG)])).length) cp748 else .slice V.da V.ld.length V.dc), .int .i64 ee.minute]; simp only [d10, cond_false]; exact B753)⟩)⟩
     · exact pz rfl rfl rfl rfl fun _ _ _ h => h
     · exact pzf Try.underlying118 rfl Try.sizeOf116 (5) rfl rfl rfl rfl rfl fun _ _ _ h => h
     ·
      intro D ρ w754 hcD hnD hdD hW
      obtain ⟨u755, C756, T757, F758, F759⟩ := hW
      have zu755 := u755.size
      obtain ⟨ao698, gb699, cp700, e761, A762, h763, B765⟩ := F759 (hdD 7 rfl)
      simp only [hnD, cond_false] at B765
      refine ⟨[(129, .slice ao698 (((V.ld ++ [(⟨(n : Int), ee.port, aoL, gL, cpL, yl⟩ : LG)])).length) cp700), (131, .pointer (some ⟨pv, 5, none⟩))], ⟨fi 7 rfl rfl e761.symm, fi 9 rfl rfl rfl, trivial⟩, fun Lr => ?_⟩
      refine t_store (vs := [.slice ao698 (((V.ld ++ [(⟨(n : Int), ee.port, aoL, gL, cpL, yl⟩ : LG)])).length) cp700]) Try.sizeOf116 rfl rfl rfl B765 rfl rfl (Nat.le_of_ble_eq_true rfl) (by simp [Value.oneCell']) (fun w766 sw766 B768 u767 => ?_)
      have zu767 := u767.size
      have B768 : Blk w766 pv 118 [.slice V.ab V.bs.length V.cb, .slice V.ah V.hs.length V.ch, .slice V.pa V.hl.length V.pc, .slice (some ⟨V.lb, 0, none⟩) V.ls.length V.ls.length, .map (some V.r), .slice ao698 (((V.ld ++ [(⟨(n : Int), ee.port, aoL, gL, cpL, yl⟩ : LG)])).length) cp700, .int .i64 ee.minute] := B768
      exact dz0 rfl ⟨(u755.next u767 (fun i hi (h : i = pv) => show i = pv ∨ (i = V.dg ∧ base ≤ i) by first | omega | assumption)), (fun h => absurd ((hdD 7 rfl).symm.trans h) (by decide)), (fun h => absurd ((hdD 7 rfl).symm.trans h) (by decide)), (fun h => by obtain ⟨b, e, hge, hB⟩ := F758 h; exact ⟨b, e, hge, (hB.keep u767 (show ¬ (b = pv) by first | omega | assumption))⟩), (fun _ => ⟨ao698, gb699, cp700, e761, (A762.keep u767 (fun _ => show ¬ (gb699 = pv) by first | omega | assumption)), h763, B768⟩)⟩
     intro ρ w770 hW
     obtain ⟨u771, C772, T773, F774, F775⟩ := hW
     have zu771 := u771.size
     have E776 := E690.next u771 (fun i hi (h : i = pv ∨ (i = V.dg ∧ base ≤ i)) => show base ≤ i by first | omega | assumption)
     clear C772
     obtain ⟨ao698, gb699, cp700, e778, A779, gegb699, bkgb699⟩ := F775 rfl
     have bkgb699 : Blk w770 pv 118 [.slice V.ab V.bs.length V.cb, .slice V.ah V.hs.length V.ch, .slice V.pa V.hl.length V.pc, .slice (some ⟨V.lb, 0, none⟩) V.ls.length V.ls.length, .map (some V.r), .slice ao698 (((V.ld ++ [(⟨(n : Int), ee.port, aoL, gL, cpL, yl⟩ : LG)])).length) cp700, .int .i64 ee.minute] := bkgb699
     have lt_gb699 := A779.lt
     refine QK.weak [] trivial ?_
     have hcl := un_close hLL hmL htL hbR (by omega) hhas (fun y hy => by obtain ⟨x, hx, rfl⟩ := List.mem_map.1 hy; exact hvo.tons (nth_mem hfi) hx)
     have hcu := ((Upd.refl (fun i => i = pv ∨ (i = V.dg ∧ base ≤ i)) w687).next u771 (fun i hi (h : i = pv ∨ (i = V.dg ∧ base ≤ i)) => show i = pv ∨ (i = V.dg ∧ base ≤ i) by first | omega | assumption))
     have hdl := hvR.dacc.lt
     simp only [] at hdl
     have hvE2 := hvE
     rw [hV2] at hvE2
     have hvF := hvE2.setD (l := (⟨(n : Int), ee.port, aoL, gL, cpL, yl⟩ : LG)) hcu (by simp only [VG.cells, VG.setH, List.length_set]; exact bkgb699) A779 (hcl.1.keep hcu (fun _ e => by omega) (fun x hx hq e => by have h1 := (hLL.path x hx).1; have h2 := un_path hmL hx; have h3 := h1.base_le h2; omega)) (fun x hx _ => un_ne hfi (fun x hx => (hvR.hold x hx).lays.acc.lt) hcl.2 x hx)
     have hFin := fin3 g94 hfi hV2 hmL htL ao698 gb699 cp700 aoL gL cpL
     rw [hV2] at hFin
     have D782 := (mk691.keep u771 (hpE.cellsIn.or hdA.cellsIn))
     have hmkE := D782
     refine f_retMc0  Try.results74  D782 (fun w780 u781 omw780 => ?_)
     have zu781 := u781.size
     have E783 := E776.next u781 (fun i hi (h : w0.heap.size ≤ i) => show base ≤ i by first | omega | assumption)
     exact ⟨⟨_, hvF.marks hmkE u781 omw780 hrlt hb0, hFin⟩, E783⟩
   ·
    refine c_seq fun K784 hK784 => (c_region (t_cmp rfl rfl rfl rfl rfl (t_assign rfl rfl rfl (t_nil' (hK784 _ _ (c_condp rfl (fun g132 => ?_) (fun g132 => ?_)))))))
    ·
     have uT : useT ee = true := by simp [useT, g132]
     have hti := hc.to uT
     rw [List.length_map] at hti
     have lT0 := (hv.hold _ (nth_mem hti)).blk.lt
     have lgT0 := (hv.hold _ (nth_mem hti)).lays.acc.lt
     have hpT := (hv.hold _ (nth_mem hti)).pge
     have hsn := hc.sn g132
     have hH : HoldM base w24 V.lb (nth V.hl ((ee.to).toNat)) := (hv1.ext (((Upd.refl (fun _ => False) w14).next u22 (fun _ _ h => h.elim)).next u25 (fun i hi (h : i = bk19) => show False by first | omega | assumption))).hold _ (nth_mem hti)
     have nv := hv.vne (hv.hold _ (nth_mem hti)).blk
     have npv := nv.pv (by decide)
     have npg := nv.pg (by decide) (hv.pacc.base_le (by omega))
     have hpA : Sl encPt 1 w24 V.pa V.pg 0 V.hl := ((hv1.ext (((Upd.refl (fun _ => False) w14).next u22 (fun _ _ h => h.elim)).next u25 (fun i hi (h : i = bk19) => show False by first | omega | assumption)))).pacc.sl (fun _ => rfl)
     have B785 := ((B16.keep u22 (fun h => h)).keep u25 (show ¬ (pv = bk19) by first | omega | assumption))
     refine WC.weak [(0, .pointer (some ⟨pv, 0, none⟩)), (5, .pointer (some ⟨bk7, 0, none⟩))] ⟨rfl, rfl, trivial⟩ (c_drawnS follows 20 17 [some (134, some (.pointer (some ⟨pv, 0, none⟩))), some (135, some (.pointer (some ⟨pv, 0, none⟩))), some (136, some (.pointer (some ⟨pv, 2, none⟩))), some (137, some (.slice V.pa V.hl.length V.pc)), some (138, some (.pointer (some ⟨bk7, 4, none⟩))), some (139, some (.int .i64 ee.to)), some (140, some (.pointer (some ⟨V.pg, 0 + (ee.to).toNat * 1, none⟩))), some (141, some (.pointer (some ⟨(nth V.hl ((ee.to).toNat)).p, 0, none⟩))), some (142, some (.pointer (some ⟨pv, 0, none⟩))), some (143, some (.pointer (some ⟨pv, 0, none⟩))), some (144, some (.pointer (some ⟨pv, 4, none⟩))), some (145, some (.map (some V.r))), some (146, some (.pointer (some ⟨bk7, 7, none⟩))), some (147, some (.int .i64 ee.sn)), some (148, some (.pointer (some ⟨(nth V.hl ((ee.to).toNat)).p, 0, none⟩))), some (149, some (.pointer (some ⟨(nth V.hl ((ee.to).toNat)).p, 3, none⟩))), none] [[],[0],[1],[2],[],[4],[3,5],[6],[],[8],[9],[10],[],[12],[7,0,1,2,3,4,5,6,7,11],[14,0,1,2,3,4,5,6,7,11],[15,0,1,2,3,4,5,6,7,11],[11,13,16,0,1,2,3,4,5,6,7,11,14,15,16],[17],[11,18,17,0,1,2,3,4,5,6,7,8,9,10,11,12,13,14,15,16,17]] (fun D _ w => Upd (fun i => i = (nth V.hl ((ee.to).toNat)).p) w24 w ∧ Blk w (nth V.hl ((ee.to).toNat)).p 122 [.int .i64 ((nth V.hl ((ee.to).toNat)).hull), .int .i64 ((nth V.hl ((ee.to).toNat)).cap), .slice ((nth V.hl ((ee.to).toNat)).ao) ((nth V.hl ((ee.to).toNat)).xs.length) ((nth V.hl ((ee.to).toNat)).cp), (bif D 16 then .bool true else .bool ((nth V.hl ((ee.to).toNat)).sealed))]) rfl rfl rfl rfl (by kernel_rfl) (by kernel_rfl) (by kernel_rfl) ⟨(Upd.drew _).to, (hH.blk.keep (Upd.drew _) (fun h => h))⟩ ⟨?_, ?_, ?_, ?_, ?_, ?_, ?_, ?_, ?_, ?_, ?_, ?_, ?_, ?_, ?_, ?_, ?_, trivial⟩ ?_)
     · exact pz rfl rfl rfl rfl fun _ _ _ h => h
     · exact pz rfl rfl rfl rfl fun _ _ _ h => h
     · exact pzf Try.underlying118 rfl Try.sizeOf114 (2) rfl rfl rfl rfl rfl fun _ _ _ h => h
     ·
      intro D ρ w787 hcD hnD hdD hW
      obtain ⟨u788, B789⟩ := hW
      have zu788 := u788.size
      have d16 := hcD.late 16 hnD rfl
      have B791 := B789
      simp only [d16, cond_false] at B791
      refine ⟨_, kf_fr [136], fun Lr => ?_⟩
      have B792 := (B785.keep u788 (show ¬ (pv = (nth V.hl ((ee.to).toNat)).p) by first | omega | assumption))
      refine t_load Try.isAgg114 rfl rfl rfl (B792.get rfl) ?_
      exact dz rfl ⟨u788, B789⟩
     · exact pzf Try.underlying41 rfl Try.sizeOf3 (4) rfl rfl rfl rfl rfl fun _ _ _ h => h
     ·
      intro D ρ w793 hcD hnD hdD hW
      obtain ⟨u794, B795⟩ := hW
      have zu794 := u794.size
      have d16 := hcD.late 16 hnD rfl
      have B797 := B795
      simp only [d16, cond_false] at B797
      refine ⟨_, kf_fr [138], fun Lr => ?_⟩
      have B798 := (B29.keep u794 (show ¬ (bk7 = (nth V.hl ((ee.to).toNat)).p) by first | omega | assumption))
      refine t_load Try.isAgg3 rfl rfl rfl (B798.get rfl) ?_
      exact dz rfl ⟨u794, B795⟩
     ·
      intro D ρ w799 hcD hnD hdD hW
      obtain ⟨u800, B801⟩ := hW
      have zu800 := u800.size
      have d16 := hcD.late 16 hnD rfl
      have B803 := B801
      simp only [d16, cond_false] at B803
      refine ⟨_, kf_fr [137, 139], fun Lr => ?_⟩
      have D804 := (hpA.keep u800 (fun _ => show ¬ (V.pg = (nth V.hl ((ee.to).toNat)).p) by omega))
      have i805 : (ee.to).toNat < V.hl.length := (by omega)
      refine t_index (j := (ee.to).toNat) Try.underlying114 Try.sizeOf119 rfl rfl rfl rfl (D804.addr (by omega)) (by omega) i805 ?_
      exact dz rfl ⟨u800, B801⟩
     ·
      intro D ρ w806 hcD hnD hdD hW
      obtain ⟨u807, B808⟩ := hW
      have zu807 := u807.size
      have d16 := hcD.late 16 hnD rfl
      have B810 := B808
      simp only [d16, cond_false] at B810
      refine ⟨_, kf_fr [140], fun Lr => ?_⟩
      have D811 := (hpA.keep u807 (fun _ => show ¬ (V.pg = (nth V.hl ((ee.to).toNat)).p) by omega))
      refine t_load Try.isAgg119 rfl rfl rfl ((D811.at_ ((ee.to).toNat) (by omega)) 0 _ rfl) ?_
      exact dz rfl ⟨u807, B808⟩
     · exact pz rfl rfl rfl rfl fun _ _ _ h => h
     · exact pz rfl rfl rfl rfl fun _ _ _ h => h
     · exact pzf Try.underlying118 rfl Try.sizeOf115 (4) rfl rfl rfl rfl rfl fun _ _ _ h => h
     ·
      intro D ρ w812 hcD hnD hdD hW
      obtain ⟨u813, B814⟩ := hW
      have zu813 := u813.size
      have d16 := hcD.late 16 hnD rfl
      have B816 := B814
      simp only [d16, cond_false] at B816
      refine ⟨_, kf_fr [144], fun Lr => ?_⟩
      have B817 := (B785.keep u813 (show ¬ (pv = (nth V.hl ((ee.to).toNat)).p) by first | omega | assumption))
      refine t_load Try.isAgg115 rfl rfl rfl (B817.get rfl) ?_
      exact dz rfl ⟨u813, B814⟩
     · exact pzf Try.underlying41 rfl Try.sizeOf3 (7) rfl rfl rfl rfl rfl fun _ _ _ h => h
     · exact fun D ρ w818 hcD hnD hdD hW => ⟨_, kf_fr [146], fun Lr => t_load Try.isAgg3 rfl rfl rfl ((B29.keep hW.1 (show ¬ (bk7 = (nth V.hl ((ee.to).toNat)).p) by first | omega | assumption)).get rfl) (dz rfl hW)⟩
     · exact pz rfl rfl rfl rfl fun _ _ _ h => h
     · exact pzf Try.underlying122 rfl Try.sizeOf4 (3) rfl rfl rfl rfl rfl fun _ _ _ h => h
     ·
      intro D ρ w823 hcD hnD hdD hW
      obtain ⟨u824, B825⟩ := hW
      have zu824 := u824.size
      have B827 := B825
      simp only [hnD, cond_false] at B827
      refine ⟨_, kf_fr [149], fun Lr => ?_⟩
      refine t_store (vs := [.bool true]) Try.sizeOf4 rfl rfl rfl B827 rfl rfl (Nat.le_of_ble_eq_true rfl) (by simp [Value.oneCell']) (fun w828 sw828 B830 u829 => ?_)
      have zu829 := u829.size
      have B830 : Blk w828 (nth V.hl ((ee.to).toNat)).p 122 [.int .i64 ((nth V.hl ((ee.to).toNat)).hull), .int .i64 ((nth V.hl ((ee.to).toNat)).cap), .slice ((nth V.hl ((ee.to).toNat)).ao) ((nth V.hl ((ee.to).toNat)).xs.length) ((nth V.hl ((ee.to).toNat)).cp), .bool true] := B830
      exact dz0 rfl ⟨(u824.next u829 (fun i hi (h : i = (nth V.hl ((ee.to).toNat)).p) => show i = (nth V.hl ((ee.to).toNat)).p by first | omega | assumption)), (by show Blk w828 (nth V.hl ((ee.to).toNat)).p 122 [.int .i64 ((nth V.hl ((ee.to).toNat)).hull), .int .i64 ((nth V.hl ((ee.to).toNat)).cap), .slice ((nth V.hl ((ee.to).toNat)).ao) ((nth V.hl ((ee.to).toNat)).xs.length) ((nth V.hl ((ee.to).toNat)).cp), .bool true]; exact B830)⟩
     intro ρ w832 hW
     obtain ⟨u833, B834⟩ := hW
     have zu833 := u833.size
     have E835 := E27.next u833 (fun i hi (h : i = (nth V.hl ((ee.to).toNat)).p) => show base ≤ i by first | omega | assumption)
     have B834 : Blk w832 (nth V.hl ((ee.to).toNat)).p 122 [.int .i64 ((nth V.hl ((ee.to).toNat)).hull), .int .i64 ((nth V.hl ((ee.to).toNat)).cap), .slice ((nth V.hl ((ee.to).toNat)).ao) ((nth V.hl ((ee.to).toNat)).xs.length) ((nth V.hl ((ee.to).toNat)).cp), .bool true] := B834
     refine t_weak [(145, .map (some V.r)), (147, .int .i64 ee.sn)] ⟨rfl, rfl, trivial⟩ ?_
     have hv2 : Voy base pv w832 (VG.setH { V with mi := ee.minute } ((ee.to).toNat) { nth V.hl ((ee.to).toNat) with sealed := true }) := (hv1.setSd hti (s := true) ((((Upd.refl (fun i => i = (nth V.hl ((ee.to).toNat)).p) w14).next u22 (fun _ _ h => h.elim)).next u25 (fun i hi (h : i = bk19) => show i = (nth V.hl ((ee.to).toNat)).p by first | omega | assumption)).next u833 (fun i hi (h : i = (nth V.hl ((ee.to).toNat)).p) => show i = (nth V.hl ((ee.to).toNat)).p by first | omega | assumption)) B834)
     refine t_entryI Try.underlying3 Try.underlying115 Try.zeroValue4 rfl rfl rfl rfl hv2.seals hsn (fun bb9 w836 sw836 M838 u837 => ?_)
     have zu837 := u837.size
     have E839 := E835.next u837 (fun i hi (h : i = V.r) => show base ≤ i by first | omega | assumption)
     refine t_extract (vs := [.bool false, goInt bb9]) rfl rfl rfl rfl (t_enterI rfl rfl rfl rfl M838 (fun w840 sw840 M842 u841 => ?_))
     have zu841 := u841.size
     have E843 := E839.next u841 (fun i hi (h : i = V.r) => show base ≤ i by first | omega | assumption)
     refine t_nil' ?_
     have hvF := hv2.setS (((Upd.refl (fun i => i = V.r) w832).next u837 (fun i hi (h : i = V.r) => show i = V.r by first | omega | assumption)).next u841 (fun i hi (h : i = V.r) => show i = V.r by first | omega | assumption)) M842
     have hFin := fin4 (n := n) g132 hti
     have hmkE := (show Marks w0.heap.size [] w840 from trivial)
     refine f_retMc0  Try.results74  (show Marks w0.heap.size [] w840 from trivial) (fun w844 u845 omw844 => ?_)
     have zu845 := u845.size
     have E846 := E843.next u845 (fun i hi (h : w0.heap.size ≤ i) => show base ≤ i by first | omega | assumption)
     exact ⟨⟨_, hvF.marks hmkE u845 omw844 hrlt hb0, hFin⟩, E846⟩
    ·
     refine c_seq fun K847 hK847 => (c_region (t_cmp rfl rfl rfl rfl rfl (t_assign rfl rfl rfl (t_nil' (hK847 _ _ (c_condp rfl (fun g152 => ?_) (fun g152 => ?_)))))))
     ·
      have uF : useF ee = true := by simp [useF, g152]
      have hfi := hc.frm uF
      rw [List.length_map] at hfi
      have lF0 := (hv.hold _ (nth_mem hfi)).blk.lt
      have lgF0 := (hv.hold _ (nth_mem hfi)).lays.acc.lt
      have hpF := (hv.hold _ (nth_mem hfi)).pge
      have hH : HoldM base w24 V.lb (nth V.hl ((ee.frm).toNat)) := (hv1.ext (((Upd.refl (fun _ => False) w14).next u22 (fun _ _ h => h.elim)).next u25 (fun i hi (h : i = bk19) => show False by first | omega | assumption))).hold _ (nth_mem hfi)
      have B848 := ((B16.keep u22 (fun h => h)).keep u25 (show ¬ (pv = bk19) by first | omega | assumption))
      refine WC.weak [(0, .pointer (some ⟨pv, 0, none⟩)), (5, .pointer (some ⟨bk7, 0, none⟩))] ⟨rfl, rfl, trivial⟩ (c_drawnS follows 11 8 [some (154, some (.pointer (some ⟨pv, 0, none⟩))), some (155, some (.pointer (some ⟨pv, 0, none⟩))), some (156, some (.pointer (some ⟨pv, 2, none⟩))), some (157, some (.slice V.pa V.hl.length V.pc)), some (158, some (.pointer (some ⟨bk7, 3, none⟩))), some (159, some (.int .i64 ee.frm)), some (160, some (.pointer (some ⟨V.pg, 0 + (ee.frm).toNat * 1, none⟩))), some (161, some (.pointer (some ⟨(nth V.hl ((ee.frm).toNat)).p, 0, none⟩)))] [[],[0],[1],[2],[],[4],[3,5],[6],[7,0,1,2,3,4,5,6,7],[8,0,1,2,3,4,5,6,7],[9,0,1,2,3,4,5,6,7]] (fun _ _ w => Upd (fun _ => False) w24 w) rfl rfl rfl rfl (by kernel_rfl) (by kernel_rfl) (by kernel_rfl) (Upd.drew _).to ⟨?_, ?_, ?_, ?_, ?_, ?_, ?_, ?_, trivial⟩ ?_)
      · exact pz rfl rfl rfl rfl fun _ _ _ h => h
      · exact pz rfl rfl rfl rfl fun _ _ _ h => h
      · exact pzf Try.underlying118 rfl Try.sizeOf114 (2) rfl rfl rfl rfl rfl fun _ _ _ h => h
      ·
       intro D ρ w850 hcD hnD hdD hW
       have zhW := hW.size
       refine ⟨_, kf_fr [156], fun Lr => ?_⟩
       have B853 := (B848.keep hW (fun h => h))
       refine t_load Try.isAgg114 rfl rfl rfl (B853.get rfl) ?_
       exact dz rfl hW
      · exact pzf Try.underlying41 rfl Try.sizeOf3 (3) rfl rfl rfl rfl rfl fun _ _ _ h => h
      ·
       intro D ρ w854 hcD hnD hdD hW
       have zhW := hW.size
       refine ⟨_, kf_fr [158], fun Lr => ?_⟩
       have B857 := (B29.keep hW (fun h => h))
       refine t_load Try.isAgg3 rfl rfl rfl (B857.get rfl) ?_
       exact dz rfl hW
      ·
       intro D ρ w858 hcD hnD hdD hW
       have zhW := hW.size
       refine ⟨_, kf_fr [157, 159], fun Lr => ?_⟩
       have i861 : (ee.frm).toNat < V.hl.length := (by omega)
       refine t_index (j := (ee.frm).toNat) Try.underlying114 Try.sizeOf119 rfl rfl rfl rfl ((show Sl encPt 1 _ V.pa V.pg 0 V.hl from ((hv1.ext ((((Upd.refl (fun _ => False) w14).next u22 (fun _ _ h => h.elim)).next u25 (fun i hi (h : i = bk19) => show False by first | omega | assumption)).next hW (fun _ _ h => h.elim)))).pacc.sl (fun _ => rfl)).addr (by omega)) (by omega) i861 ?_
       exact dz rfl hW
      ·
       intro D ρ w862 hcD hnD hdD hW
       have zhW := hW.size
       refine ⟨_, kf_fr [160], fun Lr => ?_⟩
       refine t_load Try.isAgg119 rfl rfl rfl (((show Sl encPt 1 _ V.pa V.pg 0 V.hl from ((hv1.ext ((((Upd.refl (fun _ => False) w14).next u22 (fun _ _ h => h.elim)).next u25 (fun i hi (h : i = bk19) => show False by first | omega | assumption)).next hW (fun _ _ h => h.elim)))).pacc.sl (fun _ => rfl)).at_ ((ee.frm).toNat) (by omega)) 0 _ rfl) ?_
       exact dz rfl hW
      intro ρ w865 hW
      have u866 : Upd (fun _ => False) w24 w865 := hW
      have zu866 := u866.size
      have E867 := E27.next u866 (fun _ _ h => h.elim)
      refine t_weak [(161, .pointer (some ⟨(nth V.hl ((ee.frm).toNat)).p, 0, none⟩))] ⟨rfl, trivial⟩ (t_nilchk rfl rfl rfl (t_field Try.underlying122 rfl Try.sizeOf4 (3) rfl rfl rfl rfl ?_))
      have B868 := (hH.blk.keep u866 (fun h => h))
      refine t_store (vs := [.bool false]) Try.sizeOf4 rfl rfl rfl B868 rfl rfl (Nat.le_of_ble_eq_true rfl) (by simp [Value.oneCell']) (fun w869 sw869 B871 u870 => ?_)
      have zu870 := u870.size
      have E872 := E867.next u870 (fun i hi (h : i = (nth V.hl ((ee.frm).toNat)).p) => show base ≤ i by first | omega | assumption)
      have B871 : Blk w869 (nth V.hl ((ee.frm).toNat)).p 122 [.int .i64 ((nth V.hl ((ee.frm).toNat)).hull), .int .i64 ((nth V.hl ((ee.frm).toNat)).cap), .slice ((nth V.hl ((ee.frm).toNat)).ao) ((nth V.hl ((ee.frm).toNat)).xs.length) ((nth V.hl ((ee.frm).toNat)).cp), .bool false] := B871
      refine t_nil' ?_
      have hvF := hv1.setSd hfi (s := false) (((((Upd.refl (fun i => i = (nth V.hl ((ee.frm).toNat)).p) w14).next u22 (fun _ _ h => h.elim)).next u25 (fun i hi (h : i = bk19) => show i = (nth V.hl ((ee.frm).toNat)).p by first | omega | assumption)).next u866 (fun _ _ h => h.elim)).next u870 (fun i hi (h : i = (nth V.hl ((ee.frm).toNat)).p) => show i = (nth V.hl ((ee.frm).toNat)).p by first | omega | assumption)) B871
      have hFin := fin5 (n := n) g152 hfi
      have hmkE := (show Marks w0.heap.size [] w869 from trivial)
      refine f_retMc0  Try.results74  (show Marks w0.heap.size [] w869 from trivial) (fun w873 u874 omw873 => ?_)
      have zu874 := u874.size
      have E875 := E872.next u874 (fun i hi (h : w0.heap.size ≤ i) => show base ≤ i by first | omega | assumption)
      exact ⟨⟨_, hvF.marks hmkE u874 omw873 hrlt hb0, hFin⟩, E875⟩
     ·
      exfalso
      have hkr := (okEv_rng hx).2.2.2.2.2.1
      omega

end Go.Proofs.Ytgkkgpenmppjcaa
