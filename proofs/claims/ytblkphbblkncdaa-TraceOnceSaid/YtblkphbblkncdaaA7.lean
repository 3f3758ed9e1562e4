/-
  A voyage in memory; check. Conditions: none.
-/
import Derived.Test.YtblkphbblkncdaaA2
import Derived.Test.YtblkphbblkncdaaSeb
namespace Go.Proofs.Ytblkphbblkncdaa
open Go Go.RowKit

/-- A hold in memory. -/
structure HG where
  p : Nat
  hull : Int
  cap : Int
  ao : Option Addr
  g : Nat
  cp : Nat
  xs : List HLay
  sealed : Bool
instance : Inhabited HG := ⟨⟨default, default, default, default, default, default, default, default⟩⟩
def HG.cells (h : HG) : List Value := [.int .i64 h.hull, .int .i64 h.cap, .slice h.ao h.xs.length h.cp, .bool h.sealed]
def encPt (h : HG) : List Value := [.pointer (some ⟨h.p, 0, none⟩)]
/-- A landing in memory. -/
structure LG where
  ev : Int
  port : Int
  ao : Option Addr
  g : Nat
  cp : Nat
  xs : List HLay
instance : Inhabited LG := ⟨⟨default, default, default, default, default, default⟩⟩
def encLG (x : LG) : List Value := [.int .i64 x.ev, .int .i64 x.port, .slice x.ao x.xs.length x.cp]
/-- A voyage in memory. -/
structure VG where
  bs : List Bil
  ab : Option Addr
  bb : Nat
  ob : Nat
  cb : Nat
  hs : List Hld
  ah : Option Addr
  ch : Nat
  hl : List HG
  pa : Option Addr
  pg : Nat
  pc : Nat
  ls : List Int
  lb : Nat
  sl : List Int
  r : Nat
  ld : List LG
  da : Option Addr
  dg : Nat
  dc : Nat
  mi : Int
instance : Inhabited VG := ⟨⟨default, default, default, default, default, default, default, default, default, default, default, default, default, default, default, default, default, default, default, default, default⟩⟩
def VG.cells (V : VG) : List Value := [.slice V.ab V.bs.length V.cb, .slice V.ah V.hs.length V.ch, .slice V.pa V.hl.length V.pc, .slice (some ⟨V.lb, 0, none⟩) V.ls.length V.ls.length, .map (some V.r), .slice V.da V.ld.length V.dc, .int .i64 V.mi]
def PathM (base : Nat) (w : World) (lb : Nat) (x : HLay) : Prop := Acc encI 1 3 base w x.ao x.b x.cap x.v.path ∧ (base ≤ x.b → x.b ≠ lb)
theorem PathM.keep {base : Nat} {w w' : World} {lb : Nat} {x : HLay} {S : Nat → Prop} (h : PathM base w lb x) (u : Upd S w w') (hn : base ≤ x.b → ¬ S x.b) : PathM base w' lb x := ⟨h.1.keep u hn, h.2⟩
/-- Layers in memory. -/
structure LaysM (base : Nat) (w : World) (lb : Nat) (ao : Option Addr) (g cp : Nat) (xs : List HLay) : Prop where
  acc : Acc encHLay 3 97 base w ao g cp xs
  path : ∀ x ∈ xs, PathM base w lb x
structure HoldM (base : Nat) (w : World) (lb : Nat) (h : HG) : Prop where
  blk : Blk w h.p 122 h.cells
  pge : base ≤ h.p
  lays : LaysM base w lb h.ao h.g h.cp h.xs
/-- A voyage lies in memory, all of it from base on. -/
structure Voy (base pv : Nat) (w : World) (V : VG) : Prop where
  pge : base ≤ pv
  blk : Blk w pv 118 V.cells
  bil : Sl encBil 3 w V.ab V.bb V.ob V.bs
  bold : 0 < V.bs.length → V.bb < base
  pacc : Acc encPt 1 119 base w V.pa V.pg V.pc V.hl
  hold : ∀ h ∈ V.hl, HoldM base w V.lb h
  pne : ∀ i j, i < j → j < V.hl.length → (nth V.hl i).p ≠ (nth V.hl j).p
  gne : ∀ i j, i < j → j < V.hl.length → base ≤ (nth V.hl i).g → (nth V.hl i).g ≠ (nth V.hl j).g
  lblk : Blk w V.lb 3 (V.ls.map (Value.int .i64))
  lge : base ≤ V.lb
  seals : SetB V.sl w V.r
  rge : base ≤ V.r
  dacc : Acc encLG 3 125 base w V.da V.dg V.dc V.ld
  land : ∀ x ∈ V.ld, LaysM base w V.lb x.ao x.g x.cp x.xs
  lne : ∀ x ∈ V.ld, ∀ h ∈ V.hl, base ≤ h.g → h.g ≠ x.g
theorem LaysM.keep {base : Nat} {w w' : World} {lb : Nat} {ao : Option Addr} {g cp : Nat} {xs : List HLay} {S : Nat → Prop} (h : LaysM base w lb ao g cp xs) (u : Upd S w w') (hg : base ≤ g → ¬ S g) (hp : ∀ x ∈ xs, base ≤ x.b → ¬ S x.b) : LaysM base w' lb ao g cp xs :=
  ⟨h.acc.keep u hg, fun x hx => (h.path x hx).keep u (hp x hx)⟩
theorem HoldM.keep {base : Nat} {w w' : World} {lb : Nat} {h : HG} {S : Nat → Prop} (h1 : HoldM base w lb h) (u : Upd S w w') (hq : ¬ S h.p) (hg : base ≤ h.g → ¬ S h.g) (hp : ∀ x ∈ h.xs, base ≤ x.b → ¬ S x.b) : HoldM base w' lb h :=
  ⟨h1.blk.keep u hq, h1.pge, h1.lays.keep u hg hp⟩
/-- Nothing of a voyage has turned. -/
theorem Voy.ext {base pv : Nat} {w w' : World} {V : VG} (h : Voy base pv w V) (u : Ext w w') : Voy base pv w' V :=
  ⟨h.pge, h.blk.keep u id, h.bil.keep u (fun _ h => h), h.bold, h.pacc.keep u (fun _ h => h), fun x hx => (h.hold x hx).keep u id (fun _ h => h) (fun _ _ _ h => h), h.pne, h.gne, h.lblk.keep u id, h.lge, h.seals.keep u id, h.rge, h.dacc.keep u (fun _ h => h), fun x hx => (h.land x hx).keep u (fun _ h => h) (fun _ _ _ h => h), h.lne⟩
def c2 (V : VG) (x : Ev) : Bool := (useF x && decide ((V.hl.length : Int) ≤ x.frm)) || (useT x && decide ((V.hl.length : Int) ≤ x.to)) || (decide (x.kind = 1) && decide ((V.bs.length : Int) ≤ x.bill))
def c3 (x : Ev) : Bool := useF x && useT x && decide (x.frm = x.to)
def c4 (V : VG) (x : Ev) : Bool := (useF x && ((nth V.hl (x.frm).toNat).sealed != decide (x.kind = 5))) || (useT x && (nth V.hl (x.to).toNat).sealed)
def c5 (V : VG) (x : Ev) : Bool := useF x && decide (sumT ((nth V.hl (x.frm).toNat).xs.map HLay.v) < x.tons)
def c6 (V : VG) (x : Ev) : Bool := useT x && decide ((nth V.hl (x.to).toNat).cap < sumT ((nth V.hl (x.to).toNat).xs.map HLay.v) + x.tons) && decide (0 < x.tons)
/-- What check returns. -/
def chkK (V : VG) (x : Ev) : Int :=
  if x.kind = 1 then (if x.port ≠ (nth V.bs (x.bill).toNat).frm then 9 else if (nth V.bs (x.bill).toNat).tons < nth V.ls (x.bill).toNat + x.tons then 6 else 0) else if x.kind = 4 ∧ x.sn ∈ V.sl then 6 else 0
def chkV (V : VG) (x : Ev) : Int :=
  if x.minute < V.mi then 9 else if c2 V x = true then 7 else if c3 x = true then 6 else if c4 V x = true then 9 else if chkK V x ≠ 0 then chkK V x else if c5 V x = true then 3 else if c6 V x = true then 8 else 0
/-- A landing: its event, its port, its parts. -/
structure Lnd where
  ev : Int
  port : Int
  parts : List Lay
instance : Inhabited Lnd := ⟨⟨default, default, default⟩⟩
/-- What has happened: the layers of each hold, which holds are sealed, what was landed, how many tons of each bill were loaded, the seals. -/
structure Stt where
  hold : List (List Lay)
  sealed : List Bool
  landed : List Lnd
  loaded : List Int
  seals : List Int
instance : Inhabited Stt := ⟨⟨default, default, default, default, default⟩⟩
def VG.st (V : VG) : Stt := ⟨V.hl.map (fun h => h.xs.map HLay.v), V.hl.map HG.sealed, V.ld.map (fun l => ⟨l.ev, l.port, l.xs.map HLay.v⟩), V.ls, V.sl⟩
def LayOk (n : Nat) (x : Lay) : Prop := 1 ≤ x.tons ∧ x.tons ≤ 1000000 ∧ x.path.length ≤ n
/-- What is known of the numbers, after n events. -/
structure StOk (bs : List Bil) (caps : List Int) (n : Nat) (S : Stt) : Prop where
  hn : S.hold.length = caps.length
  h20 : caps.length ≤ 20
  sn : S.sealed.length = caps.length
  bn : bs.length ≤ 30
  lsn : S.loaded.length = bs.length
  bil : ∀ b ∈ bs, okBil b = true
  cap : ∀ i, i < caps.length → (0 ≤ nth caps i ∧ nth caps i ≤ 1000000) ∧ sumT (nth S.hold i) ≤ nth caps i
  tons : ∀ l ∈ S.hold, ∀ x ∈ l, LayOk n x
  ldn : S.landed.length ≤ n
  ldt : ∀ l ∈ S.landed, (∀ x ∈ l.parts, LayOk n x) ∧ sumT l.parts ≤ 1000000 ∧ (0 ≤ l.ev ∧ l.ev < n) ∧ (0 ≤ l.port ∧ l.port ≤ 99)
  lsr : ∀ i, i < S.loaded.length → 0 ≤ nth S.loaded i ∧ nth S.loaded i ≤ (nth bs i).tons
structure VOk (n : Nat) (V : VG) : Prop where
  ok : StOk V.bs (V.hl.map HG.cap) n V.st
  mi : 0 ≤ V.mi ∧ V.mi ≤ 1000000
theorem sumT_len {l : List Lay} (h : ∀ x ∈ l, 1 ≤ x.tons) : (l.length : Int) ≤ sumT l := by
  induction l with
  | nil => simp [sumT]
  | cons a l ih =>
    have h1 := ih (fun x hx => h x (by simp [hx]))
    have h2 := h a (by simp)
    rw [List.length_cons, sumT]; omega
theorem nth_map {α β : Type} [Inhabited α] [Inhabited β] (f : α → β) {xs : List α} {i : Nat} (h : i < xs.length) : nth (xs.map f) i = f (nth xs i) := by
  rw [nth_eq (by simpa using h), nth_eq h]; simp
theorem VOk.hn {n : Nat} {V : VG} (h : VOk n V) : V.hl.length ≤ 20 := by have := h.ok.h20; rwa [List.length_map] at this
theorem VOk.lsn {n : Nat} {V : VG} (h : VOk n V) : V.ls.length = V.bs.length := h.ok.lsn
theorem VOk.bil {n : Nat} {V : VG} (h : VOk n V) : ∀ b ∈ V.bs, okBil b = true := h.ok.bil
theorem VOk.lsr {n : Nat} {V : VG} (h : VOk n V) : ∀ i, i < V.ls.length → 0 ≤ nth V.ls i ∧ nth V.ls i ≤ (nth V.bs i).tons := h.ok.lsr
theorem VOk.tons {n : Nat} {V : VG} (h : VOk n V) {q : HG} (hq : q ∈ V.hl) {x : HLay} (hx : x ∈ q.xs) : LayOk n x.v := h.ok.tons _ (List.mem_map.2 ⟨q, hq, rfl⟩) _ (List.mem_map.2 ⟨x, hx, rfl⟩)
theorem VOk.cap {n : Nat} {V : VG} (h : VOk n V) {q : HG} (hq : q ∈ V.hl) : (0 ≤ q.cap ∧ q.cap ≤ 1000000) ∧ sumT (q.xs.map HLay.v) ≤ q.cap := by
  obtain ⟨i, hi, rfl⟩ := List.mem_iff_getElem.1 hq
  have h1 := h.ok.cap i (by simpa using hi)
  have h2 : nth V.st.hold i = (nth V.hl i).xs.map HLay.v := nth_map (fun h : HG => h.xs.map HLay.v) hi
  rw [nth_map HG.cap hi, h2] at h1
  rw [← nth_eq hi]; exact h1
theorem VOk.few {n : Nat} {V : VG} (h : VOk n V) {q : HG} (hq : q ∈ V.hl) : q.xs.length ≤ 1000000 ∧ (∀ x ∈ q.xs, 0 ≤ x.v.tons ∧ x.v.tons ≤ 1000000) ∧ 0 ≤ sumT (q.xs.map HLay.v) ∧ sumT (q.xs.map HLay.v) ≤ 1000000 ∧ 0 ≤ q.cap ∧ q.cap ≤ 1000000 ∧ (q.xs.length : Int) ≤ sumT (q.xs.map HLay.v) := by
  have h1 := h.cap hq
  have h3 : ((q.xs.map HLay.v).length : Int) ≤ sumT (q.xs.map HLay.v) := sumT_len (fun y hy => by obtain ⟨x, hx, rfl⟩ := List.mem_map.1 hy; exact (h.tons hq hx).1)
  rw [List.length_map] at h3
  refine ⟨by omega, fun x hx => ?_, by omega, by omega, by omega, by omega, h3⟩
  have := h.tons hq hx
  unfold LayOk at this; omega
theorem VOk.fewL {n : Nat} {V : VG} (h : VOk n V) {q : LG} (hq : q ∈ V.ld) : q.xs.length ≤ 1000000 ∧ (∀ x ∈ q.xs, 0 ≤ x.v.tons ∧ x.v.tons ≤ 1000000) ∧ 0 ≤ sumT (q.xs.map HLay.v) ∧ sumT (q.xs.map HLay.v) ≤ 1000000 ∧ (0 ≤ q.ev ∧ q.ev < n) ∧ (0 ≤ q.port ∧ q.port ≤ 99) := by
  have h2 := h.ok.ldt ⟨q.ev, q.port, q.xs.map HLay.v⟩ (List.mem_map.2 ⟨q, hq, rfl⟩)
  have h3 : ((q.xs.map HLay.v).length : Int) ≤ sumT (q.xs.map HLay.v) := sumT_len (fun y hy => (h2.1 y hy).1)
  rw [List.length_map] at h3
  have h4 := h2.2
  simp only [] at h4
  refine ⟨by omega, fun x hx => ?_, by omega, by omega, h4.2⟩
  have := h2.1 x.v (List.mem_map.2 ⟨x, hx, rfl⟩)
  unfold LayOk at this; omega
theorem okEv_rng {x : Ev} (h : okEv x = true) : (0 ≤ x.minute ∧ x.minute ≤ 1000000) ∧ 0 ≤ x.bill ∧ 0 ≤ x.frm ∧ 0 ≤ x.to ∧ (0 ≤ x.tons ∧ x.tons ≤ 1000000) ∧ (1 ≤ x.kind ∧ x.kind ≤ 5) ∧ (x.kind ≤ 3 → 1 ≤ x.tons) ∧ (3 < x.kind → x.tons = 0) ∧ (x.kind = 3 → 0 ≤ x.port ∧ x.port ≤ 99) := by
  simp only [okEv, okEv0, okTons, okPort, Bool.and_eq_true, Bool.or_eq_true, decide_eq_true_eq] at h
  omega

theorem own73 : Own Try.prog 73 := ⟨Try.f73, Try.func73, by kernel_rfl, by kernel_rfl⟩

set_option maxHeartbeats 4000000 in
theorem check_c (base pv n : Nat) (V : VG) (x : Ev) (w0 : World) (hv : Voy base pv w0 V) (hvo : VOk n V) (hx : okEv x = true) :
    CallsV Try.prog 73 [.pointer (some ⟨pv, 0, none⟩), .agg #[.int .i64 x.kind, .int .i64 x.minute, .int .i64 x.bill, .int .i64 x.frm, .int .i64 x.to, .int .i64 x.tons, .int .i64 x.port, .int .i64 x.sn]] w0 (fun v w' => v = .int .i64 (chkV V x) ∧ Ext w0 w') := by
 have hpb := hv.blk
 have hxr := okEv_rng hx
 have hmi := hvo.mi
 have hn20 := hvo.hn
 have hlsn := hvo.lsn
 refine f_enter (N := 204) Try.func73 rfl rfl rfl (c_seq fun K1 hK1 => (c_region (t_box (cs := [.int .i64 x.kind, .int .i64 x.minute, .int .i64 x.bill, .int .i64 x.frm, .int .i64 x.to, .int .i64 x.tons, .int .i64 x.port, .int .i64 x.sn]) rfl rfl rfl rfl (fun bk2 w3 ebk2 sbk2 B4 u5 => ?_))))
 have zu5 := u5.size
 refine t_assign rfl rfl rfl (t_nil' (hK1 _ _ (c_seq fun K7 hK7 => (c_region (t_loadN (vs := [.int .i64 x.kind, .int .i64 x.minute, .int .i64 x.bill, .int .i64 x.frm, .int .i64 x.to, .int .i64 x.tons, .int .i64 x.port, .int .i64 x.sn]) Try.isAgg41 Try.sizeOf41 rfl rfl rfl (B4.at.sub 0 8) rfl (t_call own85 rfl rfl rfl rfl (uses_c x _) (fun v8 w9 r11 => ?_)))))))
 obtain ⟨rfl, u10⟩ := r11
 have zu10 := u10.size
 have E12 := ((Upd.refl (fun _ => False) w0).nx u5).nx u10
 refine t_move rfl rfl rfl (t_extract rfl rfl rfl rfl (t_extract rfl rfl rfl rfl (t_assign rfl rfl rfl (t_assign rfl rfl rfl (t_nil' (hK7 _ _ (c_cut (γ := Unit) (fun _x => [(0, .pointer (some ⟨pv, 0, none⟩)), (3, .pointer (some ⟨bk2, 0, none⟩)), (5, .bool (useF x)), (6, .bool (useT x))]) (fun _x w => Upd (fun _ => False) w9 w ∧ (¬ x.minute < V.mi ∧ c2 V x = false ∧ c3 x = false ∧ c4 V x = false)) (fun K14 hK14 => ?_) ?_)))))))
 ·
  refine c_block (c_seq fun K17 hK17 => (c_drawnQ follows (by kernel_rfl) (p_field Try.underlying41 rfl Try.sizeOf3 (1) rfl rfl rfl rfl ?_)))
  have B20 := (B4.kx u10)
  refine p_load Try.isAgg3 rfl rfl rfl (B20.get rfl) (p_move rfl rfl rfl (p_nilchk rfl rfl rfl (p_field Try.underlying118 rfl Try.sizeOf3 (6) rfl rfl rfl rfl ?_)))
  have B21 := ((hpb.kx u5).kx u10)
  refine p_load Try.isAgg3 rfl rfl rfl (B21.get rfl) (p_cmp rfl rfl rfl rfl rfl (p_assign rfl rfl rfl (p_nil fun w22 u23 => ?_)))
  have zu23 := u23.size
  have E24 := E12.nx u23
  refine t_nil' (hK17 _ _ (c_condp rfl (fun g12 => ?_) (fun g12 => ?_)))
  ·
   refine c_seq fun K25 hK25 => (c_region (t_assign rfl rfl rfl (t_nil' (hK25 _ _ (c_ret (f_ret1 (v := .int .i64 9) Try.results73 rfl ?_))))))
   exact ⟨congrArg (Value.int .i64) (by unfold chkV; rw [if_pos g12]), E24⟩
  refine c_cut (γ := Unit) (fun _x => [(0, .pointer (some ⟨pv, 0, none⟩)), (3, .pointer (some ⟨bk2, 0, none⟩)), (5, .bool (useF x)), (6, .bool (useT x)), (20, .bool (c2 V x))]) (fun _x w => Upd (fun _ => False) w22 w) (fun K27 hK27 => ?_) ?_
  ·
   refine c_seq fun K30 hK30 => (c_drawnQ follows (by kernel_rfl) (p_move rfl rfl rfl (p_move rfl rfl rfl (p_split 22 rfl (fun g22 => ?_) (fun g22 => ?_)))))
   ·
    refine p_field Try.underlying41 rfl Try.sizeOf3 (3) rfl rfl rfl rfl ?_
    have B33 := (B20.kx u23)
    refine p_load Try.isAgg3 rfl rfl rfl (B33.get rfl) (p_move rfl rfl rfl (p_nilchk rfl rfl rfl (p_field Try.underlying118 rfl Try.sizeOf114 (2) rfl rfl rfl rfl ?_)))
    have B34 := (B21.kx u23)
    refine p_load Try.isAgg114 rfl rfl rfl (B34.get rfl) (p_len Try.underlying114 rfl rfl rfl rfl (p_cmp rfl rfl rfl rfl rfl (p_pick_t rfl rfl rfl rfl (p_assign rfl rfl rfl (p_nil fun w35 u36 => ?_)))))
    have zu36 := u36.size
    refine t_nil' (hK30 _ _ (c_condp rfl (fun g20 => ?_) (fun g20 => ?_)))
    ·
     refine c_skip ?_
     exact hK27 () _ _ ⟨rfl, rfl, rfl, rfl, (congrArg some (congrArg Value.bool (by first | (simp [c2, *]; done) | simp_all [c2]))), trivial⟩ ((Upd.refl _ _).next u36 (fun _ _ h => h.elim))
    refine c_seq fun K38 hK38 => (c_drawnQ follows (by kernel_rfl) (p_move rfl rfl rfl (p_move rfl rfl rfl (p_split 33 rfl (fun g33 => ?_) (fun g33 => ?_)))))
    ·
     refine p_field Try.underlying41 rfl Try.sizeOf3 (4) rfl rfl rfl rfl ?_
     have B41 := (B33.kx u36)
     refine p_load Try.isAgg3 rfl rfl rfl (B41.get rfl) (p_move rfl rfl rfl (p_nilchk rfl rfl rfl (p_field Try.underlying118 rfl Try.sizeOf114 (2) rfl rfl rfl rfl ?_)))
     have B42 := (B34.kx u36)
     refine p_load Try.isAgg114 rfl rfl rfl (B42.get rfl) (p_len Try.underlying114 rfl rfl rfl rfl (p_cmp rfl rfl rfl rfl rfl (p_pick_t rfl rfl rfl rfl (p_assign rfl rfl rfl (p_nil fun w43 u44 => ?_)))))
     have zu44 := u44.size
     refine t_nil' (hK38 _ _ (c_condp rfl (fun g20 => ?_) (fun g20 => ?_)))
     ·
      refine c_skip ?_
      exact hK27 () _ _ ⟨rfl, rfl, rfl, rfl, (congrArg some (congrArg Value.bool (by first | (simp [c2, *]; done) | simp_all [c2]))), trivial⟩ (((Upd.refl _ _).next u36 (fun _ _ h => h.elim)).next u44 (fun _ _ h => h.elim))
     refine c_drawnQ follows (by kernel_rfl) (p_field Try.underlying41 rfl Try.sizeOf39 (0) rfl rfl rfl rfl ?_)
     have B48 := (B41.kx u44)
     refine p_load Try.isAgg39 rfl rfl rfl (B48.get rfl) (p_cmp rfl rfl rfl rfl rfl (p_move rfl rfl rfl (p_splitp 46 rfl (fun g46 => ?_) (fun g46 => ?_))))
     ·
      refine p_field Try.underlying41 rfl Try.sizeOf3 (2) rfl rfl rfl rfl (p_load Try.isAgg3 rfl rfl rfl (B48.get rfl) (p_move rfl rfl rfl (p_nilchk rfl rfl rfl (p_field Try.underlying118 rfl Try.sizeOf25 (0) rfl rfl rfl rfl (p_field Try.underlying25 rfl Try.sizeOf22 (0) rfl rfl rfl rfl ?_)))))
      have B49 := (B42.kx u44)
      refine p_load Try.isAgg22 rfl rfl rfl (B49.get rfl) (p_len Try.underlying22 rfl rfl rfl rfl (p_cmp rfl rfl rfl rfl rfl (p_pick_t rfl rfl rfl rfl (p_assign rfl rfl rfl (p_nil fun w50 u51 => ?_)))))
      have zu51 := u51.size
      refine t_nil' ?_
      exact hK27 () _ _ ⟨rfl, rfl, rfl, rfl, (congrArg some (congrArg Value.bool (by first | (simp [c2, *]; done) | simp_all [c2]))), trivial⟩ ((((Upd.refl _ _).next u36 (fun _ _ h => h.elim)).next u44 (fun _ _ h => h.elim)).next u51 (fun _ _ h => h.elim))
     refine p_skip rfl rfl rfl (p_skip rfl rfl rfl (p_skip rfl rfl rfl (p_skip rfl rfl rfl (p_skip rfl rfl rfl (p_skip rfl rfl rfl (p_skip rfl rfl rfl (p_skip rfl rfl rfl (p_skip rfl rfl rfl (p_pick_f rfl rfl rfl rfl (p_assign rfl rfl rfl (p_nil fun w53 u54 => ?_)))))))))))
     have zu54 := u54.size
     refine t_nil' ?_
     exact hK27 () _ _ ⟨rfl, rfl, rfl, rfl, (congrArg some (congrArg Value.bool (by first | (simp [c2, *]; done) | simp_all [c2]))), trivial⟩ ((((Upd.refl _ _).next u36 (fun _ _ h => h.elim)).next u44 (fun _ _ h => h.elim)).next u54 (fun _ _ h => h.elim))
    refine p_skip rfl rfl rfl (p_skip rfl rfl rfl (p_skip rfl rfl rfl (p_skip rfl rfl rfl (p_skip rfl rfl rfl (p_skip rfl rfl rfl (p_skip rfl rfl rfl (p_skip rfl rfl rfl (p_pick_f rfl rfl rfl rfl (p_assign rfl rfl rfl (p_nil fun w56 u57 => ?_))))))))))
    have zu57 := u57.size
    refine t_nil' (hK38 _ _ (c_cond_f rfl (c_drawnQ follows (by kernel_rfl) (p_field Try.underlying41 rfl Try.sizeOf39 (0) rfl rfl rfl rfl ?_))))
    have B61 := ((B33.kx u36).kx u57)
    refine p_load Try.isAgg39 rfl rfl rfl (B61.get rfl) (p_cmp rfl rfl rfl rfl rfl (p_move rfl rfl rfl (p_splitp 46 rfl (fun g46 => ?_) (fun g46 => ?_))))
    ·
     refine p_field Try.underlying41 rfl Try.sizeOf3 (2) rfl rfl rfl rfl (p_load Try.isAgg3 rfl rfl rfl (B61.get rfl) (p_move rfl rfl rfl (p_nilchk rfl rfl rfl (p_field Try.underlying118 rfl Try.sizeOf25 (0) rfl rfl rfl rfl (p_field Try.underlying25 rfl Try.sizeOf22 (0) rfl rfl rfl rfl ?_)))))
     have B62 := ((B34.kx u36).kx u57)
     refine p_load Try.isAgg22 rfl rfl rfl (B62.get rfl) (p_len Try.underlying22 rfl rfl rfl rfl (p_cmp rfl rfl rfl rfl rfl (p_pick_t rfl rfl rfl rfl (p_assign rfl rfl rfl (p_nil fun w63 u64 => ?_)))))
     have zu64 := u64.size
     refine t_nil' ?_
     exact hK27 () _ _ ⟨rfl, rfl, rfl, rfl, (congrArg some (congrArg Value.bool (by first | (simp [c2, *]; done) | simp_all [c2]))), trivial⟩ ((((Upd.refl _ _).next u36 (fun _ _ h => h.elim)).next u57 (fun _ _ h => h.elim)).next u64 (fun _ _ h => h.elim))
    refine p_skip rfl rfl rfl (p_skip rfl rfl rfl (p_skip rfl rfl rfl (p_skip rfl rfl rfl (p_skip rfl rfl rfl (p_skip rfl rfl rfl (p_skip rfl rfl rfl (p_skip rfl rfl rfl (p_skip rfl rfl rfl (p_pick_f rfl rfl rfl rfl (p_assign rfl rfl rfl (p_nil fun w66 u67 => ?_)))))))))))
    have zu67 := u67.size
    refine t_nil' ?_
    exact hK27 () _ _ ⟨rfl, rfl, rfl, rfl, (congrArg some (congrArg Value.bool (by first | (simp [c2, *]; done) | simp_all [c2]))), trivial⟩ ((((Upd.refl _ _).next u36 (fun _ _ h => h.elim)).next u57 (fun _ _ h => h.elim)).next u67 (fun _ _ h => h.elim))
   refine p_skip rfl rfl rfl (p_skip rfl rfl rfl (p_skip rfl rfl rfl (p_skip rfl rfl rfl (p_skip rfl rfl rfl (p_skip rfl rfl rfl (p_skip rfl rfl rfl (p_skip rfl rfl rfl (p_pick_f rfl rfl rfl rfl (p_assign rfl rfl rfl (p_nil fun w69 u70 => ?_))))))))))
   have zu70 := u70.size
   refine t_nil' (hK30 _ _ (c_cond_f rfl (c_seq fun K72 hK72 => (c_drawnQ follows (by kernel_rfl) (p_move rfl rfl rfl (p_move rfl rfl rfl (p_split 33 rfl (fun g33 => ?_) (fun g33 => ?_))))))))
   ·
    refine p_field Try.underlying41 rfl Try.sizeOf3 (4) rfl rfl rfl rfl ?_
    have B75 := ((B20.kx u23).kx u70)
    refine p_load Try.isAgg3 rfl rfl rfl (B75.get rfl) (p_move rfl rfl rfl (p_nilchk rfl rfl rfl (p_field Try.underlying118 rfl Try.sizeOf114 (2) rfl rfl rfl rfl ?_)))
    have B76 := ((B21.kx u23).kx u70)
    refine p_load Try.isAgg114 rfl rfl rfl (B76.get rfl) (p_len Try.underlying114 rfl rfl rfl rfl (p_cmp rfl rfl rfl rfl rfl (p_pick_t rfl rfl rfl rfl (p_assign rfl rfl rfl (p_nil fun w77 u78 => ?_)))))
    have zu78 := u78.size
    refine t_nil' (hK72 _ _ (c_condp rfl (fun g20 => ?_) (fun g20 => ?_)))
    ·
     refine c_skip ?_
     exact hK27 () _ _ ⟨rfl, rfl, rfl, rfl, (congrArg some (congrArg Value.bool (by first | (simp [c2, *]; done) | simp_all [c2]))), trivial⟩ (((Upd.refl _ _).next u70 (fun _ _ h => h.elim)).next u78 (fun _ _ h => h.elim))
    refine c_drawnQ follows (by kernel_rfl) (p_field Try.underlying41 rfl Try.sizeOf39 (0) rfl rfl rfl rfl ?_)
    have B82 := (B75.kx u78)
    refine p_load Try.isAgg39 rfl rfl rfl (B82.get rfl) (p_cmp rfl rfl rfl rfl rfl (p_move rfl rfl rfl (p_splitp 46 rfl (fun g46 => ?_) (fun g46 => ?_))))
    ·
     refine p_field Try.underlying41 rfl Try.sizeOf3 (2) rfl rfl rfl rfl (p_load Try.isAgg3 rfl rfl rfl (B82.get rfl) (p_move rfl rfl rfl (p_nilchk rfl rfl rfl (p_field Try.underlying118 rfl Try.sizeOf25 (0) rfl rfl rfl rfl (p_field Try.underlying25 rfl Try.sizeOf22 (0) rfl rfl rfl rfl ?_)))))
     have B83 := (B76.kx u78)
     refine p_load Try.isAgg22 rfl rfl rfl (B83.get rfl) (p_len Try.underlying22 rfl rfl rfl rfl (p_cmp rfl rfl rfl rfl rfl (p_pick_t rfl rfl rfl rfl (p_assign rfl rfl rfl (p_nil fun w84 u85 => ?_)))))
     have zu85 := u85.size
     refine t_nil' ?_
     exact hK27 () _ _ ⟨rfl, rfl, rfl, rfl, (congrArg some (congrArg Value.bool (by first | (simp [c2, *]; done) | simp_all [c2]))), trivial⟩ ((((Upd.refl _ _).next u70 (fun _ _ h => h.elim)).next u78 (fun _ _ h => h.elim)).next u85 (fun _ _ h => h.elim))
    refine p_skip rfl rfl rfl (p_skip rfl rfl rfl (p_skip rfl rfl rfl (p_skip rfl rfl rfl (p_skip rfl rfl rfl (p_skip rfl rfl rfl (p_skip rfl rfl rfl (p_skip rfl rfl rfl (p_skip rfl rfl rfl (p_pick_f rfl rfl rfl rfl (p_assign rfl rfl rfl (p_nil fun w87 u88 => ?_)))))))))))
    have zu88 := u88.size
    refine t_nil' ?_
    exact hK27 () _ _ ⟨rfl, rfl, rfl, rfl, (congrArg some (congrArg Value.bool (by first | (simp [c2, *]; done) | simp_all [c2]))), trivial⟩ ((((Upd.refl _ _).next u70 (fun _ _ h => h.elim)).next u78 (fun _ _ h => h.elim)).next u88 (fun _ _ h => h.elim))
   refine p_skip rfl rfl rfl (p_skip rfl rfl rfl (p_skip rfl rfl rfl (p_skip rfl rfl rfl (p_skip rfl rfl rfl (p_skip rfl rfl rfl (p_skip rfl rfl rfl (p_skip rfl rfl rfl (p_pick_f rfl rfl rfl rfl (p_assign rfl rfl rfl (p_nil fun w90 u91 => ?_))))))))))
   have zu91 := u91.size
   refine t_nil' (hK72 _ _ (c_cond_f rfl (c_drawnQ follows (by kernel_rfl) (p_field Try.underlying41 rfl Try.sizeOf39 (0) rfl rfl rfl rfl ?_))))
   have B95 := (((B20.kx u23).kx u70).kx u91)
   refine p_load Try.isAgg39 rfl rfl rfl (B95.get rfl) (p_cmp rfl rfl rfl rfl rfl (p_move rfl rfl rfl (p_splitp 46 rfl (fun g46 => ?_) (fun g46 => ?_))))
   ·
    refine p_field Try.underlying41 rfl Try.sizeOf3 (2) rfl rfl rfl rfl (p_load Try.isAgg3 rfl rfl rfl (B95.get rfl) (p_move rfl rfl rfl (p_nilchk rfl rfl rfl (p_field Try.underlying118 rfl Try.sizeOf25 (0) rfl rfl rfl rfl (p_field Try.underlying25 rfl Try.sizeOf22 (0) rfl rfl rfl rfl ?_)))))
    have B96 := (((B21.kx u23).kx u70).kx u91)
    refine p_load Try.isAgg22 rfl rfl rfl (B96.get rfl) (p_len Try.underlying22 rfl rfl rfl rfl (p_cmp rfl rfl rfl rfl rfl (p_pick_t rfl rfl rfl rfl (p_assign rfl rfl rfl (p_nil fun w97 u98 => ?_)))))
    have zu98 := u98.size
    refine t_nil' ?_
    exact hK27 () _ _ ⟨rfl, rfl, rfl, rfl, (congrArg some (congrArg Value.bool (by first | (simp [c2, *]; done) | simp_all [c2]))), trivial⟩ ((((Upd.refl _ _).next u70 (fun _ _ h => h.elim)).next u91 (fun _ _ h => h.elim)).next u98 (fun _ _ h => h.elim))
   refine p_skip rfl rfl rfl (p_skip rfl rfl rfl (p_skip rfl rfl rfl (p_skip rfl rfl rfl (p_skip rfl rfl rfl (p_skip rfl rfl rfl (p_skip rfl rfl rfl (p_skip rfl rfl rfl (p_skip rfl rfl rfl (p_pick_f rfl rfl rfl rfl (p_assign rfl rfl rfl (p_nil fun w100 u101 => ?_)))))))))))
   have zu101 := u101.size
   refine t_nil' ?_
   exact hK27 () _ _ ⟨rfl, rfl, rfl, rfl, (congrArg some (congrArg Value.bool (by first | (simp [c2, *]; done) | simp_all [c2]))), trivial⟩ ((((Upd.refl _ _).next u70 (fun _ _ h => h.elim)).next u91 (fun _ _ h => h.elim)).next u101 (fun _ _ h => h.elim))
  intro _x w28 u29
  have zu29 := u29.size
  have E103 := E24.nx u29
  refine c_cond rfl (fun g20 => ?_) (fun g20 => ?_)
  ·
   refine c_seq fun K104 hK104 => (c_region (t_assign rfl rfl rfl (t_nil' (hK104 _ _ (c_ret (f_ret1 (v := .int .i64 7) Try.results73 rfl ?_))))))
   exact ⟨congrArg (Value.int .i64) (by unfold chkV; rw [if_neg g12, if_pos g20]), E103⟩
  have I7 : c2 V x = false := by simpa using g20
  have hc2 : (useF x = true → x.frm < (V.hl.length : Int)) ∧ (useT x = true → x.to < (V.hl.length : Int)) ∧ (x.kind = 1 → x.bill < (V.bs.length : Int)) := by
    have h : c2 V x = false := by simpa using I7
    simp only [c2, Bool.or_eq_false_iff, Bool.and_eq_false_iff, decide_eq_false_iff_not] at h
    refine ⟨fun h1 => ?_, fun h1 => ?_, fun h1 => ?_⟩
    · rcases h.1.1 with h2 | h2
      · rw [h1] at h2; cases h2
      · omega
    · rcases h.1.2 with h2 | h2
      · rw [h1] at h2; cases h2
      · omega
    · rcases h.2 with h2 | h2 <;> omega
  refine c_cut (γ := Unit) (fun _x => [(0, .pointer (some ⟨pv, 0, none⟩)), (3, .pointer (some ⟨bk2, 0, none⟩)), (5, .bool (useF x)), (6, .bool (useT x)), (57, .bool (c3 x))]) (fun _x w => Upd (fun _ => False) w28 w) (fun K106 hK106 => ?_) ?_
  ·
   refine c_region (t_move rfl rfl rfl (t_move rfl rfl rfl (t_split 59 rfl (fun g59 => ?_) (fun g59 => ?_))))
   ·
    refine t_move rfl rfl rfl (t_pick_t rfl rfl rfl rfl (t_move rfl rfl rfl (t_split 62 rfl (fun g62 => ?_) (fun g62 => ?_))))
    ·
     refine t_field Try.underlying41 rfl Try.sizeOf3 (3) rfl rfl rfl rfl ?_
     have B109 := ((B20.kx u23).kx u29)
     refine t_load Try.isAgg3 rfl rfl rfl (B109.get rfl) (t_field Try.underlying41 rfl Try.sizeOf3 (4) rfl rfl rfl rfl (t_load Try.isAgg3 rfl rfl rfl (B109.get rfl) (t_cmp rfl rfl rfl rfl rfl (t_pick_t rfl rfl rfl rfl (t_assign rfl rfl rfl (t_nil' ?_))))))
     exact hK106 () _ _ ⟨rfl, rfl, rfl, rfl, (congrArg some (congrArg Value.bool (by first | (simp [c3, *]; done) | simp_all [c3]))), trivial⟩ (Upd.refl _ _)
    refine t_skip rfl rfl rfl (t_skip rfl rfl rfl (t_skip rfl rfl rfl (t_skip rfl rfl rfl (t_skip rfl rfl rfl (t_pick_f rfl rfl rfl rfl (t_assign rfl rfl rfl (t_nil' ?_)))))))
    exact hK106 () _ _ ⟨rfl, rfl, rfl, rfl, (congrArg some (congrArg Value.bool (by first | (simp [c3, *]; done) | simp_all [c3]))), trivial⟩ (Upd.refl _ _)
   refine t_skip rfl rfl rfl (t_pick_f rfl rfl rfl rfl (t_move rfl rfl rfl (t_skip rfl rfl rfl (t_skip rfl rfl rfl (t_skip rfl rfl rfl (t_skip rfl rfl rfl (t_skip rfl rfl rfl (t_pick_f rfl rfl rfl rfl (t_assign rfl rfl rfl (t_nil' ?_))))))))))
   exact hK106 () _ _ ⟨rfl, rfl, rfl, rfl, (congrArg some (congrArg Value.bool (by first | (simp [c3, *]; done) | simp_all [c3]))), trivial⟩ (Upd.refl _ _)
  intro _x w107 u108
  have zu108 := u108.size
  have E110 := E103.nx u108
  refine c_cond rfl (fun g57 => ?_) (fun g57 => ?_)
  ·
   refine c_seq fun K111 hK111 => (c_region (t_assign rfl rfl rfl (t_nil' (hK111 _ _ (c_ret (f_ret1 (v := .int .i64 6) Try.results73 rfl ?_))))))
   exact ⟨congrArg (Value.int .i64) (by unfold chkV; rw [if_neg g12, if_neg (by simpa using g20), if_pos g57]), E110⟩
  refine c_cut (γ := Unit) (fun _x => [(0, .pointer (some ⟨pv, 0, none⟩)), (3, .pointer (some ⟨bk2, 0, none⟩)), (5, .bool (useF x)), (6, .bool (useT x)), (69, .bool (c4 V x))]) (fun _x w => Upd (fun _ => False) w107 w) (fun K113 hK113 => ?_) ?_
  ·
   refine c_seq fun K116 hK116 => (c_drawnQ follows (by kernel_rfl) (p_move rfl rfl rfl (p_move rfl rfl rfl (p_split 71 rfl (fun g71 => ?_) (fun g71 => ?_)))))
   ·
    have hF2 := hc2.1 g71
    have hfi : (x.frm).toNat < V.hl.length := by omega
    have hfiB := (hv.hold _ (nth_mem hfi)).blk
    have hfif := hvo.few (nth_mem hfi)
    refine p_move rfl rfl rfl (p_nilchk rfl rfl rfl (p_field Try.underlying118 rfl Try.sizeOf114 (2) rfl rfl rfl rfl ?_))
    have B120 := (((B21.kx u23).kx u29).kx u108)
    refine p_load Try.isAgg114 rfl rfl rfl (B120.get rfl) (p_field Try.underlying41 rfl Try.sizeOf3 (3) rfl rfl rfl rfl ?_)
    have B121 := (((B20.kx u23).kx u29).kx u108)
    refine p_load Try.isAgg3 rfl rfl rfl (B121.get rfl) ?_
    have i122 : (x.frm).toNat < V.hl.length := (by omega)
    refine p_index (j := (x.frm).toNat) Try.underlying114 Try.sizeOf119 rfl rfl rfl rfl ((((hv.ext E110)).pacc.sl (fun _ => rfl)).addr (by omega)) (by omega) i122 (p_load Try.isAgg119 rfl rfl rfl (((((hv.ext E110)).pacc.sl (fun _ => rfl)).at_ ((x.frm).toNat) (by omega)) 0 _ rfl) (p_nilchk rfl rfl rfl (p_field Try.underlying122 rfl Try.sizeOf4 (3) rfl rfl rfl rfl (p_load Try.isAgg4 rfl rfl rfl ((hfiB.keep E110 id).get rfl) (p_field Try.underlying41 rfl Try.sizeOf39 (0) rfl rfl rfl rfl (p_load Try.isAgg39 rfl rfl rfl (B121.get rfl) (p_cmp rfl rfl rfl rfl rfl (p_neB Try.underlying4 rfl rfl rfl rfl (p_pick_t rfl rfl rfl rfl (p_assign rfl rfl rfl (p_nil fun w123 u124 => ?_)))))))))))
    have zu124 := u124.size
    have E125 := E110.nx u124
    refine t_nil' (hK116 _ _ (c_condp rfl (fun g69 => ?_) (fun g69 => ?_)))
    ·
     refine c_skip ?_
     exact hK113 () _ _ ⟨rfl, rfl, rfl, rfl, (congrArg some (congrArg Value.bool (by first | (simp [c4, *]; done) | simp_all [c4]))), trivial⟩ ((Upd.refl _ _).next u124 (fun _ _ h => h.elim))
    refine c_drawnQ follows (by kernel_rfl) (p_move rfl rfl rfl (p_move rfl rfl rfl (p_split 89 rfl (fun g89 => ?_) (fun g89 => ?_))))
    ·
     have hT2 := hc2.2.1 g89
     have hti : (x.to).toNat < V.hl.length := by omega
     have htiB := (hv.hold _ (nth_mem hti)).blk
     have htif := hvo.few (nth_mem hti)
     refine p_move rfl rfl rfl (p_nilchk rfl rfl rfl (p_field Try.underlying118 rfl Try.sizeOf114 (2) rfl rfl rfl rfl ?_))
     have B129 := (B120.kx u124)
     refine p_load Try.isAgg114 rfl rfl rfl (B129.get rfl) (p_field Try.underlying41 rfl Try.sizeOf3 (4) rfl rfl rfl rfl ?_)
     have B130 := (B121.kx u124)
     refine p_load Try.isAgg3 rfl rfl rfl (B130.get rfl) ?_
     have i131 : (x.to).toNat < V.hl.length := (by omega)
     refine p_index (j := (x.to).toNat) Try.underlying114 Try.sizeOf119 rfl rfl rfl rfl ((((hv.ext E125)).pacc.sl (fun _ => rfl)).addr (by omega)) (by omega) i131 (p_load Try.isAgg119 rfl rfl rfl (((((hv.ext E125)).pacc.sl (fun _ => rfl)).at_ ((x.to).toNat) (by omega)) 0 _ rfl) (p_nilchk rfl rfl rfl (p_field Try.underlying122 rfl Try.sizeOf4 (3) rfl rfl rfl rfl (p_load Try.isAgg4 rfl rfl rfl ((htiB.keep E125 id).get rfl) (p_pick_t rfl rfl rfl rfl (p_assign rfl rfl rfl (p_nil fun w132 u133 => ?_)))))))
     have zu133 := u133.size
     refine t_nil' ?_
     exact hK113 () _ _ ⟨rfl, rfl, rfl, rfl, (congrArg some (congrArg Value.bool (by first | (simp [c4, *]; done) | simp_all [c4]))), trivial⟩ (((Upd.refl _ _).next u124 (fun _ _ h => h.elim)).next u133 (fun _ _ h => h.elim))
    refine p_skip rfl rfl rfl (p_skip rfl rfl rfl (p_skip rfl rfl rfl (p_skip rfl rfl rfl (p_skip rfl rfl rfl (p_skip rfl rfl rfl (p_skip rfl rfl rfl (p_skip rfl rfl rfl (p_skip rfl rfl rfl (p_skip rfl rfl rfl (p_skip rfl rfl rfl (p_pick_f rfl rfl rfl rfl (p_assign rfl rfl rfl (p_nil fun w135 u136 => ?_)))))))))))))
    have zu136 := u136.size
    refine t_nil' ?_
    exact hK113 () _ _ ⟨rfl, rfl, rfl, rfl, (congrArg some (congrArg Value.bool (by first | (simp [c4, *]; done) | simp_all [c4]))), trivial⟩ (((Upd.refl _ _).next u124 (fun _ _ h => h.elim)).next u136 (fun _ _ h => h.elim))
   refine p_skip rfl rfl rfl (p_skip rfl rfl rfl (p_skip rfl rfl rfl (p_skip rfl rfl rfl (p_skip rfl rfl rfl (p_skip rfl rfl rfl (p_skip rfl rfl rfl (p_skip rfl rfl rfl (p_skip rfl rfl rfl (p_skip rfl rfl rfl (p_skip rfl rfl rfl (p_skip rfl rfl rfl (p_skip rfl rfl rfl (p_skip rfl rfl rfl (p_skip rfl rfl rfl (p_pick_f rfl rfl rfl rfl (p_assign rfl rfl rfl (p_nil fun w138 u139 => ?_)))))))))))))))))
   have zu139 := u139.size
   have E140 := E110.nx u139
   refine t_nil' (hK116 _ _ (c_cond_f rfl (c_drawnQ follows (by kernel_rfl) (p_move rfl rfl rfl (p_move rfl rfl rfl (p_split 89 rfl (fun g89 => ?_) (fun g89 => ?_)))))))
   ·
    have hT2 := hc2.2.1 g89
    have hti : (x.to).toNat < V.hl.length := by omega
    have htiB := (hv.hold _ (nth_mem hti)).blk
    have htif := hvo.few (nth_mem hti)
    refine p_move rfl rfl rfl (p_nilchk rfl rfl rfl (p_field Try.underlying118 rfl Try.sizeOf114 (2) rfl rfl rfl rfl ?_))
    have B144 := ((((B21.kx u23).kx u29).kx u108).kx u139)
    refine p_load Try.isAgg114 rfl rfl rfl (B144.get rfl) (p_field Try.underlying41 rfl Try.sizeOf3 (4) rfl rfl rfl rfl ?_)
    have B145 := ((((B20.kx u23).kx u29).kx u108).kx u139)
    refine p_load Try.isAgg3 rfl rfl rfl (B145.get rfl) ?_
    have i146 : (x.to).toNat < V.hl.length := (by omega)
    refine p_index (j := (x.to).toNat) Try.underlying114 Try.sizeOf119 rfl rfl rfl rfl ((((hv.ext E140)).pacc.sl (fun _ => rfl)).addr (by omega)) (by omega) i146 (p_load Try.isAgg119 rfl rfl rfl (((((hv.ext E140)).pacc.sl (fun _ => rfl)).at_ ((x.to).toNat) (by omega)) 0 _ rfl) (p_nilchk rfl rfl rfl (p_field Try.underlying122 rfl Try.sizeOf4 (3) rfl rfl rfl rfl (p_load Try.isAgg4 rfl rfl rfl ((htiB.keep E140 id).get rfl) (p_pick_t rfl rfl rfl rfl (p_assign rfl rfl rfl (p_nil fun w147 u148 => ?_)))))))
    have zu148 := u148.size
    refine t_nil' ?_
    exact hK113 () _ _ ⟨rfl, rfl, rfl, rfl, (congrArg some (congrArg Value.bool (by first | (simp [c4, *]; done) | simp_all [c4]))), trivial⟩ (((Upd.refl _ _).next u139 (fun _ _ h => h.elim)).next u148 (fun _ _ h => h.elim))
   refine p_skip rfl rfl rfl (p_skip rfl rfl rfl (p_skip rfl rfl rfl (p_skip rfl rfl rfl (p_skip rfl rfl rfl (p_skip rfl rfl rfl (p_skip rfl rfl rfl (p_skip rfl rfl rfl (p_skip rfl rfl rfl (p_skip rfl rfl rfl (p_skip rfl rfl rfl (p_pick_f rfl rfl rfl rfl (p_assign rfl rfl rfl (p_nil fun w150 u151 => ?_)))))))))))))
   have zu151 := u151.size
   refine t_nil' ?_
   exact hK113 () _ _ ⟨rfl, rfl, rfl, rfl, (congrArg some (congrArg Value.bool (by first | (simp [c4, *]; done) | simp_all [c4]))), trivial⟩ (((Upd.refl _ _).next u139 (fun _ _ h => h.elim)).next u151 (fun _ _ h => h.elim))
  intro _x w114 u115
  have zu115 := u115.size
  refine c_cond rfl (fun g69 => ?_) (fun g69 => ?_)
  ·
   refine c_seq fun K154 hK154 => (c_region (t_assign rfl rfl rfl (t_nil' (hK154 _ _ (c_ret (f_ret1 (v := .int .i64 9) Try.results73 rfl ?_))))))
   exact ⟨congrArg (Value.int .i64) (by unfold chkV; rw [if_neg g12, if_neg (by simpa using g20), if_neg (by simpa using g57), if_pos g69]), (E110.nx u115)⟩
  refine c_skip ?_
  exact hK14 () _ _ ⟨rfl, rfl, rfl, rfl, trivial⟩ ⟨(((((Upd.refl _ _).next u23 (fun _ _ h => h.elim)).next u29 (fun _ _ h => h.elim)).next u108 (fun _ _ h => h.elim)).next u115 (fun _ _ h => h.elim)), ⟨g12, (by simpa using g20), (by simpa using g57), (by simpa using g69)⟩⟩
 intro _x w15 hW
 obtain ⟨u16, I155⟩ := hW
 have zu16 := u16.size
 have E156 := E12.nx u16
 have hst1 := I155; clear I155
 have I7 := hst1.2.1
 have hc2 : (useF x = true → x.frm < (V.hl.length : Int)) ∧ (useT x = true → x.to < (V.hl.length : Int)) ∧ (x.kind = 1 → x.bill < (V.bs.length : Int)) := by
   have h : c2 V x = false := by simpa using I7
   simp only [c2, Bool.or_eq_false_iff, Bool.and_eq_false_iff, decide_eq_false_iff_not] at h
   refine ⟨fun h1 => ?_, fun h1 => ?_, fun h1 => ?_⟩
   · rcases h.1.1 with h2 | h2
     · rw [h1] at h2; cases h2
     · omega
   · rcases h.1.2 with h2 | h2
     · rw [h1] at h2; cases h2
     · omega
   · rcases h.2 with h2 | h2 <;> omega
 refine c_cut (γ := Unit) (fun _x => [(0, .pointer (some ⟨pv, 0, none⟩)), (3, .pointer (some ⟨bk2, 0, none⟩)), (5, .bool (useF x)), (6, .bool (useT x))]) (fun _x w => Upd (fun _ => False) w15 w ∧ (chkK V x = 0)) (fun K158 hK158 => ?_) ?_
 ·
  refine c_seq fun K161 hK161 => (c_region (t_field Try.underlying41 rfl Try.sizeOf39 (0) rfl rfl rfl rfl ?_))
  have B162 := ((B4.kx u10).kx u16)
  refine t_load Try.isAgg39 rfl rfl rfl (B162.get rfl) (t_nil' (hK161 _ _ (c_block (c_seq fun K163 hK163 => (c_region (t_cmp rfl rfl rfl rfl rfl (t_assign rfl rfl rfl (t_nil' (hK163 _ _ (c_condp rfl (fun g104 => ?_) (fun g104 => ?_)))))))))))
  ·
   have hB2 := hc2.2.2 g104
   have hbr := hvo.bil _ (nth_mem (xs := V.bs) (i := (x.bill).toNat) (by omega))
   simp only [okBil, decide_eq_true_eq] at hbr
   have hlr := hvo.lsr (x.bill).toNat (by omega)
   refine c_seq fun K164 hK164 => (c_seq fun K165 hK165 => (c_drawnQ follows (by kernel_rfl) (p_field Try.underlying41 rfl Try.sizeOf3 (6) rfl rfl rfl rfl (p_load Try.isAgg3 rfl rfl rfl (B162.get rfl) (p_move rfl rfl rfl (p_nilchk rfl rfl rfl (p_field Try.underlying118 rfl Try.sizeOf25 (0) rfl rfl rfl rfl (p_field Try.underlying25 rfl Try.sizeOf22 (0) rfl rfl rfl rfl ?_))))))))
   have B168 := (((hpb.kx u5).kx u10).kx u16)
   refine p_load Try.isAgg22 rfl rfl rfl (B168.get rfl) (p_field Try.underlying41 rfl Try.sizeOf3 (2) rfl rfl rfl rfl (p_load Try.isAgg3 rfl rfl rfl (B162.get rfl) ?_))
   have i169 : (x.bill).toNat < V.bs.length := (by omega)
   refine p_index (j := (x.bill).toNat) Try.underlying22 Try.sizeOf93 rfl rfl rfl rfl (((hv.ext E156)).bil.addr (by omega)) (by omega) i169 (p_field Try.underlying93 rfl Try.sizeOf3 (V.ob + (x.bill).toNat * 3 + 1) rfl rfl rfl rfl (p_load Try.isAgg3 rfl rfl rfl ((((hv.ext E156)).bil.at_ ((x.bill).toNat) (by omega)) 1 _ rfl) (p_cmp rfl rfl rfl rfl rfl (p_nil fun w170 u171 => ?_))))
   have zu171 := u171.size
   have E172 := E156.nx u171
   refine t_nil' (hK165 _ _ (c_condp rfl (fun g118 => ?_) (fun g118 => ?_)))
   ·
    refine c_seq fun K173 hK173 => (c_region (t_assign rfl rfl rfl (t_nil' (hK173 _ _ (c_ret (f_ret1 (v := .int .i64 9) Try.results73 rfl ?_))))))
    have hK : chkK V x = 9 := by unfold chkK; simp only [*, if_true, if_false, ne_eq, not_true_eq_false, not_false_eq_true, false_and, true_and, and_false, and_true] <;> first | done | rfl | (split <;> first | omega | rfl)
    exact ⟨congrArg (Value.int .i64) (by unfold chkV; rw [if_neg hst1.1, if_neg (by rw [hst1.2.1]; simp), if_neg (by rw [hst1.2.2.1]; simp), if_neg (by rw [hst1.2.2.2]; simp), if_pos (by rw [hK]; decide), hK]), E172⟩
   refine c_skip (hK164 _ _ (c_seq fun K174 hK174 => (c_drawnQ follows (by kernel_rfl) (p_move rfl rfl rfl (p_nilchk rfl rfl rfl (p_field Try.underlying118 rfl Try.sizeOf45 (3) rfl rfl rfl rfl ?_))))))
   have B179 := (B168.kx u171)
   refine p_load Try.isAgg45 rfl rfl rfl (B179.get rfl) (p_field Try.underlying41 rfl Try.sizeOf3 (2) rfl rfl rfl rfl ?_)
   have B180 := (B162.kx u171)
   refine p_load Try.isAgg3 rfl rfl rfl (B180.get rfl) ?_
   have i181 : (x.bill).toNat < V.ls.length := (by omega)
   refine p_index (j := (x.bill).toNat) Try.underlying45 Try.sizeOf3 rfl rfl rfl rfl ((SlI.own ((hv.ext E172)).lblk).addr (by omega)) (by omega) i181 (p_load Try.isAgg3 rfl rfl rfl (((SlI.own ((hv.ext E172)).lblk).at_ ((x.bill).toNat) (by omega)) 0 _ rfl) (p_field Try.underlying41 rfl Try.sizeOf3 (5) rfl rfl rfl rfl (p_load Try.isAgg3 rfl rfl rfl (B180.get rfl) (p_ari rfl rfl rfl rfl rfl (by omega) (p_move rfl rfl rfl (p_nilchk rfl rfl rfl (p_field Try.underlying118 rfl Try.sizeOf25 (0) rfl rfl rfl rfl (p_field Try.underlying25 rfl Try.sizeOf22 (0) rfl rfl rfl rfl (p_load Try.isAgg22 rfl rfl rfl (B179.get rfl) (p_field Try.underlying41 rfl Try.sizeOf3 (2) rfl rfl rfl rfl (p_load Try.isAgg3 rfl rfl rfl (B180.get rfl) ?_)))))))))))
   have i182 : (x.bill).toNat < V.bs.length := (by omega)
   refine p_index (j := (x.bill).toNat) Try.underlying22 Try.sizeOf93 rfl rfl rfl rfl (((hv.ext E172)).bil.addr (by omega)) (by omega) i182 (p_field Try.underlying93 rfl Try.sizeOf3 (V.ob + (x.bill).toNat * 3 + 0) rfl rfl rfl rfl (p_load Try.isAgg3 rfl rfl rfl ((((hv.ext E172)).bil.at_ ((x.bill).toNat) (by omega)) 0 _ rfl) (p_cmp rfl rfl rfl rfl rfl (p_nil fun w183 u184 => ?_))))
   have zu184 := u184.size
   refine t_nil' (hK174 _ _ (c_condp rfl (fun g140 => ?_) (fun g140 => ?_)))
   ·
    refine c_seq fun K186 hK186 => (c_region (t_assign rfl rfl rfl (t_nil' (hK186 _ _ (c_ret (f_ret1 (v := .int .i64 6) Try.results73 rfl ?_))))))
    have hK : chkK V x = 6 := by unfold chkK; simp only [*, if_true, if_false, ne_eq, not_true_eq_false, not_false_eq_true, false_and, true_and, and_false, and_true] <;> first | done | rfl | (split <;> first | omega | rfl)
    exact ⟨congrArg (Value.int .i64) (by unfold chkV; rw [if_neg hst1.1, if_neg (by rw [hst1.2.1]; simp), if_neg (by rw [hst1.2.2.1]; simp), if_neg (by rw [hst1.2.2.2]; simp), if_pos (by rw [hK]; decide), hK]), (E172.nx u184)⟩
   refine c_skip ?_
   exact hK158 () _ _ ⟨rfl, rfl, rfl, rfl, trivial⟩ ⟨(((Upd.refl _ _).next u171 (fun _ _ h => h.elim)).next u184 (fun _ _ h => h.elim)), (by unfold chkK; simp only [*, if_true, if_false, ne_eq, not_true_eq_false, not_false_eq_true, false_and, true_and, and_false, and_true] <;> first | done | rfl | (split <;> first | omega | rfl))⟩
  refine c_seq fun K187 hK187 => (c_region (t_cmp rfl rfl rfl rfl rfl (t_assign rfl rfl rfl (t_nil' (hK187 _ _ (c_condp rfl (fun g141 => ?_) (fun g141 => ?_)))))))
  ·
   refine c_seq fun K188 hK188 => (c_drawnR follows 6 (by kernel_rfl) (p_move rfl rfl rfl (p_nilchk rfl rfl rfl (p_field Try.underlying118 rfl Try.sizeOf115 (4) rfl rfl rfl rfl ?_))))
   have B190 := (((hpb.kx u5).kx u10).kx u16)
   refine p_load Try.isAgg115 rfl rfl rfl (B190.get rfl) (p_field Try.underlying41 rfl Try.sizeOf3 (7) rfl rfl rfl rfl (p_load Try.isAgg3 rfl rfl rfl (B162.get rfl) (p_nil fun w191 u192 => ?_)))
   have zu192 := u192.size
   have E193 := E156.nx u192
   refine t_lookupI Try.underlying3 Try.underlying115 Try.zeroValue4 rfl rfl rfl rfl ((hv.ext E193)).seals.set (t_nil' (hK188 _ _ (c_condp rfl (fun g149 => ?_) (fun g149 => ?_))))
   ·
    refine c_seq fun K194 hK194 => (c_region (t_assign rfl rfl rfl (t_nil' (hK194 _ _ (c_ret (f_ret1 (v := .int .i64 6) Try.results73 rfl ?_))))))
    have hK : chkK V x = 6 := by unfold chkK; simp only [*, if_true, if_false, ne_eq, not_true_eq_false, not_false_eq_true, false_and, true_and, and_false, and_true] <;> first | done | rfl | (split <;> first | omega | rfl)
    exact ⟨congrArg (Value.int .i64) (by unfold chkV; rw [if_neg hst1.1, if_neg (by rw [hst1.2.1]; simp), if_neg (by rw [hst1.2.2.1]; simp), if_neg (by rw [hst1.2.2.2]; simp), if_pos (by rw [hK]; decide), hK]), E193⟩
   refine c_skip ?_
   exact hK158 () _ _ ⟨rfl, rfl, rfl, rfl, trivial⟩ ⟨((Upd.refl _ _).next u192 (fun _ _ h => h.elim)), (by unfold chkK; simp only [*, if_true, if_false, ne_eq, not_true_eq_false, not_false_eq_true, false_and, true_and, and_false, and_true] <;> first | done | rfl | (split <;> first | omega | rfl))⟩
  refine c_skip ?_
  exact hK158 () _ _ ⟨rfl, rfl, rfl, rfl, trivial⟩ ⟨(Upd.refl _ _), (by unfold chkK; simp only [*, if_true, if_false, ne_eq, not_true_eq_false, not_false_eq_true, false_and, true_and, and_false, and_true] <;> first | done | rfl | (split <;> first | omega | rfl))⟩
 intro _x w159 hW
 obtain ⟨u160, I195⟩ := hW
 have zu160 := u160.size
 have E196 := E156.nx u160
 have hst2 := I195; clear I195
 refine c_seq fun K197 hK197 => (c_cut (γ := Unit) (fun _x => [(0, .pointer (some ⟨pv, 0, none⟩)), (3, .pointer (some ⟨bk2, 0, none⟩)), (6, .bool (useT x)), (167, .bool (c5 V x))]) (fun _x w => Upd (fun _ => False) w159 w) (fun K199 hK199 => ?_) ?_)
 ·
  refine c_drawnQ follows (by kernel_rfl) (p_move rfl rfl rfl (p_move rfl rfl rfl (p_split 151 rfl (fun g151 => ?_) (fun g151 => ?_))))
  ·
   have hF2 := hc2.1 g151
   have hfi : (x.frm).toNat < V.hl.length := by omega
   have hfiB := (hv.hold _ (nth_mem hfi)).blk
   have hfif := hvo.few (nth_mem hfi)
   refine p_move rfl rfl rfl (p_nilchk rfl rfl rfl (p_field Try.underlying118 rfl Try.sizeOf114 (2) rfl rfl rfl rfl ?_))
   have B207 := ((((hpb.kx u5).kx u10).kx u16).kx u160)
   refine p_load Try.isAgg114 rfl rfl rfl (B207.get rfl) (p_field Try.underlying41 rfl Try.sizeOf3 (3) rfl rfl rfl rfl ?_)
   have B208 := (((B4.kx u10).kx u16).kx u160)
   refine p_load Try.isAgg3 rfl rfl rfl (B208.get rfl) ?_
   have i209 : (x.frm).toNat < V.hl.length := (by omega)
   refine p_index (j := (x.frm).toNat) Try.underlying114 Try.sizeOf119 rfl rfl rfl rfl ((((hv.ext E196)).pacc.sl (fun _ => rfl)).addr (by omega)) (by omega) i209 (p_load Try.isAgg119 rfl rfl rfl (((((hv.ext E196)).pacc.sl (fun _ => rfl)).at_ ((x.frm).toNat) (by omega)) 0 _ rfl) (p_nilchk rfl rfl rfl (p_field Try.underlying122 rfl Try.sizeOf120 (2) rfl rfl rfl rfl (p_load Try.isAgg120 rfl rfl rfl ((hfiB.keep E196 id).get rfl) (p_call (v := .int .i64 (sumT (((nth V.hl ((x.frm).toNat)).xs).map HLay.v))) own86 rfl rfl rfl rfl (fun _ u210 => (tons_c ((nth V.hl ((x.frm).toNat)).xs) ((nth V.hl ((x.frm).toNat)).ao) (nth V.hl ((x.frm).toNat)).g 0 ((nth V.hl ((x.frm).toNat)).cp) _ ((((hv.ext (E196.nx u210))).hold (nth V.hl ((x.frm).toNat)) (nth_mem (by omega))).lays.acc.sl (fun _ => rfl)) (hvo.few (nth_mem (by omega))).1 (hvo.few (nth_mem (by omega))).2.1)) (p_field Try.underlying41 rfl Try.sizeOf3 (5) rfl rfl rfl rfl (p_load Try.isAgg3 rfl rfl rfl (B208.get rfl) (p_cmp rfl rfl rfl rfl rfl (p_pick_t rfl rfl rfl rfl (p_nil fun w212 u213 => ?_))))))))))
   have zu213 := u213.size
   refine t_nil' ?_
   exact hK199 () _ _ ⟨rfl, rfl, rfl, (congrArg some (congrArg Value.bool (by first | (simp [c5, *]; done) | simp_all [c5]))), trivial⟩ ((Upd.refl _ _).next u213 (fun _ _ h => h.elim))
  refine p_skip rfl rfl rfl (p_skip rfl rfl rfl (p_skip rfl rfl rfl (p_skip rfl rfl rfl (p_skip rfl rfl rfl (p_skip rfl rfl rfl (p_skip rfl rfl rfl (p_skip rfl rfl rfl (p_skip rfl rfl rfl (p_skip rfl rfl rfl (p_skip rfl rfl rfl (p_skip rfl rfl rfl (p_skip rfl rfl rfl (p_skip rfl rfl rfl (p_skip rfl rfl rfl (p_pick_f rfl rfl rfl rfl (p_nil fun w215 u216 => ?_))))))))))))))))
  have zu216 := u216.size
  refine t_nil' ?_
  exact hK199 () _ _ ⟨rfl, rfl, rfl, (congrArg some (congrArg Value.bool (by first | (simp [c5, *]; done) | simp_all [c5]))), trivial⟩ ((Upd.refl _ _).next u216 (fun _ _ h => h.elim))
 intro _x w200 u201
 have zu201 := u201.size
 have E218 := E196.nx u201
 refine c_cond rfl (fun g167 => ?_) (fun g167 => ?_)
 ·
  refine c_seq fun K219 hK219 => (c_region (t_assign rfl rfl rfl (t_nil' (hK219 _ _ (c_ret (f_ret1 (v := .int .i64 3) Try.results73 rfl ?_))))))
  exact ⟨congrArg (Value.int .i64) (by unfold chkV; rw [if_neg hst1.1, if_neg (by rw [hst1.2.1]; simp), if_neg (by rw [hst1.2.2.1]; simp), if_neg (by rw [hst1.2.2.2]; simp), if_neg (by rw [hst2]; simp), if_pos g167]), E218⟩
 refine c_skip (hK197 _ _ (c_seq fun K220 hK220 => (c_cut (γ := Unit) (fun _x => [(203, .bool (c6 V x))]) (fun _x w => Upd (fun _ => False) w200 w) (fun K222 hK222 => ?_) ?_)))
 ·
  refine c_drawnQ follows (by kernel_rfl) (p_move rfl rfl rfl (p_move rfl rfl rfl (p_split 169 rfl (fun g169 => ?_) (fun g169 => ?_))))
  ·
   have hT2 := hc2.2.1 g169
   have hti : (x.to).toNat < V.hl.length := by omega
   have htiB := (hv.hold _ (nth_mem hti)).blk
   have htif := hvo.few (nth_mem hti)
   refine p_move rfl rfl rfl (p_nilchk rfl rfl rfl (p_field Try.underlying118 rfl Try.sizeOf114 (2) rfl rfl rfl rfl ?_))
   have B231 := (((((hpb.kx u5).kx u10).kx u16).kx u160).kx u201)
   refine p_load Try.isAgg114 rfl rfl rfl (B231.get rfl) (p_field Try.underlying41 rfl Try.sizeOf3 (4) rfl rfl rfl rfl ?_)
   have B232 := ((((B4.kx u10).kx u16).kx u160).kx u201)
   refine p_load Try.isAgg3 rfl rfl rfl (B232.get rfl) ?_
   have i233 : (x.to).toNat < V.hl.length := (by omega)
   refine p_index (j := (x.to).toNat) Try.underlying114 Try.sizeOf119 rfl rfl rfl rfl ((((hv.ext E218)).pacc.sl (fun _ => rfl)).addr (by omega)) (by omega) i233 (p_load Try.isAgg119 rfl rfl rfl (((((hv.ext E218)).pacc.sl (fun _ => rfl)).at_ ((x.to).toNat) (by omega)) 0 _ rfl) (p_nilchk rfl rfl rfl (p_field Try.underlying122 rfl Try.sizeOf120 (2) rfl rfl rfl rfl (p_load Try.isAgg120 rfl rfl rfl ((htiB.keep E218 id).get rfl) (p_call (v := .int .i64 (sumT (((nth V.hl ((x.to).toNat)).xs).map HLay.v))) own86 rfl rfl rfl rfl (fun _ u234 => (tons_c ((nth V.hl ((x.to).toNat)).xs) ((nth V.hl ((x.to).toNat)).ao) (nth V.hl ((x.to).toNat)).g 0 ((nth V.hl ((x.to).toNat)).cp) _ ((((hv.ext (E218.nx u234))).hold (nth V.hl ((x.to).toNat)) (nth_mem (by omega))).lays.acc.sl (fun _ => rfl)) (hvo.few (nth_mem (by omega))).1 (hvo.few (nth_mem (by omega))).2.1)) (p_field Try.underlying41 rfl Try.sizeOf3 (5) rfl rfl rfl rfl (p_load Try.isAgg3 rfl rfl rfl (B232.get rfl) (p_ari rfl rfl rfl rfl rfl (by omega) (p_move rfl rfl rfl (p_nilchk rfl rfl rfl (p_field Try.underlying118 rfl Try.sizeOf114 (2) rfl rfl rfl rfl (p_load Try.isAgg114 rfl rfl rfl (B231.get rfl) (p_field Try.underlying41 rfl Try.sizeOf3 (4) rfl rfl rfl rfl (p_load Try.isAgg3 rfl rfl rfl (B232.get rfl) ?_))))))))))))))
   have i236 : (x.to).toNat < V.hl.length := (by omega)
   refine p_index (j := (x.to).toNat) Try.underlying114 Try.sizeOf119 rfl rfl rfl rfl ((((hv.ext E218)).pacc.sl (fun _ => rfl)).addr (by omega)) (by omega) i236 (p_load Try.isAgg119 rfl rfl rfl (((((hv.ext E218)).pacc.sl (fun _ => rfl)).at_ ((x.to).toNat) (by omega)) 0 _ rfl) (p_nilchk rfl rfl rfl (p_field Try.underlying122 rfl Try.sizeOf90 (0) rfl rfl rfl rfl (p_field Try.underlying90 rfl Try.sizeOf3 (1) rfl rfl rfl rfl (p_load Try.isAgg3 rfl rfl rfl ((htiB.keep E218 id).get rfl) (p_cmp rfl rfl rfl rfl rfl (p_pick_t rfl rfl rfl rfl (p_move rfl rfl rfl (p_splitp 199 rfl (fun g199 => ?_) (fun g199 => ?_))))))))))
   ·
    refine p_field Try.underlying41 rfl Try.sizeOf3 (5) rfl rfl rfl rfl (p_load Try.isAgg3 rfl rfl rfl (B232.get rfl) (p_cmp rfl rfl rfl rfl rfl (p_pick_t rfl rfl rfl rfl (p_nil fun w237 u238 => ?_))))
    have zu238 := u238.size
    refine t_nil' ?_
    exact hK222 () _ _ ⟨(congrArg some (congrArg Value.bool (by first | (simp [c6, *]; done) | simp_all [c6]))), trivial⟩ ((Upd.refl _ _).next u238 (fun _ _ h => h.elim))
   refine p_skip rfl rfl rfl (p_skip rfl rfl rfl (p_skip rfl rfl rfl (p_pick_f rfl rfl rfl rfl (p_nil fun w240 u241 => ?_))))
   have zu241 := u241.size
   refine t_nil' ?_
   exact hK222 () _ _ ⟨(congrArg some (congrArg Value.bool (by first | (simp [c6, *]; done) | simp_all [c6]))), trivial⟩ ((Upd.refl _ _).next u241 (fun _ _ h => h.elim))
  refine p_skip rfl rfl rfl (p_skip rfl rfl rfl (p_skip rfl rfl rfl (p_skip rfl rfl rfl (p_skip rfl rfl rfl (p_skip rfl rfl rfl (p_skip rfl rfl rfl (p_skip rfl rfl rfl (p_skip rfl rfl rfl (p_skip rfl rfl rfl (p_skip rfl rfl rfl (p_skip rfl rfl rfl (p_skip rfl rfl rfl (p_skip rfl rfl rfl (p_skip rfl rfl rfl (p_skip rfl rfl rfl (p_skip rfl rfl rfl (p_skip rfl rfl rfl (p_skip rfl rfl rfl (p_skip rfl rfl rfl (p_skip rfl rfl rfl (p_skip rfl rfl rfl (p_skip rfl rfl rfl (p_skip rfl rfl rfl ?_)))))))))))))))))))))))
  refine p_skip rfl rfl rfl (p_skip rfl rfl rfl (p_skip rfl rfl rfl (p_skip rfl rfl rfl (p_pick_f rfl rfl rfl rfl (p_move rfl rfl rfl (p_skip rfl rfl rfl (p_skip rfl rfl rfl (p_skip rfl rfl rfl (p_pick_f rfl rfl rfl rfl (p_nil fun w243 u244 => ?_))))))))))
  have zu244 := u244.size
  refine t_nil' ?_
  exact hK222 () _ _ ⟨(congrArg some (congrArg Value.bool (by first | (simp [c6, *]; done) | simp_all [c6]))), trivial⟩ ((Upd.refl _ _).next u244 (fun _ _ h => h.elim))
 intro _x w223 u224
 have zu224 := u224.size
 have E246 := E218.nx u224
 refine c_cond rfl (fun g203 => ?_) (fun g203 => ?_)
 ·
  refine c_seq fun K247 hK247 => (c_region (t_assign rfl rfl rfl (t_nil' (hK247 _ _ (c_ret (f_ret1 (v := .int .i64 8) Try.results73 rfl ?_))))))
  exact ⟨congrArg (Value.int .i64) (by unfold chkV; rw [if_neg hst1.1, if_neg (by rw [hst1.2.1]; simp), if_neg (by rw [hst1.2.2.1]; simp), if_neg (by rw [hst1.2.2.2]; simp), if_neg (by rw [hst2]; simp), if_neg (by simpa using g167), if_pos g203]), E246⟩
 refine c_skip (hK220 _ _ (c_seq fun K248 hK248 => (c_region (t_assign rfl rfl rfl (t_nil' (hK248 _ _ (c_ret (f_ret1 (v := .int .i64 0) Try.results73 rfl ?_))))))))
 exact ⟨congrArg (Value.int .i64) (by unfold chkV; rw [if_neg hst1.1, if_neg (by rw [hst1.2.1]; simp), if_neg (by rw [hst1.2.2.1]; simp), if_neg (by rw [hst1.2.2.2]; simp), if_neg (by rw [hst2]; simp), if_neg (by simpa using g167), if_neg (by simpa using g203)]), E246⟩

end Go.Proofs.Ytblkphbblkncdaa
