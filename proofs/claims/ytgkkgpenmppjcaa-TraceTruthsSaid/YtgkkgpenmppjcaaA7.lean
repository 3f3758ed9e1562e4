/-
  A voyage in memory; check. Conditions: none.
-/
import Derived.Test.YtgkkgpenmppjcaaA2
import Derived.Test.YtgkkgpenmppjcaaSeb
namespace Go.Proofs.Ytgkkgpenmppjcaa
open Go Go.RowKit

/-- A hold in memory. -/
structure HG where
  p : Nat
  hull : Int
  cap : Int
  ao : Option Addr
  g : Nat
  cp : Nat
  xs : List HLay
  sealed : Bool
instance : Inhabited HG := ⟨⟨default, default, default, default, default, default, default, default⟩⟩
def HG.cells (h : HG) : List Value := [.int .i64 h.hull, .int .i64 h.cap, .slice h.ao h.xs.length h.cp, .bool h.sealed]
def encPt (h : HG) : List Value := [.pointer (some ⟨h.p, 0, none⟩)]
/-- A landing in memory. -/
structure LG where
  ev : Int
  port : Int
  ao : Option Addr
  g : Nat
  cp : Nat
  xs : List HLay
instance : Inhabited LG := ⟨⟨default, default, default, default, default, default⟩⟩
def encLG (x : LG) : List Value := [.int .i64 x.ev, .int .i64 x.port, .slice x.ao x.xs.length x.cp]
/-- A voyage in memory. -/
structure VG where
  bs : List Bil
  ab : Option Addr
  bb : Nat
  ob : Nat
  cb : Nat
  hs : List Hld
  ah : Option Addr
  ch : Nat
  hl : List HG
  pa : Option Addr
  pg : Nat
  pc : Nat
  ls : List Int
  lb : Nat
  sl : List Int
  r : Nat
  ld : List LG
  da : Option Addr
  dg : Nat
  dc : Nat
  mi : Int
instance : Inhabited VG := ⟨⟨default, default, default, default, default, default, default, default, default, default, default, default, default, default, default, default, default, default, default, default, default⟩⟩
def VG.cells (V : VG) : List Value := [.slice V.ab V.bs.length V.cb, .slice V.ah V.hs.length V.ch, .slice V.pa V.hl.length V.pc, .slice (some ⟨V.lb, 0, none⟩) V.ls.length V.ls.length, .map (some V.r), .slice V.da V.ld.length V.dc, .int .i64 V.mi]
def PathM (base : Nat) (w : World) (lb : Nat) (x : HLay) : Prop := Acc encI 1 3 base w x.ao x.b x.cap x.v.path ∧ (base ≤ x.b → x.b ≠ lb)
theorem PathM.keep {base : Nat} {w w' : World} {lb : Nat} {x : HLay} {S : Nat → Prop} (h : PathM base w lb x) (u : Upd S w w') (hn : base ≤ x.b → ¬ S x.b) : PathM base w' lb x := ⟨h.1.keep u hn, h.2⟩
/-- Layers in memory. -/
structure LaysM (base : Nat) (w : World) (lb : Nat) (ao : Option Addr) (g cp : Nat) (xs : List HLay) : Prop where
  acc : Acc encHLay 3 97 base w ao g cp xs
  path : ∀ x ∈ xs, PathM base w lb x
structure HoldM (base : Nat) (w : World) (lb : Nat) (h : HG) : Prop where
  blk : Blk w h.p 122 h.cells
  pge : base ≤ h.p
  lays : LaysM base w lb h.ao h.g h.cp h.xs
/-- A voyage lies in memory, all of it from base on. -/
structure Voy (base pv : Nat) (w : World) (V : VG) : Prop where
  pge : base ≤ pv
  blk : Blk w pv 118 V.cells
  bil : Sl encBil 3 w V.ab V.bb V.ob V.bs
  bold : 0 < V.bs.length → V.bb < base
  pacc : Acc encPt 1 119 base w V.pa V.pg V.pc V.hl
  hold : ∀ h ∈ V.hl, HoldM base w V.lb h
  pne : ∀ i j, i < j → j < V.hl.length → (nth V.hl i).p ≠ (nth V.hl j).p
  gne : ∀ i j, i < j → j < V.hl.length → base ≤ (nth V.hl i).g → (nth V.hl i).g ≠ (nth V.hl j).g
  lblk : Blk w V.lb 3 (V.ls.map (Value.int .i64))
  lge : base ≤ V.lb
  seals : SetB V.sl w V.r
  rge : base ≤ V.r
  dacc : Acc encLG 3 125 base w V.da V.dg V.dc V.ld
  land : ∀ x ∈ V.ld, LaysM base w V.lb x.ao x.g x.cp x.xs
  lne : ∀ x ∈ V.ld, ∀ h ∈ V.hl, base ≤ h.g → h.g ≠ x.g
theorem LaysM.keep {base : Nat} {w w' : World} {lb : Nat} {ao : Option Addr} {g cp : Nat} {xs : List HLay} {S : Nat → Prop} (h : LaysM base w lb ao g cp xs) (u : Upd S w w') (hg : base ≤ g → ¬ S g) (hp : ∀ x ∈ xs, base ≤ x.b → ¬ S x.b) : LaysM base w' lb ao g cp xs :=
  ⟨h.acc.keep u hg, fun x hx => (h.path x hx).keep u (hp x hx)⟩
theorem HoldM.keep {base : Nat} {w w' : World} {lb : Nat} {h : HG} {S : Nat → Prop} (h1 : HoldM base w lb h) (u : Upd S w w') (hq : ¬ S h.p) (hg : base ≤ h.g → ¬ S h.g) (hp : ∀ x ∈ h.xs, base ≤ x.b → ¬ S x.b) : HoldM base w' lb h :=
  ⟨h1.blk.keep u hq, h1.pge, h1.lays.keep u hg hp⟩
/-- Nothing of a voyage has turned. -/
theorem Voy.ext {base pv : Nat} {w w' : World} {V : VG} (h : Voy base pv w V) (u : Ext w w') : Voy base pv w' V :=
  ⟨h.pge, h.blk.keep u id, h.bil.keep u (fun _ h => h), h.bold, h.pacc.keep u (fun _ h => h), fun x hx => (h.hold x hx).keep u id (fun _ h => h) (fun _ _ _ h => h), h.pne, h.gne, h.lblk.keep u id, h.lge, h.seals.keep u id, h.rge, h.dacc.keep u (fun _ h => h), fun x hx => (h.land x hx).keep u (fun _ h => h) (fun _ _ _ h => h), h.lne⟩
def c2 (V : VG) (x : Ev) : Bool := (useF x && decide ((V.hl.length : Int) ≤ x.frm)) || (useT x && decide ((V.hl.length : Int) ≤ x.to)) || (decide (x.kind = 1) && decide ((V.bs.length : Int) ≤ x.bill))
def c3 (x : Ev) : Bool := useF x && useT x && decide (x.frm = x.to)
def c4 (V : VG) (x : Ev) : Bool := (useF x && ((nth V.hl (x.frm).toNat).sealed != decide (x.kind = 5))) || (useT x && (nth V.hl (x.to).toNat).sealed)
def c5 (V : VG) (x : Ev) : Bool := useF x && decide (sumT ((nth V.hl (x.frm).toNat).xs.map HLay.v) < x.tons)
def c6 (V : VG) (x : Ev) : Bool := useT x && decide ((nth V.hl (x.to).toNat).cap < sumT ((nth V.hl (x.to).toNat).xs.map HLay.v) + x.tons) && decide (0 < x.tons)
/-- What check returns. -/
def chkK (V : VG) (x : Ev) : Int :=
  if x.kind = 1 then (if x.port ≠ (nth V.bs (x.bill).toNat).frm then 9 else if (nth V.bs (x.bill).toNat).tons < nth V.ls (x.bill).toNat + x.tons then 6 else 0) else if x.kind = 4 ∧ x.sn ∈ V.sl then 6 else 0
def chkV (V : VG) (x : Ev) : Int :=
  if x.minute < V.mi then 9 else if c2 V x = true then 7 else if c3 x = true then 6 else if c4 V x = true then 9 else if chkK V x ≠ 0 then chkK V x else if c5 V x = true then 3 else if c6 V x = true then 8 else 0
/-- A landing: its event, its port, its parts. -/
structure Lnd where
  ev : Int
  port : Int
  parts : List Lay
instance : Inhabited Lnd := ⟨⟨default, default, default⟩⟩
/-- What has happened: the layers of each hold, which holds are sealed, what was landed, how many tons of each bill were loaded, the seals. -/
structure Stt where
  hold : List (List Lay)
  sealed : List Bool
  landed : List Lnd
  loaded : List Int
  seals : List Int
instance : Inhabited Stt := ⟨⟨default, default, default, default, default⟩⟩
def VG.st (V : VG) : Stt := ⟨V.hl.map (fun h => h.xs.map HLay.v), V.hl.map HG.sealed, V.ld.map (fun l => ⟨l.ev, l.port, l.xs.map HLay.v⟩), V.ls, V.sl⟩
def LayOk (n : Nat) (x : Lay) : Prop := 1 ≤ x.tons ∧ x.tons ≤ 1000000 ∧ x.path.length ≤ n
/-- What is known of the numbers, after n events. -/
structure StOk (bs : List Bil) (caps : List Int) (n : Nat) (S : Stt) : Prop where
  hn : S.hold.length = caps.length
  h20 : caps.length ≤ 20
  sn : S.sealed.length = caps.length
  bn : bs.length ≤ 30
  lsn : S.loaded.length = bs.length
  bil : ∀ b ∈ bs, okBil b = true
  cap : ∀ i, i < caps.length → (0 ≤ nth caps i ∧ nth caps i ≤ 1000000) ∧ sumT (nth S.hold i) ≤ nth caps i
  tons : ∀ l ∈ S.hold, ∀ x ∈ l, LayOk n x
  ldn : S.landed.length ≤ n
  ldt : ∀ l ∈ S.landed, (∀ x ∈ l.parts, LayOk n x) ∧ sumT l.parts ≤ 1000000 ∧ (0 ≤ l.ev ∧ l.ev < n) ∧ (0 ≤ l.port ∧ l.port ≤ 99)
  lsr : ∀ i, i < S.loaded.length → 0 ≤ nth S.loaded i ∧ nth S.loaded i ≤ (nth bs i).tons
structure VOk (n : Nat) (V : VG) : Prop where
  ok : StOk V.bs (V.hl.map HG.cap) n V.st
  mi : 0 ≤ V.mi ∧ V.mi ≤ 1000000
theorem sumT_len {l : List Lay} (h : ∀ x ∈ l, 1 ≤ x.tons) : (l.length : Int) ≤ sumT l := by
  induction l with
  | nil => simp [sumT]
  | cons a l ih =>
    have h1 := ih (fun x hx => h x (by simp [hx]))
    have h2 := h a (by simp)
    rw [List.length_cons, sumT]; omega
theorem nth_map {α β : Type} [Inhabited α] [Inhabited β] (f : α → β) {xs : List α} {i : Nat} (h : i < xs.length) : nth (xs.map f) i = f (nth xs i) := by
  rw [nth_eq (by simpa using h), nth_eq h]; simp
theorem VOk.hn {n : Nat} {V : VG} (h : VOk n V) : V.hl.length ≤ 20 := by have := h.ok.h20; rwa [List.length_map] at this
theorem VOk.lsn {n : Nat} {V : VG} (h : VOk n V) : V.ls.length = V.bs.length := h.ok.lsn
theorem VOk.bil {n : Nat} {V : VG} (h : VOk n V) : ∀ b ∈ V.bs, okBil b = true := h.ok.bil
theorem VOk.lsr {n : Nat} {V : VG} (h : VOk n V) : ∀ i, i < V.ls.length → 0 ≤ nth V.ls i ∧ nth V.ls i ≤ (nth V.bs i).tons := h.ok.lsr
theorem VOk.tons {n : Nat} {V : VG} (h : VOk n V) {q : HG} (hq : q ∈ V.hl) {x : HLay} (hx : x ∈ q.xs) : LayOk n x.v := h.ok.tons _ (List.mem_map.2 ⟨q, hq, rfl⟩) _ (List.mem_map.2 ⟨x, hx, rfl⟩)
theorem VOk.cap {n : Nat} {V : VG} (h : VOk n V) {q : HG} (hq : q ∈ V.hl) : (0 ≤ q.cap ∧ q.cap ≤ 1000000) ∧ sumT (q.xs.map HLay.v) ≤ q.cap := by
  obtain ⟨i, hi, rfl⟩ := List.mem_iff_getElem.1 hq
  have h1 := h.ok.cap i (by simpa using hi)
  have h2 : nth V.st.hold i = (nth V.hl i).xs.map HLay.v := nth_map (fun h : HG => h.xs.map HLay.v) hi
  rw [nth_map HG.cap hi, h2] at h1
  rw [← nth_eq hi]; exact h1
theorem VOk.few {n : Nat} {V : VG} (h : VOk n V) {q : HG} (hq : q ∈ V.hl) : q.xs.length ≤ 1000000 ∧ (∀ x ∈ q.xs, 0 ≤ x.v.tons ∧ x.v.tons ≤ 1000000) ∧ 0 ≤ sumT (q.xs.map HLay.v) ∧ sumT (q.xs.map HLay.v) ≤ 1000000 ∧ 0 ≤ q.cap ∧ q.cap ≤ 1000000 ∧ (q.xs.length : Int) ≤ sumT (q.xs.map HLay.v) := by
  have h1 := h.cap hq
  have h3 : ((q.xs.map HLay.v).length : Int) ≤ sumT (q.xs.map HLay.v) := sumT_len (fun y hy => by obtain ⟨x, hx, rfl⟩ := List.mem_map.1 hy; exact (h.tons hq hx).1)
  rw [List.length_map] at h3
  refine ⟨by omega, fun x hx => ?_, by omega, by omega, by omega, by omega, h3⟩
  have := h.tons hq hx
  unfold LayOk at this; omega
theorem VOk.fewL {n : Nat} {V : VG} (h : VOk n V) {q : LG} (hq : q ∈ V.ld) : q.xs.length ≤ 1000000 ∧ (∀ x ∈ q.xs, 0 ≤ x.v.tons ∧ x.v.tons ≤ 1000000) ∧ 0 ≤ sumT (q.xs.map HLay.v) ∧ sumT (q.xs.map HLay.v) ≤ 1000000 ∧ (0 ≤ q.ev ∧ q.ev < n) ∧ (0 ≤ q.port ∧ q.port ≤ 99) := by
  have h2 := h.ok.ldt ⟨q.ev, q.port, q.xs.map HLay.v⟩ (List.mem_map.2 ⟨q, hq, rfl⟩)
  have h3 : ((q.xs.map HLay.v).length : Int) ≤ sumT (q.xs.map HLay.v) := sumT_len (fun y hy => (h2.1 y hy).1)
  rw [List.length_map] at h3
  have h4 := h2.2
  simp only [] at h4
  refine ⟨by omega, fun x hx => ?_, by omega, by omega, h4.2⟩
  have := h2.1 x.v (List.mem_map.2 ⟨x, hx, rfl⟩)
  unfold LayOk at this; omega
theorem okEv_rng {x : Ev} (h : okEv x = true) : (0 ≤ x.minute ∧ x.minute ≤ 1000000) ∧ 0 ≤ x.bill ∧ 0 ≤ x.frm ∧ 0 ≤ x.to ∧ (0 ≤ x.tons ∧ x.tons ≤ 1000000) ∧ (1 ≤ x.kind ∧ x.kind ≤ 5) ∧ (x.kind ≤ 3 → 1 ≤ x.tons) ∧ (3 < x.kind → x.tons = 0) ∧ (x.kind = 3 → 0 ≤ x.port ∧ x.port ≤ 99) := by
  simp only [okEv, okEv0, okTons, okPort, Bool.and_eq_true, Bool.or_eq_true, decide_eq_true_eq] at h
  omega

theorem own73 : Own Try.prog 73 := ⟨Try.f73, Try.func73, by kernel_rfl, by kernel_rfl⟩

set_option maxHeartbeats 4000000 in
theorem check_c (base pv n : Nat) (V : VG) (x : Ev) (w0 : World) (hv : Voy base pv w0 V) (hvo : VOk n V) (hx : okEv x = true) :
    CallsV Try.prog 73 [.pointer (some ⟨pv, 0, none⟩), .agg #[.int .i64 x.kind, .int .i64 x.minute, .int .i64 x.bill, .int .i64 x.frm, .int .i64 x.to, .int .i64 x.tons, .int .i64 x.port, .int .i64 x.sn]] w0 (fun v w' => v = .int .i64 (chkV V x) ∧ Ext w0 w') := by
 have hpb := hv.blk
 have hxr := okEv_rng hx
 have hmi := hvo.mi
 have hn20 := hvo.hn
 have hlsn := hvo.lsn
 have E0 := Upd.refl (fun _ => False) w0
 refine f_enter (N := 204) Try.func73 rfl rfl rfl ?_
 change WC _ _ _ _ _ _ [(0, .pointer (some ⟨pv, 0, none⟩)), (1, .agg #[.int .i64 x.kind, .int .i64 x.minute, .int .i64 x.bill, .int .i64 x.frm, .int .i64 x.to, .int .i64 x.tons, .int .i64 x.port, .int .i64 x.sn])] _
 refine c_seq fun K1 hK1 => (c_region (t_box (cs := [.int .i64 x.kind, .int .i64 x.minute, .int .i64 x.bill, .int .i64 x.frm, .int .i64 x.to, .int .i64 x.tons, .int .i64 x.port, .int .i64 x.sn]) rfl rfl rfl rfl (fun bk2 w3 ebk2 sbk2 B4 u5 => ?_)))
 have zu5 := u5.size
 have E6 := E0.next u5 (fun _ _ h => h.elim)
 refine t_assign rfl rfl rfl (t_nil' (hK1 _ _ (c_seq fun K7 hK7 => (c_region (t_loadN (vs := [.int .i64 x.kind, .int .i64 x.minute, .int .i64 x.bill, .int .i64 x.frm, .int .i64 x.to, .int .i64 x.tons, .int .i64 x.port, .int .i64 x.sn]) Try.isAgg41 Try.sizeOf41 rfl rfl rfl (B4.at.sub 0 8) rfl (t_call (vs := [.agg #[.int .i64 x.kind, .int .i64 x.minute, .int .i64 x.bill, .int .i64 x.frm, .int .i64 x.to, .int .i64 x.tons, .int .i64 x.port, .int .i64 x.sn]]) own85 rfl rfl rfl rfl (uses_c x _) (fun v8 w9 r11 => ?_)))))))
 obtain ⟨rfl, u10⟩ := r11
 have zu10 := u10.size
 have E12 := E6.next u10 (fun _ _ h => h.elim)
 refine t_move rfl rfl rfl (t_extract (vs := [.bool (useF x), .bool (useT x)]) rfl rfl rfl rfl (t_extract (vs := [.bool (useF x), .bool (useT x)]) rfl rfl rfl rfl (t_assign rfl rfl rfl (t_assign rfl rfl rfl (t_nil' (hK7 _ _ (c_cut (γ := Unit) (fun _x => [(0, .pointer (some ⟨pv, 0, none⟩)), (3, .pointer (some ⟨bk2, 0, none⟩)), (5, .bool (useF x)), (6, .bool (useT x))]) (fun _x w => Upd (fun _ => False) w9 w ∧ (¬ x.minute < V.mi ∧ c2 V x = false ∧ c3 x = false ∧ c4 V x = false)) (fun K14 hK14 => ?_) ?_)))))))
 ·
  refine c_block (c_seq fun K17 hK17 => ?_)
  have B18 := ((hpb.keep u5 (fun h => h)).keep u10 (fun h => h))
  have B19 := (B4.keep u10 (fun h => h))
  refine WC.weak [(0, .pointer (some ⟨pv, 0, none⟩)), (3, .pointer (some ⟨bk2, 0, none⟩)), (5, .bool (useF x)), (6, .bool (useT x))] ⟨rfl, rfl, rfl, rfl, trivial⟩ (c_drawn follows 8 [some (13, some (.pointer (some ⟨bk2, 1, none⟩))), some (14, some (.int .i64 x.minute)), some (15, some (.pointer (some ⟨pv, 0, none⟩))), some (16, some (.pointer (some ⟨pv, 0, none⟩))), some (17, some (.pointer (some ⟨pv, 6, none⟩))), some (18, some (.int .i64 V.mi)), some (19, some (.bool (decide (x.minute < V.mi)))), some (12, some (.bool (decide (x.minute < V.mi))))] [[],[0],[],[2],[3],[4],[1,5],[6]] (fun _ _ w => Upd (fun _ => False) w9 w) rfl rfl rfl (by kernel_rfl) (by kernel_rfl) (Upd.drew _).to ⟨?_, ?_, ?_, ?_, ?_, ?_, ?_, ?_, trivial⟩ ?_)
  · exact pzf Try.underlying41 rfl Try.sizeOf3 (1) rfl rfl rfl rfl rfl fun _ _ _ h => h
  ·
   intro D ρ w20 hcD hnD hdD hW
   have zhW := hW.size
   refine ⟨_, kf_fr [13], fun Lr => ?_⟩
   have B23 := (B19.keep hW (fun h => h))
   refine t_load Try.isAgg3 rfl rfl rfl (B23.get rfl) ?_
   exact dz rfl hW
  · exact pz rfl rfl rfl rfl fun _ _ _ h => h
  · exact pz rfl rfl rfl rfl fun _ _ _ h => h
  · exact pzf Try.underlying118 rfl Try.sizeOf3 (6) rfl rfl rfl rfl rfl fun _ _ _ h => h
  ·
   intro D ρ w24 hcD hnD hdD hW
   have zhW := hW.size
   refine ⟨_, kf_fr [17], fun Lr => ?_⟩
   have B27 := (B18.keep hW (fun h => h))
   refine t_load Try.isAgg3 rfl rfl rfl (B27.get rfl) ?_
   exact dz rfl hW
  · exact pz rfl rfl rfl rfl fun _ _ _ h => h
  · exact pz rfl rfl rfl rfl fun _ _ _ h => h
  intro ρ w28 hW
  have u29 : Upd (fun _ => False) w9 w28 := hW
  have zu29 := u29.size
  have E30 := E12.next u29 (fun _ _ h => h.elim)
  refine QK.weak [(0, .pointer (some ⟨pv, 0, none⟩)), (3, .pointer (some ⟨bk2, 0, none⟩)), (5, .bool (useF x)), (6, .bool (useT x)), (12, .bool (decide (x.minute < V.mi)))] ⟨rfl, rfl, rfl, rfl, rfl, trivial⟩ (hK17 _ _ (c_condp rfl (fun g12 => ?_) (fun g12 => ?_)))
  ·
   refine c_seq fun K31 hK31 => (c_region (t_assign rfl rfl rfl (t_nil' (hK31 _ _ (c_ret (f_ret1 (v := .int .i64 9) Try.results73 rfl ?_))))))
   exact ⟨congrArg (Value.int .i64) (by unfold chkV; rw [if_pos g12]), E30⟩
  ·
   refine c_cut (γ := Unit) (fun _x => [(0, .pointer (some ⟨pv, 0, none⟩)), (3, .pointer (some ⟨bk2, 0, none⟩)), (5, .bool (useF x)), (6, .bool (useT x)), (20, .bool (c2 V x))]) (fun _x w => Upd (fun _ => False) w28 w) (fun K33 hK33 => ?_) ?_
   ·
    refine c_seq fun K36 hK36 => ?_
    have B37 := (B18.keep u29 (fun h => h))
    have B38 := (B19.keep u29 (fun h => h))
    rcases Bool.eq_false_or_eq_true ((useF x)) with g22 | g22
    ·
     refine WC.weak [(0, .pointer (some ⟨pv, 0, none⟩)), (3, .pointer (some ⟨bk2, 0, none⟩)), (5, .bool (useF x)), (6, .bool (useT x))] ⟨rfl, rfl, rfl, rfl, trivial⟩ (c_drawn follows 12 [some (21, some (.bool (useF x))), some (22, some (.bool true)), some (23, some (.pointer (some ⟨bk2, 3, none⟩))), some (24, some (.int .i64 x.frm)), some (25, some (.pointer (some ⟨pv, 0, none⟩))), some (26, some (.pointer (some ⟨pv, 0, none⟩))), some (27, some (.pointer (some ⟨pv, 2, none⟩))), some (28, some (.slice V.pa V.hl.length V.pc)), some (29, some (.int .i64 (V.hl.length : Int))), some (30, some (.bool (decide ((V.hl.length : Int) ≤ x.frm)))), some (31, some (.bool (decide ((V.hl.length : Int) ≤ x.frm)))), some (20, some (.bool (decide ((V.hl.length : Int) ≤ x.frm))))] [[],[0],[1],[2,1],[1],[4,1],[5,1],[6,1],[7,1],[3,8,1],[1,9],[10,1]] (fun _ _ w => Upd (fun _ => False) w28 w) rfl rfl rfl (by kernel_rfl) (by kernel_rfl) (Upd.drew _).to ⟨?_, ?_, ?_, ?_, ?_, ?_, ?_, ?_, ?_, ?_, ?_, ?_, trivial⟩ ?_)
     · exact pz rfl rfl rfl rfl fun _ _ _ h => h
     · exact fun D ρ w _ _ _ hW => ⟨[(21, .bool (useF x))], ⟨fi 0 rfl rfl rfl, trivial⟩, fun Lr => t_move rfl rfl rfl (t_samehd (v := .bool true) (by first | exact congrArg Value.bool (decide_eq_true g22) | exact congrArg Value.bool g22 | simp [g22]) (dz rfl hW))⟩
     · exact pzf Try.underlying41 rfl Try.sizeOf3 (3) rfl rfl rfl rfl rfl fun _ _ _ h => h
     ·
      intro D ρ w39 hcD hnD hdD hW
      have zhW := hW.size
      refine ⟨_, kf_fr [22, 23], fun Lr => ?_⟩
      have B42 := (B38.keep hW (fun h => h))
      refine t_load Try.isAgg3 rfl rfl rfl (B42.get rfl) ?_
      exact dz rfl hW
     · exact pz rfl rfl rfl rfl fun _ _ _ h => h
     · exact pz rfl rfl rfl rfl fun _ _ _ h => h
     · exact pzf Try.underlying118 rfl Try.sizeOf114 (2) rfl rfl rfl rfl rfl fun _ _ _ h => h
     ·
      intro D ρ w43 hcD hnD hdD hW
      have zhW := hW.size
      refine ⟨_, kf_fr [22, 27], fun Lr => ?_⟩
      have B46 := (B37.keep hW (fun h => h))
      refine t_load Try.isAgg114 rfl rfl rfl (B46.get rfl) ?_
      exact dz rfl hW
     ·
      intro D ρ w47 hcD hnD hdD hW
      have zhW := hW.size
      refine ⟨_, kf_fr [22, 28], fun Lr => ?_⟩
      refine t_len Try.underlying114 rfl rfl rfl rfl ?_
      exact dz rfl hW
     · exact pz rfl rfl rfl rfl fun _ _ _ h => h
     · exact pz rfl rfl rfl rfl fun _ _ _ h => h
     · exact pz rfl rfl rfl rfl fun _ _ _ h => h
     intro ρ w50 hW
     have u51 : Upd (fun _ => False) w28 w50 := hW
     have zu51 := u51.size
     refine QK.weak [(0, .pointer (some ⟨pv, 0, none⟩)), (3, .pointer (some ⟨bk2, 0, none⟩)), (5, .bool (useF x)), (6, .bool (useT x)), (20, .bool (decide ((V.hl.length : Int) ≤ x.frm)))] ⟨rfl, rfl, rfl, rfl, rfl, trivial⟩ (hK36 _ _ (c_condp rfl (fun g20 => ?_) (fun g20 => ?_)))
     ·
      refine c_skip ?_
      exact hK33 () _ _ ⟨rfl, rfl, rfl, rfl, (congrArg some (congrArg Value.bool (by first | (simp [c2, *]; done) | simp_all [c2]))), trivial⟩ ((Upd.refl _ _).next u51 (fun _ _ h => h.elim))
     ·
      refine c_seq fun K53 hK53 => ?_
      have B54 := (B37.keep u51 (fun h => h))
      have B55 := (B38.keep u51 (fun h => h))
      rcases Bool.eq_false_or_eq_true ((useT x)) with g33 | g33
      ·
       refine WC.weak [(0, .pointer (some ⟨pv, 0, none⟩)), (3, .pointer (some ⟨bk2, 0, none⟩)), (5, .bool (useF x)), (6, .bool (useT x))] ⟨rfl, rfl, rfl, rfl, trivial⟩ (c_drawn follows 12 [some (32, some (.bool (useT x))), some (33, some (.bool true)), some (34, some (.pointer (some ⟨bk2, 4, none⟩))), some (35, some (.int .i64 x.to)), some (36, some (.pointer (some ⟨pv, 0, none⟩))), some (37, some (.pointer (some ⟨pv, 0, none⟩))), some (38, some (.pointer (some ⟨pv, 2, none⟩))), some (39, some (.slice V.pa V.hl.length V.pc)), some (40, some (.int .i64 (V.hl.length : Int))), some (41, some (.bool (decide ((V.hl.length : Int) ≤ x.to)))), some (42, some (.bool (decide ((V.hl.length : Int) ≤ x.to)))), some (20, some (.bool (decide ((V.hl.length : Int) ≤ x.to))))] [[],[0],[1],[2,1],[1],[4,1],[5,1],[6,1],[7,1],[3,8,1],[1,9],[10,1]] (fun _ _ w => Upd (fun _ => False) w50 w) rfl rfl rfl (by kernel_rfl) (by kernel_rfl) (Upd.drew _).to ⟨?_, ?_, ?_, ?_, ?_, ?_, ?_, ?_, ?_, ?_, ?_, ?_, trivial⟩ ?_)
       · exact pz rfl rfl rfl rfl fun _ _ _ h => h
       · exact fun D ρ w _ _ _ hW => ⟨[(32, .bool (useT x))], ⟨fi 0 rfl rfl rfl, trivial⟩, fun Lr => t_move rfl rfl rfl (t_samehd (v := .bool true) (by first | exact congrArg Value.bool (decide_eq_true g33) | exact congrArg Value.bool g33 | simp [g33]) (dz rfl hW))⟩
       · exact pzf Try.underlying41 rfl Try.sizeOf3 (4) rfl rfl rfl rfl rfl fun _ _ _ h => h
       ·
        intro D ρ w56 hcD hnD hdD hW
        have zhW := hW.size
        refine ⟨_, kf_fr [33, 34], fun Lr => ?_⟩
        have B59 := (B55.keep hW (fun h => h))
        refine t_load Try.isAgg3 rfl rfl rfl (B59.get rfl) ?_
        exact dz rfl hW
       · exact pz rfl rfl rfl rfl fun _ _ _ h => h
       · exact pz rfl rfl rfl rfl fun _ _ _ h => h
       · exact pzf Try.underlying118 rfl Try.sizeOf114 (2) rfl rfl rfl rfl rfl fun _ _ _ h => h
       ·
        intro D ρ w60 hcD hnD hdD hW
        have zhW := hW.size
        refine ⟨_, kf_fr [33, 38], fun Lr => ?_⟩
        have B63 := (B54.keep hW (fun h => h))
        refine t_load Try.isAgg114 rfl rfl rfl (B63.get rfl) ?_
        exact dz rfl hW
       ·
        intro D ρ w64 hcD hnD hdD hW
        have zhW := hW.size
        refine ⟨_, kf_fr [33, 39], fun Lr => ?_⟩
        refine t_len Try.underlying114 rfl rfl rfl rfl ?_
        exact dz rfl hW
       · exact pz rfl rfl rfl rfl fun _ _ _ h => h
       · exact pz rfl rfl rfl rfl fun _ _ _ h => h
       · exact pz rfl rfl rfl rfl fun _ _ _ h => h
       intro ρ w67 hW
       have u68 : Upd (fun _ => False) w50 w67 := hW
       have zu68 := u68.size
       refine QK.weak [(0, .pointer (some ⟨pv, 0, none⟩)), (3, .pointer (some ⟨bk2, 0, none⟩)), (5, .bool (useF x)), (6, .bool (useT x)), (20, .bool (decide ((V.hl.length : Int) ≤ x.to)))] ⟨rfl, rfl, rfl, rfl, rfl, trivial⟩ (hK53 _ _ (c_condp rfl (fun g20 => ?_) (fun g20 => ?_)))
       ·
        refine c_skip ?_
        exact hK33 () _ _ ⟨rfl, rfl, rfl, rfl, (congrArg some (congrArg Value.bool (by first | (simp [c2, *]; done) | simp_all [c2]))), trivial⟩ (((Upd.refl _ _).next u51 (fun _ _ h => h.elim)).next u68 (fun _ _ h => h.elim))
       ·
        have B70 := (B54.keep u68 (fun h => h))
        have B71 := (B55.keep u68 (fun h => h))
        by_cases g46 : x.kind = 1
        ·
         refine WC.weak [(0, .pointer (some ⟨pv, 0, none⟩)), (3, .pointer (some ⟨bk2, 0, none⟩)), (5, .bool (useF x)), (6, .bool (useT x))] ⟨rfl, rfl, rfl, rfl, trivial⟩ (c_drawn follows 15 [some (43, some (.pointer (some ⟨bk2, 0, none⟩))), some (44, some (.int .i64 x.kind)), some (45, some (.bool (decide (x.kind = 1)))), some (46, some (.bool true)), some (47, some (.pointer (some ⟨bk2, 2, none⟩))), some (48, some (.int .i64 x.bill)), some (49, some (.pointer (some ⟨pv, 0, none⟩))), some (50, some (.pointer (some ⟨pv, 0, none⟩))), some (51, some (.pointer (some ⟨pv, 0, none⟩))), some (52, some (.pointer (some ⟨pv, 0, none⟩))), some (53, some (.slice V.ab V.bs.length V.cb)), some (54, some (.int .i64 (V.bs.length : Int))), some (55, some (.bool (decide ((V.bs.length : Int) ≤ x.bill)))), some (56, some (.bool (decide ((V.bs.length : Int) ≤ x.bill)))), some (20, some (.bool (decide ((V.bs.length : Int) ≤ x.bill))))] [[],[0],[1],[2],[3],[4,3],[3],[6,3],[7,3],[8,3],[9,3],[10,3],[5,11,3],[3,12],[13,3]] (fun _ _ w => Upd (fun _ => False) w67 w) rfl rfl rfl (by kernel_rfl) (by kernel_rfl) (Upd.drew _).to ⟨?_, ?_, ?_, ?_, ?_, ?_, ?_, ?_, ?_, ?_, ?_, ?_, ?_, ?_, ?_, trivial⟩ ?_)
         · exact pzf Try.underlying41 rfl Try.sizeOf39 (0) rfl rfl rfl rfl rfl fun _ _ _ h => h
         ·
          intro D ρ w72 hcD hnD hdD hW
          have zhW := hW.size
          refine ⟨_, kf_fr [43], fun Lr => ?_⟩
          have B75 := (B71.keep hW (fun h => h))
          refine t_load Try.isAgg39 rfl rfl rfl (B75.get rfl) ?_
          exact dz rfl hW
         · exact pz rfl rfl rfl rfl fun _ _ _ h => h
         · exact fun D ρ w _ _ _ hW => ⟨[(45, .bool (decide (x.kind = 1)))], ⟨fi 2 rfl rfl rfl, trivial⟩, fun Lr => t_move rfl rfl rfl (t_samehd (v := .bool true) (by first | exact congrArg Value.bool (decide_eq_true g46) | exact congrArg Value.bool g46 | simp [g46]) (dz rfl hW))⟩
         · exact pzf Try.underlying41 rfl Try.sizeOf3 (2) rfl rfl rfl rfl rfl fun _ _ _ h => h
         ·
          intro D ρ w76 hcD hnD hdD hW
          have zhW := hW.size
          refine ⟨_, kf_fr [46, 47], fun Lr => ?_⟩
          have B79 := (B71.keep hW (fun h => h))
          refine t_load Try.isAgg3 rfl rfl rfl (B79.get rfl) ?_
          exact dz rfl hW
         · exact pz rfl rfl rfl rfl fun _ _ _ h => h
         · exact pz rfl rfl rfl rfl fun _ _ _ h => h
         · exact pzf Try.underlying118 rfl Try.sizeOf25 (0) rfl rfl rfl rfl rfl fun _ _ _ h => h
         · exact pzf Try.underlying25 rfl Try.sizeOf22 (0) rfl rfl rfl rfl rfl fun _ _ _ h => h
         ·
          intro D ρ w80 hcD hnD hdD hW
          have zhW := hW.size
          refine ⟨_, kf_fr [46, 52], fun Lr => ?_⟩
          have B83 := (B70.keep hW (fun h => h))
          refine t_load Try.isAgg22 rfl rfl rfl (B83.get rfl) ?_
          exact dz rfl hW
         ·
          intro D ρ w84 hcD hnD hdD hW
          have zhW := hW.size
          refine ⟨_, kf_fr [46, 53], fun Lr => ?_⟩
          refine t_len Try.underlying22 rfl rfl rfl rfl ?_
          exact dz rfl hW
         · exact pz rfl rfl rfl rfl fun _ _ _ h => h
         · exact pz rfl rfl rfl rfl fun _ _ _ h => h
         · exact pz rfl rfl rfl rfl fun _ _ _ h => h
         intro ρ w87 hW
         have u88 : Upd (fun _ => False) w67 w87 := hW
         have zu88 := u88.size
         refine QK.weak [(0, .pointer (some ⟨pv, 0, none⟩)), (3, .pointer (some ⟨bk2, 0, none⟩)), (5, .bool (useF x)), (6, .bool (useT x)), (20, .bool (decide ((V.bs.length : Int) ≤ x.bill)))] ⟨rfl, rfl, rfl, rfl, rfl, trivial⟩ ?_
         exact hK33 () _ _ ⟨rfl, rfl, rfl, rfl, (congrArg some (congrArg Value.bool (by first | (simp [c2, *]; done) | simp_all [c2]))), trivial⟩ ((((Upd.refl _ _).next u51 (fun _ _ h => h.elim)).next u68 (fun _ _ h => h.elim)).next u88 (fun _ _ h => h.elim))
        ·
         refine WC.weak [(0, .pointer (some ⟨pv, 0, none⟩)), (3, .pointer (some ⟨bk2, 0, none⟩)), (5, .bool (useF x)), (6, .bool (useT x))] ⟨rfl, rfl, rfl, rfl, trivial⟩ (c_drawn follows 15 [some (43, some (.pointer (some ⟨bk2, 0, none⟩))), some (44, some (.int .i64 x.kind)), some (45, some (.bool (decide (x.kind = 1)))), some (46, some (.bool false)), some (47, some (undef)), some (48, some (undef)), some (49, some (undef)), some (50, some (undef)), some (51, some (undef)), some (52, some (undef)), some (53, some (undef)), some (54, some (undef)), some (55, some (undef)), some (56, some (.bool false)), some (20, some (.bool false))] [[],[0],[1],[2],[3],[4,3],[3],[6,3],[7,3],[8,3],[9,3],[10,3],[5,11,3],[3,12],[13,3]] (fun _ _ w => Upd (fun _ => False) w67 w) rfl rfl rfl (by kernel_rfl) (by kernel_rfl) (Upd.drew _).to ⟨?_, ?_, ?_, ?_, ?_, ?_, ?_, ?_, ?_, ?_, ?_, ?_, ?_, ?_, ?_, trivial⟩ ?_)
         · exact pzf Try.underlying41 rfl Try.sizeOf39 (0) rfl rfl rfl rfl rfl fun _ _ _ h => h
         ·
          intro D ρ w90 hcD hnD hdD hW
          have zhW := hW.size
          refine ⟨_, kf_fr [43], fun Lr => ?_⟩
          have B93 := (B71.keep hW (fun h => h))
          refine t_load Try.isAgg39 rfl rfl rfl (B93.get rfl) ?_
          exact dz rfl hW
         · exact pz rfl rfl rfl rfl fun _ _ _ h => h
         · exact fun D ρ w _ _ _ hW => ⟨[(45, .bool (decide (x.kind = 1)))], ⟨fi 2 rfl rfl rfl, trivial⟩, fun Lr => t_move rfl rfl rfl (t_samehd (v := .bool false) (by first | exact congrArg Value.bool (decide_eq_false g46) | exact congrArg Value.bool g46 | simp [g46]) (dz rfl hW))⟩
         · exact pz rfl rfl rfl rfl fun _ _ _ h => h
         · exact pz rfl rfl rfl rfl fun _ _ _ h => h
         · exact pz rfl rfl rfl rfl fun _ _ _ h => h
         · exact pz rfl rfl rfl rfl fun _ _ _ h => h
         · exact pz rfl rfl rfl rfl fun _ _ _ h => h
         · exact pz rfl rfl rfl rfl fun _ _ _ h => h
         · exact pz rfl rfl rfl rfl fun _ _ _ h => h
         · exact pz rfl rfl rfl rfl fun _ _ _ h => h
         · exact pz rfl rfl rfl rfl fun _ _ _ h => h
         · exact pz rfl rfl rfl rfl fun _ _ _ h => h
         · exact pz rfl rfl rfl rfl fun _ _ _ h => h
         intro ρ w94 hW
         have u95 : Upd (fun _ => False) w67 w94 := hW
         have zu95 := u95.size
         refine QK.weak [(0, .pointer (some ⟨pv, 0, none⟩)), (3, .pointer (some ⟨bk2, 0, none⟩)), (5, .bool (useF x)), (6, .bool (useT x)), (20, .bool false)] ⟨rfl, rfl, rfl, rfl, rfl, trivial⟩ ?_
         exact hK33 () _ _ ⟨rfl, rfl, rfl, rfl, (congrArg some (congrArg Value.bool (by first | (simp [c2, *]; done) | simp_all [c2]))), trivial⟩ ((((Upd.refl _ _).next u51 (fun _ _ h => h.elim)).next u68 (fun _ _ h => h.elim)).next u95 (fun _ _ h => h.elim))
      ·
       refine WC.weak [(0, .pointer (some ⟨pv, 0, none⟩)), (3, .pointer (some ⟨bk2, 0, none⟩)), (5, .bool (useF x)), (6, .bool (useT x))] ⟨rfl, rfl, rfl, rfl, trivial⟩ (c_drawn follows 12 [some (32, some (.bool (useT x))), some (33, some (.bool false)), some (34, some (undef)), some (35, some (undef)), some (36, some (undef)), some (37, some (undef)), some (38, some (undef)), some (39, some (undef)), some (40, some (undef)), some (41, some (undef)), some (42, some (.bool false)), some (20, some (.bool false))] [[],[0],[1],[2,1],[1],[4,1],[5,1],[6,1],[7,1],[3,8,1],[1,9],[10,1]] (fun _ _ w => Upd (fun _ => False) w50 w) rfl rfl rfl (by kernel_rfl) (by kernel_rfl) (Upd.drew _).to ⟨?_, ?_, ?_, ?_, ?_, ?_, ?_, ?_, ?_, ?_, ?_, ?_, trivial⟩ ?_)
       · exact pz rfl rfl rfl rfl fun _ _ _ h => h
       · exact fun D ρ w _ _ _ hW => ⟨[(32, .bool (useT x))], ⟨fi 0 rfl rfl rfl, trivial⟩, fun Lr => t_move rfl rfl rfl (t_samehd (v := .bool false) (by first | exact congrArg Value.bool (decide_eq_false g33) | exact congrArg Value.bool g33 | simp [g33]) (dz rfl hW))⟩
       · exact pz rfl rfl rfl rfl fun _ _ _ h => h
       · exact pz rfl rfl rfl rfl fun _ _ _ h => h
       · exact pz rfl rfl rfl rfl fun _ _ _ h => h
       · exact pz rfl rfl rfl rfl fun _ _ _ h => h
       · exact pz rfl rfl rfl rfl fun _ _ _ h => h
       · exact pz rfl rfl rfl rfl fun _ _ _ h => h
       · exact pz rfl rfl rfl rfl fun _ _ _ h => h
       · exact pz rfl rfl rfl rfl fun _ _ _ h => h
       · exact pz rfl rfl rfl rfl fun _ _ _ h => h
       · exact pz rfl rfl rfl rfl fun _ _ _ h => h
       intro ρ w97 hW
       have u98 : Upd (fun _ => False) w50 w97 := hW
       have zu98 := u98.size
       refine QK.weak [(0, .pointer (some ⟨pv, 0, none⟩)), (3, .pointer (some ⟨bk2, 0, none⟩)), (5, .bool (useF x)), (6, .bool (useT x)), (20, .bool false)] ⟨rfl, rfl, rfl, rfl, rfl, trivial⟩ (hK53 _ _ (c_cond_f rfl ?_))
       have B100 := (B54.keep u98 (fun h => h))
       have B101 := (B55.keep u98 (fun h => h))
       by_cases g46 : x.kind = 1
       ·
        refine WC.weak [(0, .pointer (some ⟨pv, 0, none⟩)), (3, .pointer (some ⟨bk2, 0, none⟩)), (5, .bool (useF x)), (6, .bool (useT x))] ⟨rfl, rfl, rfl, rfl, trivial⟩ (c_drawn follows 15 [some (43, some (.pointer (some ⟨bk2, 0, none⟩))), some (44, some (.int .i64 x.kind)), some (45, some (.bool (decide (x.kind = 1)))), some (46, some (.bool true)), some (47, some (.pointer (some ⟨bk2, 2, none⟩))), some (48, some (.int .i64 x.bill)), some (49, some (.pointer (some ⟨pv, 0, none⟩))), some (50, some (.pointer (some ⟨pv, 0, none⟩))), some (51, some (.pointer (some ⟨pv, 0, none⟩))), some (52, some (.pointer (some ⟨pv, 0, none⟩))), some (53, some (.slice V.ab V.bs.length V.cb)), some (54, some (.int .i64 (V.bs.length : Int))), some (55, some (.bool (decide ((V.bs.length : Int) ≤ x.bill)))), some (56, some (.bool (decide ((V.bs.length : Int) ≤ x.bill)))), some (20, some (.bool (decide ((V.bs.length : Int) ≤ x.bill))))] [[],[0],[1],[2],[3],[4,3],[3],[6,3],[7,3],[8,3],[9,3],[10,3],[5,11,3],[3,12],[13,3]] (fun _ _ w => Upd (fun _ => False) w97 w) rfl rfl rfl (by kernel_rfl) (by kernel_rfl) (Upd.drew _).to ⟨?_, ?_, ?_, ?_, ?_, ?_, ?_, ?_, ?_, ?_, ?_, ?_, ?_, ?_, ?_, trivial⟩ ?_)
        · exact pzf Try.underlying41 rfl Try.sizeOf39 (0) rfl rfl rfl rfl rfl fun _ _ _ h => h
        ·
         intro D ρ w102 hcD hnD hdD hW
         have zhW := hW.size
         refine ⟨_, kf_fr [43], fun Lr => ?_⟩
         have B105 := (B101.keep hW (fun h => h))
         refine t_load Try.isAgg39 rfl rfl rfl (B105.get rfl) ?_
         exact dz rfl hW
        · exact pz rfl rfl rfl rfl fun _ _ _ h => h
        · exact fun D ρ w _ _ _ hW => ⟨[(45, .bool (decide (x.kind = 1)))], ⟨fi 2 rfl rfl rfl, trivial⟩, fun Lr => t_move rfl rfl rfl (t_samehd (v := .bool true) (by first | exact congrArg Value.bool (decide_eq_true g46) | exact congrArg Value.bool g46 | simp [g46]) (dz rfl hW))⟩
        · exact pzf Try.underlying41 rfl Try.sizeOf3 (2) rfl rfl rfl rfl rfl fun _ _ _ h => h
        ·
         intro D ρ w106 hcD hnD hdD hW
         have zhW := hW.size
         refine ⟨_, kf_fr [46, 47], fun Lr => ?_⟩
         have B109 := (B101.keep hW (fun h => h))
         refine t_load Try.isAgg3 rfl rfl rfl (B109.get rfl) ?_
         exact dz rfl hW
        · exact pz rfl rfl rfl rfl fun _ _ _ h => h
        · exact pz rfl rfl rfl rfl fun _ _ _ h => h
        · exact pzf Try.underlying118 rfl Try.sizeOf25 (0) rfl rfl rfl rfl rfl fun _ _ _ h => h
        · exact pzf Try.underlying25 rfl Try.sizeOf22 (0) rfl rfl rfl rfl rfl fun _ _ _ h => h
        ·
         intro D ρ w110 hcD hnD hdD hW
         have zhW := hW.size
         refine ⟨_, kf_fr [46, 52], fun Lr => ?_⟩
         have B113 := (B100.keep hW (fun h => h))
         refine t_load Try.isAgg22 rfl rfl rfl (B113.get rfl) ?_
         exact dz rfl hW
        ·
         intro D ρ w114 hcD hnD hdD hW
         have zhW := hW.size
         refine ⟨_, kf_fr [46, 53], fun Lr => ?_⟩
         refine t_len Try.underlying22 rfl rfl rfl rfl ?_
         exact dz rfl hW
        · exact pz rfl rfl rfl rfl fun _ _ _ h => h
        · exact pz rfl rfl rfl rfl fun _ _ _ h => h
        · exact pz rfl rfl rfl rfl fun _ _ _ h => h
        intro ρ w117 hW
        have u118 : Upd (fun _ => False) w97 w117 := hW
        have zu118 := u118.size
        refine QK.weak [(0, .pointer (some ⟨pv, 0, none⟩)), (3, .pointer (some ⟨bk2, 0, none⟩)), (5, .bool (useF x)), (6, .bool (useT x)), (20, .bool (decide ((V.bs.length : Int) ≤ x.bill)))] ⟨rfl, rfl, rfl, rfl, rfl, trivial⟩ ?_
        exact hK33 () _ _ ⟨rfl, rfl, rfl, rfl, (congrArg some (congrArg Value.bool (by first | (simp [c2, *]; done) | simp_all [c2]))), trivial⟩ ((((Upd.refl _ _).next u51 (fun _ _ h => h.elim)).next u98 (fun _ _ h => h.elim)).next u118 (fun _ _ h => h.elim))
       ·
        refine WC.weak [(0, .pointer (some ⟨pv, 0, none⟩)), (3, .pointer (some ⟨bk2, 0, none⟩)), (5, .bool (useF x)), (6, .bool (useT x))] ⟨rfl, rfl, rfl, rfl, trivial⟩ (c_drawn follows 15 [some (43, some (.pointer (some ⟨bk2, 0, none⟩))), some (44, some (.int .i64 x.kind)), some (45, some (.bool (decide (x.kind = 1)))), some (46, some (.bool false)), some (47, some (undef)), some (48, some (undef)), some (49, some (undef)), some (50, some (undef)), some (51, some (undef)), some (52, some (undef)), some (53, some (undef)), some (54, some (undef)), some (55, some (undef)), some (56, some (.bool false)), some (20, some (.bool false))] [[],[0],[1],[2],[3],[4,3],[3],[6,3],[7,3],[8,3],[9,3],[10,3],[5,11,3],[3,12],[13,3]] (fun _ _ w => Upd (fun _ => False) w97 w) rfl rfl rfl (by kernel_rfl) (by kernel_rfl) (Upd.drew _).to ⟨?_, ?_, ?_, ?_, ?_, ?_, ?_, ?_, ?_, ?_, ?_, ?_, ?_, ?_, ?_, trivial⟩ ?_)
        · exact pzf Try.underlying41 rfl Try.sizeOf39 (0) rfl rfl rfl rfl rfl fun _ _ _ h => h
        ·
         intro D ρ w120 hcD hnD hdD hW
         have zhW := hW.size
         refine ⟨_, kf_fr [43], fun Lr => ?_⟩
         have B123 := (B101.keep hW (fun h => h))
         refine t_load Try.isAgg39 rfl rfl rfl (B123.get rfl) ?_
         exact dz rfl hW
        · exact pz rfl rfl rfl rfl fun _ _ _ h => h
        · exact fun D ρ w _ _ _ hW => ⟨[(45, .bool (decide (x.kind = 1)))], ⟨fi 2 rfl rfl rfl, trivial⟩, fun Lr => t_move rfl rfl rfl (t_samehd (v := .bool false) (by first | exact congrArg Value.bool (decide_eq_false g46) | exact congrArg Value.bool g46 | simp [g46]) (dz rfl hW))⟩
        · exact pz rfl rfl rfl rfl fun _ _ _ h => h
        · exact pz rfl rfl rfl rfl fun _ _ _ h => h
        · exact pz rfl rfl rfl rfl fun _ _ _ h => h
        · exact pz rfl rfl rfl rfl fun _ _ _ h => h
        · exact pz rfl rfl rfl rfl fun _ _ _ h => h
        · exact pz rfl rfl rfl rfl fun _ _ _ h => h
        · exact pz rfl rfl rfl rfl fun _ _ _ h => h
        · exact pz rfl rfl rfl rfl fun _ _ _ h => h
        · exact pz rfl rfl rfl rfl fun _ _ _ h => h
        · exact pz rfl rfl rfl rfl fun _ _ _ h => h
        · exact pz rfl rfl rfl rfl fun _ _ _ h => h
        intro ρ w124 hW
        have u125 : Upd (fun _ => False) w97 w124 := hW
        have zu125 := u125.size
        refine QK.weak [(0, .pointer (some ⟨pv, 0, none⟩)), (3, .pointer (some ⟨bk2, 0, none⟩)), (5, .bool (useF x)), (6, .bool (useT x)), (20, .bool false)] ⟨rfl, rfl, rfl, rfl, rfl, trivial⟩ ?_
        exact hK33 () _ _ ⟨rfl, rfl, rfl, rfl, (congrArg some (congrArg Value.bool (by first | (simp [c2, *]; done) | simp_all [c2]))), trivial⟩ ((((Upd.refl _ _).next u51 (fun _ _ h => h.elim)).next u98 (fun _ _ h => h.elim)).next u125 (fun _ _ h => h.elim))
    ·
     refine WC.weak [(0, .pointer (some ⟨pv, 0, none⟩)), (3, .pointer (some ⟨bk2, 0, none⟩)), (5, .bool (useF x)), (6, .bool (useT x))] ⟨rfl, rfl, rfl, rfl, trivial⟩ (c_drawn follows 12 [some (21, some (.bool (useF x))), some (22, some (.bool false)), some (23, some (undef)), some (24, some (undef)), some (25, some (undef)), some (26, some (undef)), some (27, some (undef)), some (28, some (undef)), some (29, some (undef)), some (30, some (undef)), some (31, some (.bool false)), some (20, some (.bool false))] [[],[0],[1],[2,1],[1],[4,1],[5,1],[6,1],[7,1],[3,8,1],[1,9],[10,1]] (fun _ _ w => Upd (fun _ => False) w28 w) rfl rfl rfl (by kernel_rfl) (by kernel_rfl) (Upd.drew _).to ⟨?_, ?_, ?_, ?_, ?_, ?_, ?_, ?_, ?_, ?_, ?_, ?_, trivial⟩ ?_)
     · exact pz rfl rfl rfl rfl fun _ _ _ h => h
     · exact fun D ρ w _ _ _ hW => ⟨[(21, .bool (useF x))], ⟨fi 0 rfl rfl rfl, trivial⟩, fun Lr => t_move rfl rfl rfl (t_samehd (v := .bool false) (by first | exact congrArg Value.bool (decide_eq_false g22) | exact congrArg Value.bool g22 | simp [g22]) (dz rfl hW))⟩
     · exact pz rfl rfl rfl rfl fun _ _ _ h => h
     · exact pz rfl rfl rfl rfl fun _ _ _ h => h
     · exact pz rfl rfl rfl rfl fun _ _ _ h => h
     · exact pz rfl rfl rfl rfl fun _ _ _ h => h
     · exact pz rfl rfl rfl rfl fun _ _ _ h => h
     · exact pz rfl rfl rfl rfl fun _ _ _ h => h
     · exact pz rfl rfl rfl rfl fun _ _ _ h => h
     · exact pz rfl rfl rfl rfl fun _ _ _ h => h
     · exact pz rfl rfl rfl rfl fun _ _ _ h => h
     · exact pz rfl rfl rfl rfl fun _ _ _ h => h
     intro ρ w127 hW
     have u128 : Upd (fun _ => False) w28 w127 := hW
     have zu128 := u128.size
     refine QK.weak [(0, .pointer (some ⟨pv, 0, none⟩)), (3, .pointer (some ⟨bk2, 0, none⟩)), (5, .bool (useF x)), (6, .bool (useT x)), (20, .bool false)] ⟨rfl, rfl, rfl, rfl, rfl, trivial⟩ (hK36 _ _ (c_cond_f rfl (c_seq fun K130 hK130 => ?_)))
     have B131 := (B37.keep u128 (fun h => h))
     have B132 := (B38.keep u128 (fun h => h))
     rcases Bool.eq_false_or_eq_true ((useT x)) with g33 | g33
     ·
      refine WC.weak [(0, .pointer (some ⟨pv, 0, none⟩)), (3, .pointer (some ⟨bk2, 0, none⟩)), (5, .bool (useF x)), (6, .bool (useT x))] ⟨rfl, rfl, rfl, rfl, trivial⟩ (c_drawn follows 12 [some (32, some (.bool (useT x))), some (33, some (.bool true)), some (34, some (.pointer (some ⟨bk2, 4, none⟩))), some (35, some (.int .i64 x.to)), some (36, some (.pointer (some ⟨pv, 0, none⟩))), some (37, some (.pointer (some ⟨pv, 0, none⟩))), some (38, some (.pointer (some ⟨pv, 2, none⟩))), some (39, some (.slice V.pa V.hl.length V.pc)), some (40, some (.int .i64 (V.hl.length : Int))), some (41, some (.bool (decide ((V.hl.length : Int) ≤ x.to)))), some (42, some (.bool (decide ((V.hl.length : Int) ≤ x.to)))), some (20, some (.bool (decide ((V.hl.length : Int) ≤ x.to))))] [[],[0],[1],[2,1],[1],[4,1],[5,1],[6,1],[7,1],[3,8,1],[1,9],[10,1]] (fun _ _ w => Upd (fun _ => False) w127 w) rfl rfl rfl (by kernel_rfl) (by kernel_rfl) (Upd.drew _).to ⟨?_, ?_, ?_, ?_, ?_, ?_, ?_, ?_, ?_, ?_, ?_, ?_, trivial⟩ ?_)
      · exact pz rfl rfl rfl rfl fun _ _ _ h => h
      · exact fun D ρ w _ _ _ hW => ⟨[(32, .bool (useT x))], ⟨fi 0 rfl rfl rfl, trivial⟩, fun Lr => t_move rfl rfl rfl (t_samehd (v := .bool true) (by first | exact congrArg Value.bool (decide_eq_true g33) | exact congrArg Value.bool g33 | simp [g33]) (dz rfl hW))⟩
      · exact pzf Try.underlying41 rfl Try.sizeOf3 (4) rfl rfl rfl rfl rfl fun _ _ _ h => h
      ·
       intro D ρ w133 hcD hnD hdD hW
       have zhW := hW.size
       refine ⟨_, kf_fr [33, 34], fun Lr => ?_⟩
       have B136 := (B132.keep hW (fun h => h))
       refine t_load Try.isAgg3 rfl rfl rfl (B136.get rfl) ?_
       exact dz rfl hW
      · exact pz rfl rfl rfl rfl fun _ _ _ h => h
      · exact pz rfl rfl rfl rfl fun _ _ _ h => h
      · exact pzf Try.underlying118 rfl Try.sizeOf114 (2) rfl rfl rfl rfl rfl fun _ _ _ h => h
      ·
       intro D ρ w137 hcD hnD hdD hW
       have zhW := hW.size
       refine ⟨_, kf_fr [33, 38], fun Lr => ?_⟩
       have B140 := (B131.keep hW (fun h => h))
       refine t_load Try.isAgg114 rfl rfl rfl (B140.get rfl) ?_
       exact dz rfl hW
      ·
       intro D ρ w141 hcD hnD hdD hW
       have zhW := hW.size
       refine ⟨_, kf_fr [33, 39], fun Lr => ?_⟩
       refine t_len Try.underlying114 rfl rfl rfl rfl ?_
       exact dz rfl hW
      · exact pz rfl rfl rfl rfl fun _ _ _ h => h
      · exact pz rfl rfl rfl rfl fun _ _ _ h => h
      · exact pz rfl rfl rfl rfl fun _ _ _ h => h
      intro ρ w144 hW
      have u145 : Upd (fun _ => False) w127 w144 := hW
      have zu145 := u145.size
      refine QK.weak [(0, .pointer (some ⟨pv, 0, none⟩)), (3, .pointer (some ⟨bk2, 0, none⟩)), (5, .bool (useF x)), (6, .bool (useT x)), (20, .bool (decide ((V.hl.length : Int) ≤ x.to)))] ⟨rfl, rfl, rfl, rfl, rfl, trivial⟩ (hK130 _ _ (c_condp rfl (fun g20 => ?_) (fun g20 => ?_)))
      ·
       refine c_skip ?_
       exact hK33 () _ _ ⟨rfl, rfl, rfl, rfl, (congrArg some (congrArg Value.bool (by first | (simp [c2, *]; done) | simp_all [c2]))), trivial⟩ (((Upd.refl _ _).next u128 (fun _ _ h => h.elim)).next u145 (fun _ _ h => h.elim))
      ·
       have B147 := (B131.keep u145 (fun h => h))
       have B148 := (B132.keep u145 (fun h => h))
       by_cases g46 : x.kind = 1
       ·
        refine WC.weak [(0, .pointer (some ⟨pv, 0, none⟩)), (3, .pointer (some ⟨bk2, 0, none⟩)), (5, .bool (useF x)), (6, .bool (useT x))] ⟨rfl, rfl, rfl, rfl, trivial⟩ (c_drawn follows 15 [some (43, some (.pointer (some ⟨bk2, 0, none⟩))), some (44, some (.int .i64 x.kind)), some (45, some (.bool (decide (x.kind = 1)))), some (46, some (.bool true)), some (47, some (.pointer (some ⟨bk2, 2, none⟩))), some (48, some (.int .i64 x.bill)), some (49, some (.pointer (some ⟨pv, 0, none⟩))), some (50, some (.pointer (some ⟨pv, 0, none⟩))), some (51, some (.pointer (some ⟨pv, 0, none⟩))), some (52, some (.pointer (some ⟨pv, 0, none⟩))), some (53, some (.slice V.ab V.bs.length V.cb)), some (54, some (.int .i64 (V.bs.length : Int))), some (55, some (.bool (decide ((V.bs.length : Int) ≤ x.bill)))), some (56, some (.bool (decide ((V.bs.length : Int) ≤ x.bill)))), some (20, some (.bool (decide ((V.bs.length : Int) ≤ x.bill))))] [[],[0],[1],[2],[3],[4,3],[3],[6,3],[7,3],[8,3],[9,3],[10,3],[5,11,3],[3,12],[13,3]] (fun _ _ w => Upd (fun _ => False) w144 w) rfl rfl rfl (by kernel_rfl) (by kernel_rfl) (Upd.drew _).to ⟨?_, ?_, ?_, ?_, ?_, ?_, ?_, ?_, ?_, ?_, ?_, ?_, ?_, ?_, ?_, trivial⟩ ?_)
        · exact pzf Try.underlying41 rfl Try.sizeOf39 (0) rfl rfl rfl rfl rfl fun _ _ _ h => h
        ·
         intro D ρ w149 hcD hnD hdD hW
         have zhW := hW.size
         refine ⟨_, kf_fr [43], fun Lr => ?_⟩
         have B152 := (B148.keep hW (fun h => h))
         refine t_load Try.isAgg39 rfl rfl rfl (B152.get rfl) ?_
         exact dz rfl hW
        · exact pz rfl rfl rfl rfl fun _ _ _ h => h
        · exact fun D ρ w _ _ _ hW => ⟨[(45, .bool (decide (x.kind = 1)))], ⟨fi 2 rfl rfl rfl, trivial⟩, fun Lr => t_move rfl rfl rfl (t_samehd (v := .bool true) (by first | exact congrArg Value.bool (decide_eq_true g46) | exact congrArg Value.bool g46 | simp [g46]) (dz rfl hW))⟩
        · exact pzf Try.underlying41 rfl Try.sizeOf3 (2) rfl rfl rfl rfl rfl fun _ _ _ h => h
        ·
         intro D ρ w153 hcD hnD hdD hW
         have zhW := hW.size
         refine ⟨_, kf_fr [46, 47], fun Lr => ?_⟩
         have B156 := (B148.keep hW (fun h => h))
         refine t_load Try.isAgg3 rfl rfl rfl (B156.get rfl) ?_
         exact dz rfl hW
        · exact pz rfl rfl rfl rfl fun _ _ _ h => h
        · exact pz rfl rfl rfl rfl fun _ _ _ h => h
        · exact pzf Try.underlying118 rfl Try.sizeOf25 (0) rfl rfl rfl rfl rfl fun _ _ _ h => h
        · exact pzf Try.underlying25 rfl Try.sizeOf22 (0) rfl rfl rfl rfl rfl fun _ _ _ h => h
        ·
         intro D ρ w157 hcD hnD hdD hW
         have zhW := hW.size
         refine ⟨_, kf_fr [46, 52], fun Lr => ?_⟩
         have B160 := (B147.keep hW (fun h => h))
         refine t_load Try.isAgg22 rfl rfl rfl (B160.get rfl) ?_
         exact dz rfl hW
        ·
         intro D ρ w161 hcD hnD hdD hW
         have zhW := hW.size
         refine ⟨_, kf_fr [46, 53], fun Lr => ?_⟩
         refine t_len Try.underlying22 rfl rfl rfl rfl ?_
         exact dz rfl hW
        · exact pz rfl rfl rfl rfl fun _ _ _ h => h
        · exact pz rfl rfl rfl rfl fun _ _ _ h => h
        · exact pz rfl rfl rfl rfl fun _ _ _ h => h
        intro ρ w164 hW
        have u165 : Upd (fun _ => False) w144 w164 := hW
        have zu165 := u165.size
        refine QK.weak [(0, .pointer (some ⟨pv, 0, none⟩)), (3, .pointer (some ⟨bk2, 0, none⟩)), (5, .bool (useF x)), (6, .bool (useT x)), (20, .bool (decide ((V.bs.length : Int) ≤ x.bill)))] ⟨rfl, rfl, rfl, rfl, rfl, trivial⟩ ?_
        exact hK33 () _ _ ⟨rfl, rfl, rfl, rfl, (congrArg some (congrArg Value.bool (by first | (simp [c2, *]; done) | simp_all [c2]))), trivial⟩ ((((Upd.refl _ _).next u128 (fun _ _ h => h.elim)).next u145 (fun _ _ h => h.elim)).next u165 (fun _ _ h => h.elim))
       ·
        refine WC.weak [(0, .pointer (some ⟨pv, 0, none⟩)), (3, .pointer (some ⟨bk2, 0, none⟩)), (5, .bool (useF x)), (6, .bool (useT x))] ⟨rfl, rfl, rfl, rfl, trivial⟩ (c_drawn follows 15 [some (43, some (.pointer (some ⟨bk2, 0, none⟩))), some (44, some (.int .i64 x.kind)), some (45, some (.bool (decide (x.kind = 1)))), some (46, some (.bool false)), some (47, some (undef)), some (48, some (undef)), some (49, some (undef)), some (50, some (undef)), some (51, some (undef)), some (52, some (undef)), some (53, some (undef)), some (54, some (undef)), some (55, some (undef)), some (56, some (.bool false)), some (20, some (.bool false))] [[],[0],[1],[2],[3],[4,3],[3],[6,3],[7,3],[8,3],[9,3],[10,3],[5,11,3],[3,12],[13,3]] (fun _ _ w => Upd (fun _ => False) w144 w) rfl rfl rfl (by kernel_rfl) (by kernel_rfl) (Upd.drew _).to ⟨?_, ?_, ?_, ?_, ?_, ?_, ?_, ?_, ?_, ?_, ?_, ?_, ?_, ?_, ?_, trivial⟩ ?_)
        · exact pzf Try.underlying41 rfl Try.sizeOf39 (0) rfl rfl rfl rfl rfl fun _ _ _ h => h
        ·
         intro D ρ w167 hcD hnD hdD hW
         have zhW := hW.size
         refine ⟨_, kf_fr [43], fun Lr => ?_⟩
         have B170 := (B148.keep hW (fun h => h))
         refine t_load Try.isAgg39 rfl rfl rfl (B170.get rfl) ?_
         exact dz rfl hW
        · exact pz rfl rfl rfl rfl fun _ _ _ h => h
        · exact fun D ρ w _ _ _ hW => ⟨[(45, .bool (decide (x.kind = 1)))], ⟨fi 2 rfl rfl rfl, trivial⟩, fun Lr => t_move rfl rfl rfl (t_samehd (v := .bool false) (by first | exact congrArg Value.bool (decide_eq_false g46) | exact congrArg Value.bool g46 | simp [g46]) (dz rfl hW))⟩
        · exact pz rfl rfl rfl rfl fun _ _ _ h => h
        · exact pz rfl rfl rfl rfl fun _ _ _ h => h
        · exact pz rfl rfl rfl rfl fun _ _ _ h => h
        · exact pz rfl rfl rfl rfl fun _ _ _ h => h
        · exact pz rfl rfl rfl rfl fun _ _ _ h => h
        · exact pz rfl rfl rfl rfl fun _ _ _ h => h
        · exact pz rfl rfl rfl rfl fun _ _ _ h => h
        · exact pz rfl rfl rfl rfl fun _ _ _ h => h
        · exact pz rfl rfl rfl rfl fun _ _ _ h => h
        · exact pz rfl rfl rfl rfl fun _ _ _ h => h
        · exact pz rfl rfl rfl rfl fun _ _ _ h => h
        intro ρ w171 hW
        have u172 : Upd (fun _ => False) w144 w171 := hW
        have zu172 := u172.size
        refine QK.weak [(0, .pointer (some ⟨pv, 0, none⟩)), (3, .pointer (some ⟨bk2, 0, none⟩)), (5, .bool (useF x)), (6, .bool (useT x)), (20, .bool false)] ⟨rfl, rfl, rfl, rfl, rfl, trivial⟩ ?_
        exact hK33 () _ _ ⟨rfl, rfl, rfl, rfl, (congrArg some (congrArg Value.bool (by first | (simp [c2, *]; done) | simp_all [c2]))), trivial⟩ ((((Upd.refl _ _).next u128 (fun _ _ h => h.elim)).next u145 (fun _ _ h => h.elim)).next u172 (fun _ _ h => h.elim))
     ·
      refine WC.weak [(0, .pointer (some ⟨pv, 0, none⟩)), (3, .pointer (some ⟨bk2, 0, none⟩)), (5, .bool (useF x)), (6, .bool (useT x))] ⟨rfl, rfl, rfl, rfl, trivial⟩ (c_drawn follows 12 [some (32, some (.bool (useT x))), some (33, some (.bool false)), some (34, some (undef)), some (35, some (undef)), some (36, some (undef)), some (37, some (undef)), some (38, some (undef)), some (39, some (undef)), some (40, some (undef)), some (41, some (undef)), some (42, some (.bool false)), some (20, some (.bool false))] [[],[0],[1],[2,1],[1],[4,1],[5,1],[6,1],[7,1],[3,8,1],[1,9],[10,1]] (fun _ _ w => Upd (fun _ => False) w127 w) rfl rfl rfl (by kernel_rfl) (by kernel_rfl) (Upd.drew _).to ⟨?_, ?_, ?_, ?_, ?_, ?_, ?_, ?_, ?_, ?_, ?_, ?_, trivial⟩ ?_)
      · exact pz rfl rfl rfl rfl fun _ _ _ h => h
      · exact fun D ρ w _ _ _ hW => ⟨[(32, .bool (useT x))], ⟨fi 0 rfl rfl rfl, trivial⟩, fun Lr => t_move rfl rfl rfl (t_samehd (v := .bool false) (by first | exact congrArg Value.bool (decide_eq_false g33) | exact congrArg Value.bool g33 | simp [g33]) (dz rfl hW))⟩
      · exact pz rfl rfl rfl rfl fun _ _ _ h => h
      · exact pz rfl rfl rfl rfl fun _ _ _ h => h
      · exact pz rfl rfl rfl rfl fun _ _ _ h => h
      · exact pz rfl rfl rfl rfl fun _ _ _ h => h
      · exact pz rfl rfl rfl rfl fun _ _ _ h => h
      · exact pz rfl rfl rfl rfl fun _ _ _ h => h
      · exact pz rfl rfl rfl rfl fun _ _ _ h => h
      · exact pz rfl rfl rfl rfl fun _ _ _ h => h
      · exact pz rfl rfl rfl rfl fun _ _ _ h => h
      · exact pz rfl rfl rfl rfl fun _ _ _ h => h
      intro ρ w174 hW
      have u175 : Upd (fun _ => False) w127 w174 := hW
      have zu175 := u175.size
      refine QK.weak [(0, .pointer (some ⟨pv, 0, none⟩)), (3, .pointer (some ⟨bk2, 0, none⟩)), (5, .bool (useF x)), (6, .bool (useT x)), (20, .bool false)] ⟨rfl, rfl, rfl, rfl, rfl, trivial⟩ (hK130 _ _ (c_cond_f rfl ?_))
      have B177 := (B131.keep u175 (fun h => h))
      have B178 := (B132.keep u175 (fun h => h))
      by_cases g46 : x.kind = 1
      ·
       refine WC.weak [(0, .pointer (some ⟨pv, 0, none⟩)), (3, .pointer (some ⟨bk2, 0, none⟩)), (5, .bool (useF x)), (6, .bool (useT x))] ⟨rfl, rfl, rfl, rfl, trivial⟩ (c_drawn follows 15 [some (43, some (.pointer (some ⟨bk2, 0, none⟩))), some (44, some (.int .i64 x.kind)), some (45, some (.bool (decide (x.kind = 1)))), some (46, some (.bool true)), some (47, some (.pointer (some ⟨bk2, 2, none⟩))), some (48, some (.int .i64 x.bill)), some (49, some (.pointer (some ⟨pv, 0, none⟩))), some (50, some (.pointer (some ⟨pv, 0, none⟩))), some (51, some (.pointer (some ⟨pv, 0, none⟩))), some (52, some (.pointer (some ⟨pv, 0, none⟩))), some (53, some (.slice V.ab V.bs.length V.cb)), some (54, some (.int .i64 (V.bs.length : Int))), some (55, some (.bool (decide ((V.bs.length : Int) ≤ x.bill)))), some (56, some (.bool (decide ((V.bs.length : Int) ≤ x.bill)))), some (20, some (.bool (decide ((V.bs.length : Int) ≤ x.bill))))] [[],[0],[1],[2],[3],[4,3],[3],[6,3],[7,3],[8,3],[9,3],[10,3],[5,11,3],[3,12],[13,3]] (fun _ _ w => Upd (fun _ => False) w174 w) rfl rfl rfl (by kernel_rfl) (by kernel_rfl) (Upd.drew _).to ⟨?_, ?_, ?_, ?_, ?_, ?_, ?_, ?_, ?_, ?_, ?_, ?_, ?_, ?_, ?_, trivial⟩ ?_)
       · exact pzf Try.underlying41 rfl Try.sizeOf39 (0) rfl rfl rfl rfl rfl fun _ _ _ h => h
       ·
        intro D ρ w179 hcD hnD hdD hW
        have zhW := hW.size
        refine ⟨_, kf_fr [43], fun Lr => ?_⟩
        have B182 := (B178.keep hW (fun h => h))
        refine t_load Try.isAgg39 rfl rfl rfl (B182.get rfl) ?_
        exact dz rfl hW
       · exact pz rfl rfl rfl rfl fun _ _ _ h => h
       · exact fun D ρ w _ _ _ hW => ⟨[(45, .bool (decide (x.kind = 1)))], ⟨fi 2 rfl rfl rfl, trivial⟩, fun Lr => t_move rfl rfl rfl (t_samehd (v := .bool true) (by first | exact congrArg Value.bool (decide_eq_true g46) | exact congrArg Value.bool g46 | simp [g46]) (dz rfl hW))⟩
       · exact pzf Try.underlying41 rfl Try.sizeOf3 (2) rfl rfl rfl rfl rfl fun _ _ _ h => h
       ·
        intro D ρ w183 hcD hnD hdD hW
        have zhW := hW.size
        refine ⟨_, kf_fr [46, 47], fun Lr => ?_⟩
        have B186 := (B178.keep hW (fun h => h))
        refine t_load Try.isAgg3 rfl rfl rfl (B186.get rfl) ?_
        exact dz rfl hW
       · exact pz rfl rfl rfl rfl fun _ _ _ h => h
       · exact pz rfl rfl rfl rfl fun _ _ _ h => h
       · exact pzf Try.underlying118 rfl Try.sizeOf25 (0) rfl rfl rfl rfl rfl fun _ _ _ h => h
       · exact pzf Try.underlying25 rfl Try.sizeOf22 (0) rfl rfl rfl rfl rfl fun _ _ _ h => h
       ·
        intro D ρ w187 hcD hnD hdD hW
        have zhW := hW.size
        refine ⟨_, kf_fr [46, 52], fun Lr => ?_⟩
        have B190 := (B177.keep hW (fun h => h))
        refine t_load Try.isAgg22 rfl rfl rfl (B190.get rfl) ?_
        exact dz rfl hW
       ·
        intro D ρ w191 hcD hnD hdD hW
        have zhW := hW.size
        refine ⟨_, kf_fr [46, 53], fun Lr => ?_⟩
        refine t_len Try.underlying22 rfl rfl rfl rfl ?_
        exact dz rfl hW
       · exact pz rfl rfl rfl rfl fun _ _ _ h => h
       · exact pz rfl rfl rfl rfl fun _ _ _ h => h
       · exact pz rfl rfl rfl rfl fun _ _ _ h => h
       intro ρ w194 hW
       have u195 : Upd (fun _ => False) w174 w194 := hW
       have zu195 := u195.size
       refine QK.weak [(0, .pointer (some ⟨pv, 0, none⟩)), (3, .pointer (some ⟨bk2, 0, none⟩)), (5, .bool (useF x)), (6, .bool (useT x)), (20, .bool (decide ((V.bs.length : Int) ≤ x.bill)))] ⟨rfl, rfl, rfl, rfl, rfl, trivial⟩ ?_
       exact hK33 () _ _ ⟨rfl, rfl, rfl, rfl, (congrArg some (congrArg Value.bool (by first | (simp [c2, *]; done) | simp_all [c2]))), trivial⟩ ((((Upd.refl _ _).next u128 (fun _ _ h => h.elim)).next u175 (fun _ _ h => h.elim)).next u195 (fun _ _ h => h.elim))
      ·
       refine WC.weak [(0, .pointer (some ⟨pv, 0, none⟩)), (3, .pointer (some ⟨bk2, 0, none⟩)), (5, .bool (useF x)), (6, .bool (useT x))] ⟨rfl, rfl, rfl, rfl, trivial⟩ (c_drawn follows 15 [some (43, some (.pointer (some ⟨bk2, 0, none⟩))), some (44, some (.int .i64 x.kind)), some (45, some (.bool (decide (x.kind = 1)))), some (46, some (.bool false)), some (47, some (undef)), some (48, some (undef)), some (49, some (undef)), some (50, some (undef)), some (51, some (undef)), some (52, some (undef)), some (53, some (undef)), some (54, some (undef)), some (55, some (undef)), some (56, some (.bool false)), some (20, some (.bool false))] [[],[0],[1],[2],[3],[4,3],[3],[6,3],[7,3],[8,3],[9,3],[10,3],[5,11,3],[3,12],[13,3]] (fun _ _ w => Upd (fun _ => False) w174 w) rfl rfl rfl (by kernel_rfl) (by kernel_rfl) (Upd.drew _).to ⟨?_, ?_, ?_, ?_, ?_, ?_, ?_, ?_, ?_, ?_, ?_, ?_, ?_, ?_, ?_, trivial⟩ ?_)
       · exact pzf Try.underlying41 rfl Try.sizeOf39 (0) rfl rfl rfl rfl rfl fun _ _ _ h => h
       ·
        intro D ρ w197 hcD hnD hdD hW
        have zhW := hW.size
        refine ⟨_, kf_fr [43], fun Lr => ?_⟩
        have B200 := (B178.keep hW (fun h => h))
        refine t_load Try.isAgg39 rfl rfl rfl (B200.get rfl) ?_
        exact dz rfl hW
       · exact pz rfl rfl rfl rfl fun _ _ _ h => h
       · exact fun D ρ w _ _ _ hW => ⟨[(45, .bool (decide (x.kind = 1)))], ⟨fi 2 rfl rfl rfl, trivial⟩, fun Lr => t_move rfl rfl rfl (t_samehd (v := .bool false) (by first | exact congrArg Value.bool (decide_eq_false g46) | exact congrArg Value.bool g46 | simp [g46]) (dz rfl hW))⟩
       · exact pz rfl rfl rfl rfl fun _ _ _ h => h
       · exact pz rfl rfl rfl rfl fun _ _ _ h => h
       · exact pz rfl rfl rfl rfl fun _ _ _ h => h
       · exact pz rfl rfl rfl rfl fun _ _ _ h => h
       · exact pz rfl rfl rfl rfl fun _ _ _ h => h
       · exact pz rfl rfl rfl rfl fun _ _ _ h => h
       · exact pz rfl rfl rfl rfl fun _ _ _ h => h
       · exact pz rfl rfl rfl rfl fun _ _ _ h => h
       · exact pz rfl rfl rfl rfl fun _ _ _ h => h
       · exact pz rfl rfl rfl rfl fun _ _ _ h => h
       · exact pz rfl rfl rfl rfl fun _ _ _ h => h
       intro ρ w201 hW
       have u202 : Upd (fun _ => False) w174 w201 := hW
       have zu202 := u202.size
       refine QK.weak [(0, .pointer (some ⟨pv, 0, none⟩)), (3, .pointer (some ⟨bk2, 0, none⟩)), (5, .bool (useF x)), (6, .bool (useT x)), (20, .bool false)] ⟨rfl, rfl, rfl, rfl, rfl, trivial⟩ ?_
       exact hK33 () _ _ ⟨rfl, rfl, rfl, rfl, (congrArg some (congrArg Value.bool (by first | (simp [c2, *]; done) | simp_all [c2]))), trivial⟩ ((((Upd.refl _ _).next u128 (fun _ _ h => h.elim)).next u175 (fun _ _ h => h.elim)).next u202 (fun _ _ h => h.elim))
   ·
    intro _x w34 u35
    have zu35 := u35.size
    have E204 := E30.next u35 (fun _ _ h => h.elim)
    refine c_cond rfl (fun g20 => ?_) (fun g20 => ?_)
    ·
     refine c_seq fun K205 hK205 => (c_region (t_assign rfl rfl rfl (t_nil' (hK205 _ _ (c_ret (f_ret1 (v := .int .i64 7) Try.results73 rfl ?_))))))
     exact ⟨congrArg (Value.int .i64) (by unfold chkV; rw [if_neg g12, if_pos g20]), E204⟩
    ·
     have I7 : c2 V x = false := by simpa using g20
     have hc2 : (useF x = true → x.frm < (V.hl.length : Int)) ∧ (useT x = true → x.to < (V.hl.length : Int)) ∧ (x.kind = 1 → x.bill < (V.bs.length : Int)) := by
       have h : c2 V x = false := by simpa using I7
       simp only [c2, Bool.or_eq_false_iff, Bool.and_eq_false_iff, decide_eq_false_iff_not] at h
       refine ⟨fun h1 => ?_, fun h1 => ?_, fun h1 => ?_⟩
       · rcases h.1.1 with h2 | h2
         · rw [h1] at h2; cases h2
         · omega
       · rcases h.1.2 with h2 | h2
         · rw [h1] at h2; cases h2
         · omega
       · rcases h.2 with h2 | h2 <;> omega
     refine c_cut (γ := Unit) (fun _x => [(0, .pointer (some ⟨pv, 0, none⟩)), (3, .pointer (some ⟨bk2, 0, none⟩)), (5, .bool (useF x)), (6, .bool (useT x)), (57, .bool (c3 x))]) (fun _x w => Upd (fun _ => False) w34 w) (fun K207 hK207 => ?_) ?_
     ·
      refine c_region (t_move rfl rfl rfl (t_move rfl rfl rfl (t_split 59 rfl (fun g59 => ?_) (fun g59 => ?_))))
      ·
       refine t_move rfl rfl rfl (t_pick_t rfl rfl rfl rfl (t_move rfl rfl rfl (t_split 62 rfl (fun g62 => ?_) (fun g62 => ?_))))
       ·
        refine t_field Try.underlying41 rfl Try.sizeOf3 (3) rfl rfl rfl rfl ?_
        have B210 := ((B19.keep u29 (fun h => h)).keep u35 (fun h => h))
        refine t_load Try.isAgg3 rfl rfl rfl (B210.get rfl) (t_field Try.underlying41 rfl Try.sizeOf3 (4) rfl rfl rfl rfl (t_load Try.isAgg3 rfl rfl rfl (B210.get rfl) (t_cmp rfl rfl rfl rfl rfl (t_pick_t rfl rfl rfl rfl (t_assign rfl rfl rfl (t_nil' ?_))))))
        exact hK207 () _ _ ⟨rfl, rfl, rfl, rfl, (congrArg some (congrArg Value.bool (by first | (simp [c3, *]; done) | simp_all [c3]))), trivial⟩ (Upd.refl _ _)
       ·
        refine t_skip rfl rfl rfl (t_skip rfl rfl rfl (t_skip rfl rfl rfl (t_skip rfl rfl rfl (t_skip rfl rfl rfl (t_pick_f rfl rfl rfl rfl (t_assign rfl rfl rfl (t_nil' ?_)))))))
        exact hK207 () _ _ ⟨rfl, rfl, rfl, rfl, (congrArg some (congrArg Value.bool (by first | (simp [c3, *]; done) | simp_all [c3]))), trivial⟩ (Upd.refl _ _)
      ·
       refine t_skip rfl rfl rfl (t_pick_f rfl rfl rfl rfl (t_move rfl rfl rfl (t_skip rfl rfl rfl (t_skip rfl rfl rfl (t_skip rfl rfl rfl (t_skip rfl rfl rfl (t_skip rfl rfl rfl (t_pick_f rfl rfl rfl rfl (t_assign rfl rfl rfl (t_nil' ?_))))))))))
       exact hK207 () _ _ ⟨rfl, rfl, rfl, rfl, (congrArg some (congrArg Value.bool (by first | (simp [c3, *]; done) | simp_all [c3]))), trivial⟩ (Upd.refl _ _)
     ·
      intro _x w208 u209
      have zu209 := u209.size
      have E211 := E204.next u209 (fun _ _ h => h.elim)
      refine c_cond rfl (fun g57 => ?_) (fun g57 => ?_)
      ·
       refine c_seq fun K212 hK212 => (c_region (t_assign rfl rfl rfl (t_nil' (hK212 _ _ (c_ret (f_ret1 (v := .int .i64 6) Try.results73 rfl ?_))))))
       exact ⟨congrArg (Value.int .i64) (by unfold chkV; rw [if_neg g12, if_neg (by simpa using g20), if_pos g57]), E211⟩
      ·
       refine c_cut (γ := Unit) (fun _x => [(0, .pointer (some ⟨pv, 0, none⟩)), (3, .pointer (some ⟨bk2, 0, none⟩)), (5, .bool (useF x)), (6, .bool (useT x)), (69, .bool (c4 V x))]) (fun _x w => Upd (fun _ => False) w208 w) (fun K214 hK214 => ?_) ?_
       ·
        refine c_seq fun K217 hK217 => ?_
        have B218 := (((B18.keep u29 (fun h => h)).keep u35 (fun h => h)).keep u209 (fun h => h))
        have B219 := (((B19.keep u29 (fun h => h)).keep u35 (fun h => h)).keep u209 (fun h => h))
        rcases Bool.eq_false_or_eq_true ((useF x)) with g71 | g71
        ·
         have hF2 := hc2.1 g71
         have hfi : (x.frm).toNat < V.hl.length := by omega
         have hfiB := (hv.hold _ (nth_mem hfi)).blk
         have hfif := hvo.few (nth_mem hfi)
         refine WC.weak [(0, .pointer (some ⟨pv, 0, none⟩)), (3, .pointer (some ⟨bk2, 0, none⟩)), (5, .bool (useF x)), (6, .bool (useT x))] ⟨rfl, rfl, rfl, rfl, trivial⟩ (c_drawn follows 19 [some (70, some (.bool (useF x))), some (71, some (.bool true)), some (72, some (.pointer (some ⟨pv, 0, none⟩))), some (73, some (.pointer (some ⟨pv, 0, none⟩))), some (74, some (.pointer (some ⟨pv, 2, none⟩))), some (75, some (.slice V.pa V.hl.length V.pc)), some (76, some (.pointer (some ⟨bk2, 3, none⟩))), some (77, some (.int .i64 x.frm)), some (78, some (.pointer (some ⟨V.pg, 0 + (x.frm).toNat * 1, none⟩))), some (79, some (.pointer (some ⟨(nth V.hl ((x.frm).toNat)).p, 0, none⟩))), some (80, some (.pointer (some ⟨(nth V.hl ((x.frm).toNat)).p, 0, none⟩))), some (81, some (.pointer (some ⟨(nth V.hl ((x.frm).toNat)).p, 3, none⟩))), some (82, some (.bool ((nth V.hl ((x.frm).toNat)).sealed))), some (83, some (.pointer (some ⟨bk2, 0, none⟩))), some (84, some (.int .i64 x.kind)), some (85, some (.bool (decide (x.kind = 5)))), some (86, some (.bool (decide (((nth V.hl ((x.frm).toNat)).sealed) ≠ (decide (x.kind = 5)))))), some (87, some (.bool (decide (((nth V.hl ((x.frm).toNat)).sealed) ≠ (decide (x.kind = 5)))))), some (69, some (.bool (decide (((nth V.hl ((x.frm).toNat)).sealed) ≠ (decide (x.kind = 5))))))] [[],[0],[1],[2,1],[3,1],[4,1],[1],[6,1],[5,7,1],[8,1],[9,1],[10,1],[11,1],[1],[13,1],[14,1],[12,15,1],[1,16],[17,1]] (fun _ _ w => Upd (fun _ => False) w208 w) rfl rfl rfl (by kernel_rfl) (by kernel_rfl) (Upd.drew _).to ⟨?_, ?_, ?_, ?_, ?_, ?_, ?_, ?_, ?_, ?_, ?_, ?_, ?_, ?_, ?_, ?_, ?_, ?_, ?_, trivial⟩ ?_)
         · exact pz rfl rfl rfl rfl fun _ _ _ h => h
         · exact fun D ρ w _ _ _ hW => ⟨[(70, .bool (useF x))], ⟨fi 0 rfl rfl rfl, trivial⟩, fun Lr => t_move rfl rfl rfl (t_samehd (v := .bool true) (by first | exact congrArg Value.bool (decide_eq_true g71) | exact congrArg Value.bool g71 | simp [g71]) (dz rfl hW))⟩
         · exact pz rfl rfl rfl rfl fun _ _ _ h => h
         · exact pz rfl rfl rfl rfl fun _ _ _ h => h
         · exact pzf Try.underlying118 rfl Try.sizeOf114 (2) rfl rfl rfl rfl rfl fun _ _ _ h => h
         ·
          intro D ρ w221 hcD hnD hdD hW
          have zhW := hW.size
          refine ⟨_, kf_fr [71, 74], fun Lr => ?_⟩
          have B224 := (B218.keep hW (fun h => h))
          refine t_load Try.isAgg114 rfl rfl rfl (B224.get rfl) ?_
          exact dz rfl hW
         · exact pzf Try.underlying41 rfl Try.sizeOf3 (3) rfl rfl rfl rfl rfl fun _ _ _ h => h
         ·
          intro D ρ w225 hcD hnD hdD hW
          have zhW := hW.size
          refine ⟨_, kf_fr [71, 76], fun Lr => ?_⟩
          have B228 := (B219.keep hW (fun h => h))
          refine t_load Try.isAgg3 rfl rfl rfl (B228.get rfl) ?_
          exact dz rfl hW
         ·
          intro D ρ w229 hcD hnD hdD hW
          have zhW := hW.size
          have E231 := E211.next hW (fun _ _ h => h.elim)
          refine ⟨_, kf_fr [71, 75, 77], fun Lr => ?_⟩
          have i232 : (x.frm).toNat < V.hl.length := (by omega)
          refine t_index (j := (x.frm).toNat) Try.underlying114 Try.sizeOf119 rfl rfl rfl rfl ((((hv.ext E231)).pacc.sl (fun _ => rfl)).addr (by omega)) (by omega) i232 ?_
          exact dz rfl hW
         ·
          intro D ρ w233 hcD hnD hdD hW
          have zhW := hW.size
          have E235 := E211.next hW (fun _ _ h => h.elim)
          refine ⟨_, kf_fr [71, 78], fun Lr => ?_⟩
          refine t_load Try.isAgg119 rfl rfl rfl (((((hv.ext E235)).pacc.sl (fun _ => rfl)).at_ ((x.frm).toNat) (by omega)) 0 _ rfl) ?_
          exact dz rfl hW
         · exact pz rfl rfl rfl rfl fun _ _ _ h => h
         · exact pzf Try.underlying122 rfl Try.sizeOf4 (3) rfl rfl rfl rfl rfl fun _ _ _ h => h
         ·
          intro D ρ w236 hcD hnD hdD hW
          have zhW := hW.size
          refine ⟨_, kf_fr [71, 81], fun Lr => ?_⟩
          have B239 := ((hfiB.keep E211 id).keep hW (fun h => h))
          refine t_load Try.isAgg4 rfl rfl rfl (B239.get rfl) ?_
          exact dz rfl hW
         · exact pzf Try.underlying41 rfl Try.sizeOf39 (0) rfl rfl rfl rfl rfl fun _ _ _ h => h
         ·
          intro D ρ w240 hcD hnD hdD hW
          have zhW := hW.size
          refine ⟨_, kf_fr [71, 83], fun Lr => ?_⟩
          have B243 := (B219.keep hW (fun h => h))
          refine t_load Try.isAgg39 rfl rfl rfl (B243.get rfl) ?_
          exact dz rfl hW
         · exact pz rfl rfl rfl rfl fun _ _ _ h => h
         · exact fun D ρ w _ _ _ hW => ⟨[(71, .bool true), (82, .bool ((nth V.hl ((x.frm).toNat)).sealed)), (85, .bool (decide (x.kind = 5)))], ⟨fi 1 rfl rfl rfl, fi 12 rfl rfl rfl, fi 15 rfl rfl rfl, trivial⟩, fun Lr => t_neB Try.underlying4 rfl rfl rfl rfl (dz rfl hW)⟩
         · exact pz rfl rfl rfl rfl fun _ _ _ h => h
         · exact pz rfl rfl rfl rfl fun _ _ _ h => h
         intro ρ w244 hW
         have u245 : Upd (fun _ => False) w208 w244 := hW
         have zu245 := u245.size
         have E246 := E211.next u245 (fun _ _ h => h.elim)
         refine QK.weak [(0, .pointer (some ⟨pv, 0, none⟩)), (3, .pointer (some ⟨bk2, 0, none⟩)), (5, .bool (useF x)), (6, .bool (useT x)), (69, .bool (decide (((nth V.hl ((x.frm).toNat)).sealed) ≠ (decide (x.kind = 5)))))] ⟨rfl, rfl, rfl, rfl, rfl, trivial⟩ (hK217 _ _ (c_condp rfl (fun g69 => ?_) (fun g69 => ?_)))
         ·
          refine c_skip ?_
          exact hK214 () _ _ ⟨rfl, rfl, rfl, rfl, (congrArg some (congrArg Value.bool (by first | (simp [c4, *]; done) | simp_all [c4]))), trivial⟩ ((Upd.refl _ _).next u245 (fun _ _ h => h.elim))
         ·
          have B247 := (B218.keep u245 (fun h => h))
          have B248 := (B219.keep u245 (fun h => h))
          rcases Bool.eq_false_or_eq_true ((useT x)) with g89 | g89
          ·
           have hT2 := hc2.2.1 g89
           have hti : (x.to).toNat < V.hl.length := by omega
           have htiB := (hv.hold _ (nth_mem hti)).blk
           have htif := hvo.few (nth_mem hti)
           refine WC.weak [(0, .pointer (some ⟨pv, 0, none⟩)), (3, .pointer (some ⟨bk2, 0, none⟩)), (5, .bool (useF x)), (6, .bool (useT x))] ⟨rfl, rfl, rfl, rfl, trivial⟩ (c_drawn follows 15 [some (88, some (.bool (useT x))), some (89, some (.bool true)), some (90, some (.pointer (some ⟨pv, 0, none⟩))), some (91, some (.pointer (some ⟨pv, 0, none⟩))), some (92, some (.pointer (some ⟨pv, 2, none⟩))), some (93, some (.slice V.pa V.hl.length V.pc)), some (94, some (.pointer (some ⟨bk2, 4, none⟩))), some (95, some (.int .i64 x.to)), some (96, some (.pointer (some ⟨V.pg, 0 + (x.to).toNat * 1, none⟩))), some (97, some (.pointer (some ⟨(nth V.hl ((x.to).toNat)).p, 0, none⟩))), some (98, some (.pointer (some ⟨(nth V.hl ((x.to).toNat)).p, 0, none⟩))), some (99, some (.pointer (some ⟨(nth V.hl ((x.to).toNat)).p, 3, none⟩))), some (100, some (.bool ((nth V.hl ((x.to).toNat)).sealed))), some (101, some (.bool ((nth V.hl ((x.to).toNat)).sealed))), some (69, some (.bool ((nth V.hl ((x.to).toNat)).sealed)))] [[],[0],[1],[2,1],[3,1],[4,1],[1],[6,1],[5,7,1],[8,1],[9,1],[10,1],[11,1],[1,12],[13,1]] (fun _ _ w => Upd (fun _ => False) w244 w) rfl rfl rfl (by kernel_rfl) (by kernel_rfl) (Upd.drew _).to ⟨?_, ?_, ?_, ?_, ?_, ?_, ?_, ?_, ?_, ?_, ?_, ?_, ?_, ?_, ?_, trivial⟩ ?_)
           · exact pz rfl rfl rfl rfl fun _ _ _ h => h
           · exact fun D ρ w _ _ _ hW => ⟨[(88, .bool (useT x))], ⟨fi 0 rfl rfl rfl, trivial⟩, fun Lr => t_move rfl rfl rfl (t_samehd (v := .bool true) (by first | exact congrArg Value.bool (decide_eq_true g89) | exact congrArg Value.bool g89 | simp [g89]) (dz rfl hW))⟩
           · exact pz rfl rfl rfl rfl fun _ _ _ h => h
           · exact pz rfl rfl rfl rfl fun _ _ _ h => h
           · exact pzf Try.underlying118 rfl Try.sizeOf114 (2) rfl rfl rfl rfl rfl fun _ _ _ h => h
           ·
            intro D ρ w250 hcD hnD hdD hW
            have zhW := hW.size
            refine ⟨_, kf_fr [89, 92], fun Lr => ?_⟩
            have B253 := (B247.keep hW (fun h => h))
            refine t_load Try.isAgg114 rfl rfl rfl (B253.get rfl) ?_
            exact dz rfl hW
           · exact pzf Try.underlying41 rfl Try.sizeOf3 (4) rfl rfl rfl rfl rfl fun _ _ _ h => h
           ·
            intro D ρ w254 hcD hnD hdD hW
            have zhW := hW.size
            refine ⟨_, kf_fr [89, 94], fun Lr => ?_⟩
            have B257 := (B248.keep hW (fun h => h))
            refine t_load Try.isAgg3 rfl rfl rfl (B257.get rfl) ?_
            exact dz rfl hW
           ·
            intro D ρ w258 hcD hnD hdD hW
            have zhW := hW.size
            have E260 := E246.next hW (fun _ _ h => h.elim)
            refine ⟨_, kf_fr [89, 93, 95], fun Lr => ?_⟩
            have i261 : (x.to).toNat < V.hl.length := (by omega)
            refine t_index (j := (x.to).toNat) Try.underlying114 Try.sizeOf119 rfl rfl rfl rfl ((((hv.ext E260)).pacc.sl (fun _ => rfl)).addr (by omega)) (by omega) i261 ?_
            exact dz rfl hW
           ·
            intro D ρ w262 hcD hnD hdD hW
            have zhW := hW.size
            have E264 := E246.next hW (fun _ _ h => h.elim)
            refine ⟨_, kf_fr [89, 96], fun Lr => ?_⟩
            refine t_load Try.isAgg119 rfl rfl rfl (((((hv.ext E264)).pacc.sl (fun _ => rfl)).at_ ((x.to).toNat) (by omega)) 0 _ rfl) ?_
            exact dz rfl hW
           · exact pz rfl rfl rfl rfl fun _ _ _ h => h
           · exact pzf Try.underlying122 rfl Try.sizeOf4 (3) rfl rfl rfl rfl rfl fun _ _ _ h => h
           ·
            intro D ρ w265 hcD hnD hdD hW
            have zhW := hW.size
            refine ⟨_, kf_fr [89, 99], fun Lr => ?_⟩
            have B268 := ((htiB.keep E246 id).keep hW (fun h => h))
            refine t_load Try.isAgg4 rfl rfl rfl (B268.get rfl) ?_
            exact dz rfl hW
           · exact pz rfl rfl rfl rfl fun _ _ _ h => h
           · exact pz rfl rfl rfl rfl fun _ _ _ h => h
           intro ρ w269 hW
           have u270 : Upd (fun _ => False) w244 w269 := hW
           have zu270 := u270.size
           refine QK.weak [(0, .pointer (some ⟨pv, 0, none⟩)), (3, .pointer (some ⟨bk2, 0, none⟩)), (5, .bool (useF x)), (6, .bool (useT x)), (69, .bool ((nth V.hl ((x.to).toNat)).sealed))] ⟨rfl, rfl, rfl, rfl, rfl, trivial⟩ ?_
           exact hK214 () _ _ ⟨rfl, rfl, rfl, rfl, (congrArg some (congrArg Value.bool (by first | (simp [c4, *]; done) | simp_all [c4]))), trivial⟩ (((Upd.refl _ _).next u245 (fun _ _ h => h.elim)).next u270 (fun _ _ h => h.elim))
          ·
           refine WC.weak [(0, .pointer (some ⟨pv, 0, none⟩)), (3, .pointer (some ⟨bk2, 0, none⟩)), (5, .bool (useF x)), (6, .bool (useT x))] ⟨rfl, rfl, rfl, rfl, trivial⟩ (c_drawn follows 15 [some (88, some (.bool (useT x))), some (89, some (.bool false)), some (90, some (undef)), some (91, some (undef)), some (92, some (undef)), some (93, some (undef)), some (94, some (undef)), some (95, some (undef)), some (96, some (undef)), some (97, some (undef)), some (98, some (undef)), some (99, some (undef)), some (100, some (undef)), some (101, some (.bool false)), some (69, some (.bool false))] [[],[0],[1],[2,1],[3,1],[4,1],[1],[6,1],[5,7,1],[8,1],[9,1],[10,1],[11,1],[1,12],[13,1]] (fun _ _ w => Upd (fun _ => False) w244 w) rfl rfl rfl (by kernel_rfl) (by kernel_rfl) (Upd.drew _).to ⟨?_, ?_, ?_, ?_, ?_, ?_, ?_, ?_, ?_, ?_, ?_, ?_, ?_, ?_, ?_, trivial⟩ ?_)
           · exact pz rfl rfl rfl rfl fun _ _ _ h => h
           · exact fun D ρ w _ _ _ hW => ⟨[(88, .bool (useT x))], ⟨fi 0 rfl rfl rfl, trivial⟩, fun Lr => t_move rfl rfl rfl (t_samehd (v := .bool false) (by first | exact congrArg Value.bool (decide_eq_false g89) | exact congrArg Value.bool g89 | simp [g89]) (dz rfl hW))⟩
           · exact pz rfl rfl rfl rfl fun _ _ _ h => h
           · exact pz rfl rfl rfl rfl fun _ _ _ h => h
           · exact pz rfl rfl rfl rfl fun _ _ _ h => h
           · exact pz rfl rfl rfl rfl fun _ _ _ h => h
           · exact pz rfl rfl rfl rfl fun _ _ _ h => h
           · exact pz rfl rfl rfl rfl fun _ _ _ h => h
           · exact pz rfl rfl rfl rfl fun _ _ _ h => h
           · exact pz rfl rfl rfl rfl fun _ _ _ h => h
           · exact pz rfl rfl rfl rfl fun _ _ _ h => h
           · exact pz rfl rfl rfl rfl fun _ _ _ h => h
           · exact pz rfl rfl rfl rfl fun _ _ _ h => h
           · exact pz rfl rfl rfl rfl fun _ _ _ h => h
           · exact pz rfl rfl rfl rfl fun _ _ _ h => h
           intro ρ w272 hW
           have u273 : Upd (fun _ => False) w244 w272 := hW
           have zu273 := u273.size
           refine QK.weak [(0, .pointer (some ⟨pv, 0, none⟩)), (3, .pointer (some ⟨bk2, 0, none⟩)), (5, .bool (useF x)), (6, .bool (useT x)), (69, .bool false)] ⟨rfl, rfl, rfl, rfl, rfl, trivial⟩ ?_
           exact hK214 () _ _ ⟨rfl, rfl, rfl, rfl, (congrArg some (congrArg Value.bool (by first | (simp [c4, *]; done) | simp_all [c4]))), trivial⟩ (((Upd.refl _ _).next u245 (fun _ _ h => h.elim)).next u273 (fun _ _ h => h.elim))
        ·
         refine WC.weak [(0, .pointer (some ⟨pv, 0, none⟩)), (3, .pointer (some ⟨bk2, 0, none⟩)), (5, .bool (useF x)), (6, .bool (useT x))] ⟨rfl, rfl, rfl, rfl, trivial⟩ (c_drawn follows 19 [some (70, some (.bool (useF x))), some (71, some (.bool false)), some (72, some (undef)), some (73, some (undef)), some (74, some (undef)), some (75, some (undef)), some (76, some (undef)), some (77, some (undef)), some (78, some (undef)), some (79, some (undef)), some (80, some (undef)), some (81, some (undef)), some (82, some (undef)), some (83, some (undef)), some (84, some (undef)), some (85, some (undef)), some (86, some (undef)), some (87, some (.bool false)), some (69, some (.bool false))] [[],[0],[1],[2,1],[3,1],[4,1],[1],[6,1],[5,7,1],[8,1],[9,1],[10,1],[11,1],[1],[13,1],[14,1],[12,15,1],[1,16],[17,1]] (fun _ _ w => Upd (fun _ => False) w208 w) rfl rfl rfl (by kernel_rfl) (by kernel_rfl) (Upd.drew _).to ⟨?_, ?_, ?_, ?_, ?_, ?_, ?_, ?_, ?_, ?_, ?_, ?_, ?_, ?_, ?_, ?_, ?_, ?_, ?_, trivial⟩ ?_)
         · exact pz rfl rfl rfl rfl fun _ _ _ h => h
         · exact fun D ρ w _ _ _ hW => ⟨[(70, .bool (useF x))], ⟨fi 0 rfl rfl rfl, trivial⟩, fun Lr => t_move rfl rfl rfl (t_samehd (v := .bool false) (by first | exact congrArg Value.bool (decide_eq_false g71) | exact congrArg Value.bool g71 | simp [g71]) (dz rfl hW))⟩
         · exact pz rfl rfl rfl rfl fun _ _ _ h => h
         · exact pz rfl rfl rfl rfl fun _ _ _ h => h
         · exact pz rfl rfl rfl rfl fun _ _ _ h => h
         · exact pz rfl rfl rfl rfl fun _ _ _ h => h
         · exact pz rfl rfl rfl rfl fun _ _ _ h => h
         · exact pz rfl rfl rfl rfl fun _ _ _ h => h
         · exact pz rfl rfl rfl rfl fun _ _ _ h => h
         · exact pz rfl rfl rfl rfl fun _ _ _ h => h
         · exact pz rfl rfl rfl rfl fun _ _ _ h => h
         · exact pz rfl rfl rfl rfl fun _ _ _ h => h
         · exact pz rfl rfl rfl rfl fun _ _ _ h => h
         · exact pz rfl rfl rfl rfl fun _ _ _ h => h
         · exact pz rfl rfl rfl rfl fun _ _ _ h => h
         · exact pz rfl rfl rfl rfl fun _ _ _ h => h
         · exact pz rfl rfl rfl rfl fun _ _ _ h => h
         · exact pz rfl rfl rfl rfl fun _ _ _ h => h
         · exact pz rfl rfl rfl rfl fun _ _ _ h => h
         intro ρ w275 hW
         have u276 : Upd (fun _ => False) w208 w275 := hW
         have zu276 := u276.size
         have E277 := E211.next u276 (fun _ _ h => h.elim)
         refine QK.weak [(0, .pointer (some ⟨pv, 0, none⟩)), (3, .pointer (some ⟨bk2, 0, none⟩)), (5, .bool (useF x)), (6, .bool (useT x)), (69, .bool false)] ⟨rfl, rfl, rfl, rfl, rfl, trivial⟩ (hK217 _ _ (c_cond_f rfl ?_))
         have B278 := (B218.keep u276 (fun h => h))
         have B279 := (B219.keep u276 (fun h => h))
         rcases Bool.eq_false_or_eq_true ((useT x)) with g89 | g89
         ·
          have hT2 := hc2.2.1 g89
          have hti : (x.to).toNat < V.hl.length := by omega
          have htiB := (hv.hold _ (nth_mem hti)).blk
          have htif := hvo.few (nth_mem hti)
          refine WC.weak [(0, .pointer (some ⟨pv, 0, none⟩)), (3, .pointer (some ⟨bk2, 0, none⟩)), (5, .bool (useF x)), (6, .bool (useT x))] ⟨rfl, rfl, rfl, rfl, trivial⟩ (c_drawn follows 15 [some (88, some (.bool (useT x))), some (89, some (.bool true)), some (90, some (.pointer (some ⟨pv, 0, none⟩))), some (91, some (.pointer (some ⟨pv, 0, none⟩))), some (92, some (.pointer (some ⟨pv, 2, none⟩))), some (93, some (.slice V.pa V.hl.length V.pc)), some (94, some (.pointer (some ⟨bk2, 4, none⟩))), some (95, some (.int .i64 x.to)), some (96, some (.pointer (some ⟨V.pg, 0 + (x.to).toNat * 1, none⟩))), some (97, some (.pointer (some ⟨(nth V.hl ((x.to).toNat)).p, 0, none⟩))), some (98, some (.pointer (some ⟨(nth V.hl ((x.to).toNat)).p, 0, none⟩))), some (99, some (.pointer (some ⟨(nth V.hl ((x.to).toNat)).p, 3, none⟩))), some (100, some (.bool ((nth V.hl ((x.to).toNat)).sealed))), some (101, some (.bool ((nth V.hl ((x.to).toNat)).sealed))), some (69, some (.bool ((nth V.hl ((x.to).toNat)).sealed)))] [[],[0],[1],[2,1],[3,1],[4,1],[1],[6,1],[5,7,1],[8,1],[9,1],[10,1],[11,1],[1,12],[13,1]] (fun _ _ w => Upd (fun _ => False) w275 w) rfl rfl rfl (by kernel_rfl) (by kernel_rfl) (Upd.drew _).to ⟨?_, ?_, ?_, ?_, ?_, ?_, ?_, ?_, ?_, ?_, ?_, ?_, ?_, ?_, ?_, trivial⟩ ?_)
          · exact pz rfl rfl rfl rfl fun _ _ _ h => h
          · exact fun D ρ w _ _ _ hW => ⟨[(88, .bool (useT x))], ⟨fi 0 rfl rfl rfl, trivial⟩, fun Lr => t_move rfl rfl rfl (t_samehd (v := .bool true) (by first | exact congrArg Value.bool (decide_eq_true g89) | exact congrArg Value.bool g89 | simp [g89]) (dz rfl hW))⟩
          · exact pz rfl rfl rfl rfl fun _ _ _ h => h
          · exact pz rfl rfl rfl rfl fun _ _ _ h => h
          · exact pzf Try.underlying118 rfl Try.sizeOf114 (2) rfl rfl rfl rfl rfl fun _ _ _ h => h
          ·
           intro D ρ w281 hcD hnD hdD hW
           have zhW := hW.size
           refine ⟨_, kf_fr [89, 92], fun Lr => ?_⟩
           have B284 := (B278.keep hW (fun h => h))
           refine t_load Try.isAgg114 rfl rfl rfl (B284.get rfl) ?_
           exact dz rfl hW
          · exact pzf Try.underlying41 rfl Try.sizeOf3 (4) rfl rfl rfl rfl rfl fun _ _ _ h => h
          ·
           intro D ρ w285 hcD hnD hdD hW
           have zhW := hW.size
           refine ⟨_, kf_fr [89, 94], fun Lr => ?_⟩
           have B288 := (B279.keep hW (fun h => h))
           refine t_load Try.isAgg3 rfl rfl rfl (B288.get rfl) ?_
           exact dz rfl hW
          ·
           intro D ρ w289 hcD hnD hdD hW
           have zhW := hW.size
           have E291 := E277.next hW (fun _ _ h => h.elim)
           refine ⟨_, kf_fr [89, 93, 95], fun Lr => ?_⟩
           have i292 : (x.to).toNat < V.hl.length := (by omega)
           refine t_index (j := (x.to).toNat) Try.underlying114 Try.sizeOf119 rfl rfl rfl rfl ((((hv.ext E291)).pacc.sl (fun _ => rfl)).addr (by omega)) (by omega) i292 ?_
           exact dz rfl hW
          ·
           intro D ρ w293 hcD hnD hdD hW
           have zhW := hW.size
           have E295 := E277.next hW (fun _ _ h => h.elim)
           refine ⟨_, kf_fr [89, 96], fun Lr => ?_⟩
           refine t_load Try.isAgg119 rfl rfl rfl (((((hv.ext E295)).pacc.sl (fun _ => rfl)).at_ ((x.to).toNat) (by omega)) 0 _ rfl) ?_
           exact dz rfl hW
          · exact pz rfl rfl rfl rfl fun _ _ _ h => h
          · exact pzf Try.underlying122 rfl Try.sizeOf4 (3) rfl rfl rfl rfl rfl fun _ _ _ h => h
          ·
           intro D ρ w296 hcD hnD hdD hW
           have zhW := hW.size
           refine ⟨_, kf_fr [89, 99], fun Lr => ?_⟩
           have B299 := ((htiB.keep E277 id).keep hW (fun h => h))
           refine t_load Try.isAgg4 rfl rfl rfl (B299.get rfl) ?_
           exact dz rfl hW
          · exact pz rfl rfl rfl rfl fun _ _ _ h => h
          · exact pz rfl rfl rfl rfl fun _ _ _ h => h
          intro ρ w300 hW
          have u301 : Upd (fun _ => False) w275 w300 := hW
          have zu301 := u301.size
          refine QK.weak [(0, .pointer (some ⟨pv, 0, none⟩)), (3, .pointer (some ⟨bk2, 0, none⟩)), (5, .bool (useF x)), (6, .bool (useT x)), (69, .bool ((nth V.hl ((x.to).toNat)).sealed))] ⟨rfl, rfl, rfl, rfl, rfl, trivial⟩ ?_
          exact hK214 () _ _ ⟨rfl, rfl, rfl, rfl, (congrArg some (congrArg Value.bool (by first | (simp [c4, *]; done) | simp_all [c4]))), trivial⟩ (((Upd.refl _ _).next u276 (fun _ _ h => h.elim)).next u301 (fun _ _ h => h.elim))
         ·
          refine WC.weak [(0, .pointer (some ⟨pv, 0, none⟩)), (3, .pointer (some ⟨bk2, 0, none⟩)), (5, .bool (useF x)), (6, .bool (useT x))] ⟨rfl, rfl, rfl, rfl, trivial⟩ (c_drawn follows 15 [some (88, some (.bool (useT x))), some (89, some (.bool false)), some (90, some (undef)), some (91, some (undef)), some (92, some (undef)), some (93, some (undef)), some (94, some (undef)), some (95, some (undef)), some (96, some (undef)), some (97, some (undef)), some (98, some (undef)), some (99, some (undef)), some (100, some (undef)), some (101, some (.bool false)), some (69, some (.bool false))] [[],[0],[1],[2,1],[3,1],[4,1],[1],[6,1],[5,7,1],[8,1],[9,1],[10,1],[11,1],[1,12],[13,1]] (fun _ _ w => Upd (fun _ => False) w275 w) rfl rfl rfl (by kernel_rfl) (by kernel_rfl) (Upd.drew _).to ⟨?_, ?_, ?_, ?_, ?_, ?_, ?_, ?_, ?_, ?_, ?_, ?_, ?_, ?_, ?_, trivial⟩ ?_)
          · exact pz rfl rfl rfl rfl fun _ _ _ h => h
          · exact fun D ρ w _ _ _ hW => ⟨[(88, .bool (useT x))], ⟨fi 0 rfl rfl rfl, trivial⟩, fun Lr => t_move rfl rfl rfl (t_samehd (v := .bool false) (by first | exact congrArg Value.bool (decide_eq_false g89) | exact congrArg Value.bool g89 | simp [g89]) (dz rfl hW))⟩
          · exact pz rfl rfl rfl rfl fun _ _ _ h => h
          · exact pz rfl rfl rfl rfl fun _ _ _ h => h
          · exact pz rfl rfl rfl rfl fun _ _ _ h => h
          · exact pz rfl rfl rfl rfl fun _ _ _ h => h
          · exact pz rfl rfl rfl rfl fun _ _ _ h => h
          · exact pz rfl rfl rfl rfl fun _ _ _ h => h
          · exact pz rfl rfl rfl rfl fun _ _ _ h => h
          · exact pz rfl rfl rfl rfl fun _ _ _ h => h
          · exact pz rfl rfl rfl rfl fun _ _ _ h => h
          · exact pz rfl rfl rfl rfl fun _ _ _ h => h
          · exact pz rfl rfl rfl rfl fun _ _ _ h => h
          · exact pz rfl rfl rfl rfl fun _ _ _ h => h
          · exact pz rfl rfl rfl rfl fun _ _ _ h => h
          intro ρ w303 hW
          have u304 : Upd (fun _ => False) w275 w303 := hW
          have zu304 := u304.size
          refine QK.weak [(0, .pointer (some ⟨pv, 0, none⟩)), (3, .pointer (some ⟨bk2, 0, none⟩)), (5, .bool (useF x)), (6, .bool (useT x)), (69, .bool false)] ⟨rfl, rfl, rfl, rfl, rfl, trivial⟩ ?_
          exact hK214 () _ _ ⟨rfl, rfl, rfl, rfl, (congrArg some (congrArg Value.bool (by first | (simp [c4, *]; done) | simp_all [c4]))), trivial⟩ (((Upd.refl _ _).next u276 (fun _ _ h => h.elim)).next u304 (fun _ _ h => h.elim))
       ·
        intro _x w215 u216
        have zu216 := u216.size
        have E306 := E211.next u216 (fun _ _ h => h.elim)
        refine c_cond rfl (fun g69 => ?_) (fun g69 => ?_)
        ·
         refine c_seq fun K307 hK307 => (c_region (t_assign rfl rfl rfl (t_nil' (hK307 _ _ (c_ret (f_ret1 (v := .int .i64 9) Try.results73 rfl ?_))))))
         exact ⟨congrArg (Value.int .i64) (by unfold chkV; rw [if_neg g12, if_neg (by simpa using g20), if_neg (by simpa using g57), if_pos g69]), E306⟩
        ·
         refine c_skip ?_
         exact hK14 () _ _ ⟨rfl, rfl, rfl, rfl, trivial⟩ ⟨(((((Upd.refl _ _).next u29 (fun _ _ h => h.elim)).next u35 (fun _ _ h => h.elim)).next u209 (fun _ _ h => h.elim)).next u216 (fun _ _ h => h.elim)), ⟨g12, (by simpa using g20), (by simpa using g57), (by simpa using g69)⟩⟩
 ·
  intro _x w15 hW
  obtain ⟨u16, I308⟩ := hW
  have zu16 := u16.size
  have E309 := E12.next u16 (fun _ _ h => h.elim)
  have hst1 := I308; clear I308
  have I7 := hst1.2.1
  have hc2 : (useF x = true → x.frm < (V.hl.length : Int)) ∧ (useT x = true → x.to < (V.hl.length : Int)) ∧ (x.kind = 1 → x.bill < (V.bs.length : Int)) := by
    have h : c2 V x = false := by simpa using I7
    simp only [c2, Bool.or_eq_false_iff, Bool.and_eq_false_iff, decide_eq_false_iff_not] at h
    refine ⟨fun h1 => ?_, fun h1 => ?_, fun h1 => ?_⟩
    · rcases h.1.1 with h2 | h2
      · rw [h1] at h2; cases h2
      · omega
    · rcases h.1.2 with h2 | h2
      · rw [h1] at h2; cases h2
      · omega
    · rcases h.2 with h2 | h2 <;> omega
  refine c_cut (γ := Unit) (fun _x => [(0, .pointer (some ⟨pv, 0, none⟩)), (3, .pointer (some ⟨bk2, 0, none⟩)), (5, .bool (useF x)), (6, .bool (useT x))]) (fun _x w => Upd (fun _ => False) w15 w ∧ (chkK V x = 0)) (fun K311 hK311 => ?_) ?_
  ·
   refine c_seq fun K314 hK314 => (c_region (t_field Try.underlying41 rfl Try.sizeOf39 (0) rfl rfl rfl rfl ?_))
   have B315 := ((B4.keep u10 (fun h => h)).keep u16 (fun h => h))
   refine t_load Try.isAgg39 rfl rfl rfl (B315.get rfl) (t_nil' (hK314 _ _ (c_block (c_seq fun K316 hK316 => (c_region (t_cmp rfl rfl rfl rfl rfl (t_assign rfl rfl rfl (t_nil' (hK316 _ _ (c_condp rfl (fun g104 => ?_) (fun g104 => ?_)))))))))))
   ·
    have hB2 := hc2.2.2 g104
    have hbr := hvo.bil _ (nth_mem (xs := V.bs) (i := (x.bill).toNat) (by omega))
    simp only [okBil, decide_eq_true_eq] at hbr
    have hlr := hvo.lsr (x.bill).toNat (by omega)
    refine c_seq fun K317 hK317 => (c_seq fun K318 hK318 => ?_)
    have B319 := (((hpb.keep u5 (fun h => h)).keep u10 (fun h => h)).keep u16 (fun h => h))
    refine WC.weak [(0, .pointer (some ⟨pv, 0, none⟩)), (3, .pointer (some ⟨bk2, 0, none⟩)), (5, .bool (useF x)), (6, .bool (useT x))] ⟨rfl, rfl, rfl, rfl, trivial⟩ (c_drawn follows 13 [some (106, some (.pointer (some ⟨bk2, 6, none⟩))), some (107, some (.int .i64 x.port)), some (108, some (.pointer (some ⟨pv, 0, none⟩))), some (109, some (.pointer (some ⟨pv, 0, none⟩))), some (110, some (.pointer (some ⟨pv, 0, none⟩))), some (111, some (.pointer (some ⟨pv, 0, none⟩))), some (112, some (.slice V.ab V.bs.length V.cb)), some (113, some (.pointer (some ⟨bk2, 2, none⟩))), some (114, some (.int .i64 x.bill)), some (115, some (.pointer (some ⟨V.bb, V.ob + (x.bill).toNat * 3, none⟩))), some (116, some (.pointer (some ⟨V.bb, V.ob + (x.bill).toNat * 3 + 1, none⟩))), some (117, some (.int .i64 ((nth V.bs ((x.bill).toNat)).frm))), some (118, some (.bool (decide (x.port ≠ (nth V.bs ((x.bill).toNat)).frm))))] [[],[0],[],[2],[3],[4],[5],[],[7],[6,8],[9],[10],[1,11]] (fun _ _ w => Upd (fun _ => False) w15 w) rfl rfl rfl (by kernel_rfl) (by kernel_rfl) (Upd.drew _).to ⟨?_, ?_, ?_, ?_, ?_, ?_, ?_, ?_, ?_, ?_, ?_, ?_, ?_, trivial⟩ ?_)
    · exact pzf Try.underlying41 rfl Try.sizeOf3 (6) rfl rfl rfl rfl rfl fun _ _ _ h => h
    ·
     intro D ρ w321 hcD hnD hdD hW
     have zhW := hW.size
     refine ⟨_, kf_fr [106], fun Lr => ?_⟩
     have B324 := (B315.keep hW (fun h => h))
     refine t_load Try.isAgg3 rfl rfl rfl (B324.get rfl) ?_
     exact dz rfl hW
    · exact pz rfl rfl rfl rfl fun _ _ _ h => h
    · exact pz rfl rfl rfl rfl fun _ _ _ h => h
    · exact pzf Try.underlying118 rfl Try.sizeOf25 (0) rfl rfl rfl rfl rfl fun _ _ _ h => h
    · exact pzf Try.underlying25 rfl Try.sizeOf22 (0) rfl rfl rfl rfl rfl fun _ _ _ h => h
    ·
     intro D ρ w325 hcD hnD hdD hW
     have zhW := hW.size
     refine ⟨_, kf_fr [111], fun Lr => ?_⟩
     have B328 := (B319.keep hW (fun h => h))
     refine t_load Try.isAgg22 rfl rfl rfl (B328.get rfl) ?_
     exact dz rfl hW
    · exact pzf Try.underlying41 rfl Try.sizeOf3 (2) rfl rfl rfl rfl rfl fun _ _ _ h => h
    ·
     intro D ρ w329 hcD hnD hdD hW
     have zhW := hW.size
     refine ⟨_, kf_fr [113], fun Lr => ?_⟩
     have B332 := (B315.keep hW (fun h => h))
     refine t_load Try.isAgg3 rfl rfl rfl (B332.get rfl) ?_
     exact dz rfl hW
    ·
     intro D ρ w333 hcD hnD hdD hW
     have zhW := hW.size
     have E335 := E309.next hW (fun _ _ h => h.elim)
     refine ⟨_, kf_fr [112, 114], fun Lr => ?_⟩
     have i336 : (x.bill).toNat < V.bs.length := (by omega)
     refine t_index (j := (x.bill).toNat) Try.underlying22 Try.sizeOf93 rfl rfl rfl rfl (((hv.ext E335)).bil.addr (by omega)) (by omega) i336 ?_
     exact dz rfl hW
    · exact pzf Try.underlying93 rfl Try.sizeOf3 (V.ob + (x.bill).toNat * 3 + 1) rfl rfl rfl rfl rfl fun _ _ _ h => h
    ·
     intro D ρ w337 hcD hnD hdD hW
     have zhW := hW.size
     have E339 := E309.next hW (fun _ _ h => h.elim)
     refine ⟨_, kf_fr [116], fun Lr => ?_⟩
     refine t_load Try.isAgg3 rfl rfl rfl ((((hv.ext E339)).bil.at_ ((x.bill).toNat) (by omega)) 1 _ rfl) ?_
     exact dz rfl hW
    · exact pz rfl rfl rfl rfl fun _ _ _ h => h
    intro ρ w340 hW
    have u341 : Upd (fun _ => False) w15 w340 := hW
    have zu341 := u341.size
    have E342 := E309.next u341 (fun _ _ h => h.elim)
    refine QK.weak [(0, .pointer (some ⟨pv, 0, none⟩)), (3, .pointer (some ⟨bk2, 0, none⟩)), (5, .bool (useF x)), (6, .bool (useT x)), (118, .bool (decide (x.port ≠ (nth V.bs ((x.bill).toNat)).frm)))] ⟨rfl, rfl, rfl, rfl, rfl, trivial⟩ (hK318 _ _ (c_condp rfl (fun g118 => ?_) (fun g118 => ?_)))
    ·
     refine c_seq fun K343 hK343 => (c_region (t_assign rfl rfl rfl (t_nil' (hK343 _ _ (c_ret (f_ret1 (v := .int .i64 9) Try.results73 rfl ?_))))))
     have hK : chkK V x = 9 := by unfold chkK; simp only [*, if_true, if_false, ne_eq, not_true_eq_false, not_false_eq_true, false_and, true_and, and_false, and_true] <;> first | done | rfl | (split <;> first | omega | rfl)
     exact ⟨congrArg (Value.int .i64) (by unfold chkV; rw [if_neg hst1.1, if_neg (by rw [hst1.2.1]; simp), if_neg (by rw [hst1.2.2.1]; simp), if_neg (by rw [hst1.2.2.2]; simp), if_pos (by rw [hK]; decide), hK]), E342⟩
    ·
     refine c_skip (hK317 _ _ (c_seq fun K344 hK344 => ?_))
     have B345 := (B319.keep u341 (fun h => h))
     have B346 := (B315.keep u341 (fun h => h))
     refine WC.weak [(0, .pointer (some ⟨pv, 0, none⟩)), (3, .pointer (some ⟨bk2, 0, none⟩)), (5, .bool (useF x)), (6, .bool (useT x))] ⟨rfl, rfl, rfl, rfl, trivial⟩ (c_drawn follows 22 [some (119, some (.pointer (some ⟨pv, 0, none⟩))), some (120, some (.pointer (some ⟨pv, 0, none⟩))), some (121, some (.pointer (some ⟨pv, 3, none⟩))), some (122, some (.slice (some ⟨V.lb, 0, none⟩) V.ls.length V.ls.length)), some (123, some (.pointer (some ⟨bk2, 2, none⟩))), some (124, some (.int .i64 x.bill)), some (125, some (.pointer (some ⟨V.lb, 0 + (x.bill).toNat * 1, none⟩))), some (126, some (.int .i64 (nth V.ls ((x.bill).toNat)))), some (127, some (.pointer (some ⟨bk2, 5, none⟩))), some (128, some (.int .i64 x.tons)), some (129, some (.int .i64 ((nth V.ls ((x.bill).toNat)) + x.tons))), some (130, some (.pointer (some ⟨pv, 0, none⟩))), some (131, some (.pointer (some ⟨pv, 0, none⟩))), some (132, some (.pointer (some ⟨pv, 0, none⟩))), some (133, some (.pointer (some ⟨pv, 0, none⟩))), some (134, some (.slice V.ab V.bs.length V.cb)), some (135, some (.pointer (some ⟨bk2, 2, none⟩))), some (136, some (.int .i64 x.bill)), some (137, some (.pointer (some ⟨V.bb, V.ob + (x.bill).toNat * 3, none⟩))), some (138, some (.pointer (some ⟨V.bb, V.ob + (x.bill).toNat * 3 + 0, none⟩))), some (139, some (.int .i64 ((nth V.bs ((x.bill).toNat)).tons))), some (140, some (.bool (decide ((nth V.bs ((x.bill).toNat)).tons < ((nth V.ls ((x.bill).toNat)) + x.tons)))))] [[],[0],[1],[2],[],[4],[3,5],[6],[],[8],[7,9],[],[11],[12],[13],[14],[],[16],[15,17],[18],[19],[10,20]] (fun _ _ w => Upd (fun _ => False) w340 w) rfl rfl rfl (by kernel_rfl) (by kernel_rfl) (Upd.drew _).to ⟨?_, ?_, ?_, ?_, ?_, ?_, ?_, ?_, ?_, ?_, ?_, ?_, ?_, ?_, ?_, ?_, ?_, ?_, ?_, ?_, ?_, ?_, trivial⟩ ?_)
     · exact pz rfl rfl rfl rfl fun _ _ _ h => h
     · exact pz rfl rfl rfl rfl fun _ _ _ h => h
     · exact pzf Try.underlying118 rfl Try.sizeOf45 (3) rfl rfl rfl rfl rfl fun _ _ _ h => h
     ·
      intro D ρ w349 hcD hnD hdD hW
      have zhW := hW.size
      refine ⟨_, kf_fr [121], fun Lr => ?_⟩
      have B352 := (B345.keep hW (fun h => h))
      refine t_load Try.isAgg45 rfl rfl rfl (B352.get rfl) ?_
      exact dz rfl hW
     · exact pzf Try.underlying41 rfl Try.sizeOf3 (2) rfl rfl rfl rfl rfl fun _ _ _ h => h
     ·
      intro D ρ w353 hcD hnD hdD hW
      have zhW := hW.size
      refine ⟨_, kf_fr [123], fun Lr => ?_⟩
      have B356 := (B346.keep hW (fun h => h))
      refine t_load Try.isAgg3 rfl rfl rfl (B356.get rfl) ?_
      exact dz rfl hW
     ·
      intro D ρ w357 hcD hnD hdD hW
      have zhW := hW.size
      have E359 := E342.next hW (fun _ _ h => h.elim)
      refine ⟨_, kf_fr [122, 124], fun Lr => ?_⟩
      have i360 : (x.bill).toNat < V.ls.length := (by omega)
      refine t_index (j := (x.bill).toNat) Try.underlying45 Try.sizeOf3 rfl rfl rfl rfl ((SlI.own ((hv.ext E359)).lblk).addr (by omega)) (by omega) i360 ?_
      exact dz rfl hW
     ·
      intro D ρ w361 hcD hnD hdD hW
      have zhW := hW.size
      have E363 := E342.next hW (fun _ _ h => h.elim)
      refine ⟨_, kf_fr [125], fun Lr => ?_⟩
      refine t_load Try.isAgg3 rfl rfl rfl (((SlI.own ((hv.ext E363)).lblk).at_ ((x.bill).toNat) (by omega)) 0 _ rfl) ?_
      exact dz rfl hW
     · exact pzf Try.underlying41 rfl Try.sizeOf3 (5) rfl rfl rfl rfl rfl fun _ _ _ h => h
     ·
      intro D ρ w364 hcD hnD hdD hW
      have zhW := hW.size
      refine ⟨_, kf_fr [127], fun Lr => ?_⟩
      have B367 := (B346.keep hW (fun h => h))
      refine t_load Try.isAgg3 rfl rfl rfl (B367.get rfl) ?_
      exact dz rfl hW
     ·
      intro D ρ w368 hcD hnD hdD hW
      have zhW := hW.size
      refine ⟨_, kf_fr [126, 128], fun Lr => ?_⟩
      refine t_ari rfl rfl rfl rfl rfl (by omega) ?_
      exact dz rfl hW
     · exact pz rfl rfl rfl rfl fun _ _ _ h => h
     · exact pz rfl rfl rfl rfl fun _ _ _ h => h
     · exact pzf Try.underlying118 rfl Try.sizeOf25 (0) rfl rfl rfl rfl rfl fun _ _ _ h => h
     · exact pzf Try.underlying25 rfl Try.sizeOf22 (0) rfl rfl rfl rfl rfl fun _ _ _ h => h
     ·
      intro D ρ w371 hcD hnD hdD hW
      have zhW := hW.size
      refine ⟨_, kf_fr [133], fun Lr => ?_⟩
      have B374 := (B345.keep hW (fun h => h))
      refine t_load Try.isAgg22 rfl rfl rfl (B374.get rfl) ?_
      exact dz rfl hW
     · exact pzf Try.underlying41 rfl Try.sizeOf3 (2) rfl rfl rfl rfl rfl fun _ _ _ h => h
     ·
      intro D ρ w375 hcD hnD hdD hW
      have zhW := hW.size
      refine ⟨_, kf_fr [135], fun Lr => ?_⟩
      have B378 := (B346.keep hW (fun h => h))
      refine t_load Try.isAgg3 rfl rfl rfl (B378.get rfl) ?_
      exact dz rfl hW
     ·
      intro D ρ w379 hcD hnD hdD hW
      have zhW := hW.size
      have E381 := E342.next hW (fun _ _ h => h.elim)
      refine ⟨_, kf_fr [134, 136], fun Lr => ?_⟩
      have i382 : (x.bill).toNat < V.bs.length := (by omega)
      refine t_index (j := (x.bill).toNat) Try.underlying22 Try.sizeOf93 rfl rfl rfl rfl (((hv.ext E381)).bil.addr (by omega)) (by omega) i382 ?_
      exact dz rfl hW
     · exact pzf Try.underlying93 rfl Try.sizeOf3 (V.ob + (x.bill).toNat * 3 + 0) rfl rfl rfl rfl rfl fun _ _ _ h => h
     ·
      intro D ρ w383 hcD hnD hdD hW
      have zhW := hW.size
      have E385 := E342.next hW (fun _ _ h => h.elim)
      refine ⟨_, kf_fr [138], fun Lr => ?_⟩
      refine t_load Try.isAgg3 rfl rfl rfl ((((hv.ext E385)).bil.at_ ((x.bill).toNat) (by omega)) 0 _ rfl) ?_
      exact dz rfl hW
     · exact pz rfl rfl rfl rfl fun _ _ _ h => h
     intro ρ w386 hW
     have u387 : Upd (fun _ => False) w340 w386 := hW
     have zu387 := u387.size
     have E388 := E342.next u387 (fun _ _ h => h.elim)
     refine QK.weak [(0, .pointer (some ⟨pv, 0, none⟩)), (3, .pointer (some ⟨bk2, 0, none⟩)), (5, .bool (useF x)), (6, .bool (useT x)), (140, .bool (decide ((nth V.bs ((x.bill).toNat)).tons < ((nth V.ls ((x.bill).toNat)) + x.tons))))] ⟨rfl, rfl, rfl, rfl, rfl, trivial⟩ (hK344 _ _ (c_condp rfl (fun g140 => ?_) (fun g140 => ?_)))
     ·
      refine c_seq fun K389 hK389 => (c_region (t_assign rfl rfl rfl (t_nil' (hK389 _ _ (c_ret (f_ret1 (v := .int .i64 6) Try.results73 rfl ?_))))))
      have hK : chkK V x = 6 := by unfold chkK; simp only [*, if_true, if_false, ne_eq, not_true_eq_false, not_false_eq_true, false_and, true_and, and_false, and_true] <;> first | done | rfl | (split <;> first | omega | rfl)
      exact ⟨congrArg (Value.int .i64) (by unfold chkV; rw [if_neg hst1.1, if_neg (by rw [hst1.2.1]; simp), if_neg (by rw [hst1.2.2.1]; simp), if_neg (by rw [hst1.2.2.2]; simp), if_pos (by rw [hK]; decide), hK]), E388⟩
     ·
      refine c_skip ?_
      exact hK311 () _ _ ⟨rfl, rfl, rfl, rfl, trivial⟩ ⟨(((Upd.refl _ _).next u341 (fun _ _ h => h.elim)).next u387 (fun _ _ h => h.elim)), (by unfold chkK; simp only [*, if_true, if_false, ne_eq, not_true_eq_false, not_false_eq_true, false_and, true_and, and_false, and_true] <;> first | done | rfl | (split <;> first | omega | rfl))⟩
   ·
    refine c_seq fun K390 hK390 => (c_region (t_cmp rfl rfl rfl rfl rfl (t_assign rfl rfl rfl (t_nil' (hK390 _ _ (c_condp rfl (fun g141 => ?_) (fun g141 => ?_)))))))
    ·
     refine c_seq fun K391 hK391 => ?_
     have B392 := (((hpb.keep u5 (fun h => h)).keep u10 (fun h => h)).keep u16 (fun h => h))
     refine WC.weak [(0, .pointer (some ⟨pv, 0, none⟩)), (3, .pointer (some ⟨bk2, 0, none⟩)), (5, .bool (useF x)), (6, .bool (useT x))] ⟨rfl, rfl, rfl, rfl, trivial⟩ (c_drawn follows 7 [some (143, some (.pointer (some ⟨pv, 0, none⟩))), some (144, some (.pointer (some ⟨pv, 0, none⟩))), some (145, some (.pointer (some ⟨pv, 4, none⟩))), some (146, some (.map (some V.r))), some (147, some (.pointer (some ⟨bk2, 7, none⟩))), some (148, some (.int .i64 x.sn)), some (149, some (.bool (decide (x.sn ∈ V.sl))))] [[],[0],[1],[2],[],[4],[3,5]] (fun _ _ w => Upd (fun _ => False) w15 w) rfl rfl rfl (by kernel_rfl) (by kernel_rfl) (Upd.drew _).to ⟨?_, ?_, ?_, ?_, ?_, ?_, ?_, trivial⟩ ?_)
     · exact pz rfl rfl rfl rfl fun _ _ _ h => h
     · exact pz rfl rfl rfl rfl fun _ _ _ h => h
     · exact pzf Try.underlying118 rfl Try.sizeOf115 (4) rfl rfl rfl rfl rfl fun _ _ _ h => h
     ·
      intro D ρ w393 hcD hnD hdD hW
      have zhW := hW.size
      refine ⟨_, kf_fr [145], fun Lr => ?_⟩
      have B396 := (B392.keep hW (fun h => h))
      refine t_load Try.isAgg115 rfl rfl rfl (B396.get rfl) ?_
      exact dz rfl hW
     · exact pzf Try.underlying41 rfl Try.sizeOf3 (7) rfl rfl rfl rfl rfl fun _ _ _ h => h
     ·
      intro D ρ w397 hcD hnD hdD hW
      have zhW := hW.size
      refine ⟨_, kf_fr [147], fun Lr => ?_⟩
      have B400 := (B315.keep hW (fun h => h))
      refine t_load Try.isAgg3 rfl rfl rfl (B400.get rfl) ?_
      exact dz rfl hW
     ·
      intro D ρ w401 hcD hnD hdD hW
      have zhW := hW.size
      have E403 := E309.next hW (fun _ _ h => h.elim)
      refine ⟨_, kf_fr [146, 148], fun Lr => ?_⟩
      refine t_lookupI Try.underlying3 Try.underlying115 Try.zeroValue4 rfl rfl rfl rfl ((hv.ext E403)).seals.set ?_
      exact dz rfl hW
     intro ρ w404 hW
     have u405 : Upd (fun _ => False) w15 w404 := hW
     have zu405 := u405.size
     have E406 := E309.next u405 (fun _ _ h => h.elim)
     refine QK.weak [(0, .pointer (some ⟨pv, 0, none⟩)), (3, .pointer (some ⟨bk2, 0, none⟩)), (5, .bool (useF x)), (6, .bool (useT x)), (149, .bool (decide (x.sn ∈ V.sl)))] ⟨rfl, rfl, rfl, rfl, rfl, trivial⟩ (hK391 _ _ (c_condp rfl (fun g149 => ?_) (fun g149 => ?_)))
     ·
      refine c_seq fun K407 hK407 => (c_region (t_assign rfl rfl rfl (t_nil' (hK407 _ _ (c_ret (f_ret1 (v := .int .i64 6) Try.results73 rfl ?_))))))
      have hK : chkK V x = 6 := by unfold chkK; simp only [*, if_true, if_false, ne_eq, not_true_eq_false, not_false_eq_true, false_and, true_and, and_false, and_true] <;> first | done | rfl | (split <;> first | omega | rfl)
      exact ⟨congrArg (Value.int .i64) (by unfold chkV; rw [if_neg hst1.1, if_neg (by rw [hst1.2.1]; simp), if_neg (by rw [hst1.2.2.1]; simp), if_neg (by rw [hst1.2.2.2]; simp), if_pos (by rw [hK]; decide), hK]), E406⟩
     ·
      refine c_skip ?_
      exact hK311 () _ _ ⟨rfl, rfl, rfl, rfl, trivial⟩ ⟨((Upd.refl _ _).next u405 (fun _ _ h => h.elim)), (by unfold chkK; simp only [*, if_true, if_false, ne_eq, not_true_eq_false, not_false_eq_true, false_and, true_and, and_false, and_true] <;> first | done | rfl | (split <;> first | omega | rfl))⟩
    ·
     refine c_skip ?_
     exact hK311 () _ _ ⟨rfl, rfl, rfl, rfl, trivial⟩ ⟨(Upd.refl _ _), (by unfold chkK; simp only [*, if_true, if_false, ne_eq, not_true_eq_false, not_false_eq_true, false_and, true_and, and_false, and_true] <;> first | done | rfl | (split <;> first | omega | rfl))⟩
  ·
   intro _x w312 hW
   obtain ⟨u313, I408⟩ := hW
   have zu313 := u313.size
   have E409 := E309.next u313 (fun _ _ h => h.elim)
   have hst2 := I408; clear I408
   refine c_seq fun K410 hK410 => (c_cut (γ := Unit) (fun _x => [(0, .pointer (some ⟨pv, 0, none⟩)), (3, .pointer (some ⟨bk2, 0, none⟩)), (6, .bool (useT x)), (167, .bool (c5 V x))]) (fun _x w => Upd (fun _ => False) w312 w) (fun K412 hK412 => ?_) ?_)
   ·
    have B415 := ((((hpb.keep u5 (fun h => h)).keep u10 (fun h => h)).keep u16 (fun h => h)).keep u313 (fun h => h))
    have B416 := (((B4.keep u10 (fun h => h)).keep u16 (fun h => h)).keep u313 (fun h => h))
    rcases Bool.eq_false_or_eq_true ((useF x)) with g151 | g151
    ·
     have hF2 := hc2.1 g151
     have hfi : (x.frm).toNat < V.hl.length := by omega
     have hfiB := (hv.hold _ (nth_mem hfi)).blk
     have hfif := hvo.few (nth_mem hfi)
     refine WC.weak [(0, .pointer (some ⟨pv, 0, none⟩)), (3, .pointer (some ⟨bk2, 0, none⟩)), (5, .bool (useF x)), (6, .bool (useT x))] ⟨rfl, rfl, rfl, rfl, trivial⟩ (c_drawn follows 18 [some (150, some (.bool (useF x))), some (151, some (.bool true)), some (152, some (.pointer (some ⟨pv, 0, none⟩))), some (153, some (.pointer (some ⟨pv, 0, none⟩))), some (154, some (.pointer (some ⟨pv, 2, none⟩))), some (155, some (.slice V.pa V.hl.length V.pc)), some (156, some (.pointer (some ⟨bk2, 3, none⟩))), some (157, some (.int .i64 x.frm)), some (158, some (.pointer (some ⟨V.pg, 0 + (x.frm).toNat * 1, none⟩))), some (159, some (.pointer (some ⟨(nth V.hl ((x.frm).toNat)).p, 0, none⟩))), some (160, some (.pointer (some ⟨(nth V.hl ((x.frm).toNat)).p, 0, none⟩))), some (161, some (.pointer (some ⟨(nth V.hl ((x.frm).toNat)).p, 2, none⟩))), some (162, some (.slice ((nth V.hl ((x.frm).toNat)).ao) ((nth V.hl ((x.frm).toNat)).xs.length) ((nth V.hl ((x.frm).toNat)).cp))), some (163, some (.int .i64 (sumT (((nth V.hl ((x.frm).toNat)).xs).map HLay.v)))), some (164, some (.pointer (some ⟨bk2, 5, none⟩))), some (165, some (.int .i64 x.tons)), some (166, some (.bool (decide ((sumT (((nth V.hl ((x.frm).toNat)).xs).map HLay.v)) < x.tons)))), some (167, some (.bool (decide ((sumT (((nth V.hl ((x.frm).toNat)).xs).map HLay.v)) < x.tons))))] [[],[0],[1],[2,1],[3,1],[4,1],[1],[6,1],[5,7,1],[8,1],[9,1],[10,1],[11,1],[12,1,1],[1],[14,1],[13,15,1],[1,16]] (fun _ _ w => Upd (fun _ => False) w312 w) rfl rfl rfl (by kernel_rfl) (by kernel_rfl) (Upd.drew _).to ⟨?_, ?_, ?_, ?_, ?_, ?_, ?_, ?_, ?_, ?_, ?_, ?_, ?_, ?_, ?_, ?_, ?_, ?_, trivial⟩ ?_)
     · exact pz rfl rfl rfl rfl fun _ _ _ h => h
     · exact fun D ρ w _ _ _ hW => ⟨[(150, .bool (useF x))], ⟨fi 0 rfl rfl rfl, trivial⟩, fun Lr => t_move rfl rfl rfl (t_samehd (v := .bool true) (by first | exact congrArg Value.bool (decide_eq_true g151) | exact congrArg Value.bool g151 | simp [g151]) (dz rfl hW))⟩
     · exact pz rfl rfl rfl rfl fun _ _ _ h => h
     · exact pz rfl rfl rfl rfl fun _ _ _ h => h
     · exact pzf Try.underlying118 rfl Try.sizeOf114 (2) rfl rfl rfl rfl rfl fun _ _ _ h => h
     ·
      intro D ρ w424 hcD hnD hdD hW
      have zhW := hW.size
      refine ⟨_, kf_fr [151, 154], fun Lr => ?_⟩
      have B427 := (B415.keep hW (fun h => h))
      refine t_load Try.isAgg114 rfl rfl rfl (B427.get rfl) ?_
      exact dz rfl hW
     · exact pzf Try.underlying41 rfl Try.sizeOf3 (3) rfl rfl rfl rfl rfl fun _ _ _ h => h
     ·
      intro D ρ w428 hcD hnD hdD hW
      have zhW := hW.size
      refine ⟨_, kf_fr [151, 156], fun Lr => ?_⟩
      have B431 := (B416.keep hW (fun h => h))
      refine t_load Try.isAgg3 rfl rfl rfl (B431.get rfl) ?_
      exact dz rfl hW
     ·
      intro D ρ w432 hcD hnD hdD hW
      have zhW := hW.size
      have E434 := E409.next hW (fun _ _ h => h.elim)
      refine ⟨_, kf_fr [151, 155, 157], fun Lr => ?_⟩
      have i435 : (x.frm).toNat < V.hl.length := (by omega)
      refine t_index (j := (x.frm).toNat) Try.underlying114 Try.sizeOf119 rfl rfl rfl rfl ((((hv.ext E434)).pacc.sl (fun _ => rfl)).addr (by omega)) (by omega) i435 ?_
      exact dz rfl hW
     ·
      intro D ρ w436 hcD hnD hdD hW
      have zhW := hW.size
      have E438 := E409.next hW (fun _ _ h => h.elim)
      refine ⟨_, kf_fr [151, 158], fun Lr => ?_⟩
      refine t_load Try.isAgg119 rfl rfl rfl (((((hv.ext E438)).pacc.sl (fun _ => rfl)).at_ ((x.frm).toNat) (by omega)) 0 _ rfl) ?_
      exact dz rfl hW
     · exact pz rfl rfl rfl rfl fun _ _ _ h => h
     · exact pzf Try.underlying122 rfl Try.sizeOf120 (2) rfl rfl rfl rfl rfl fun _ _ _ h => h
     ·
      intro D ρ w439 hcD hnD hdD hW
      have zhW := hW.size
      refine ⟨_, kf_fr [151, 161], fun Lr => ?_⟩
      have B442 := ((hfiB.keep E409 id).keep hW (fun h => h))
      refine t_load Try.isAgg120 rfl rfl rfl (B442.get rfl) ?_
      exact dz rfl hW
     ·
      intro D ρ w443 hcD hnD hdD hW
      have zhW := hW.size
      have E445 := E409.next hW (fun _ _ h => h.elim)
      refine ⟨_, kf_fr [151, 162], fun Lr => ?_⟩
      refine t_call (vs := [.slice ((nth V.hl ((x.frm).toNat)).ao) ((nth V.hl ((x.frm).toNat)).xs.length) ((nth V.hl ((x.frm).toNat)).cp)]) own86 rfl rfl rfl rfl (tons_c ((nth V.hl ((x.frm).toNat)).xs) ((nth V.hl ((x.frm).toNat)).ao) (nth V.hl ((x.frm).toNat)).g 0 ((nth V.hl ((x.frm).toNat)).cp) _ ((((hv.ext E445)).hold (nth V.hl ((x.frm).toNat)) (nth_mem (by omega))).lays.acc.sl (fun _ => rfl)) (hvo.few (nth_mem (by omega))).1 (hvo.few (nth_mem (by omega))).2.1) (fun v446 w447 r449 => ?_)
      obtain ⟨rfl, u448⟩ := r449
      have zu448 := u448.size
      exact dz rfl (hW.next u448 (fun _ _ h => h.elim))
     · exact pzf Try.underlying41 rfl Try.sizeOf3 (5) rfl rfl rfl rfl rfl fun _ _ _ h => h
     ·
      intro D ρ w451 hcD hnD hdD hW
      have zhW := hW.size
      refine ⟨_, kf_fr [151, 164], fun Lr => ?_⟩
      have B454 := (B416.keep hW (fun h => h))
      refine t_load Try.isAgg3 rfl rfl rfl (B454.get rfl) ?_
      exact dz rfl hW
     · exact pz rfl rfl rfl rfl fun _ _ _ h => h
     · exact pz rfl rfl rfl rfl fun _ _ _ h => h
     intro ρ w455 hW
     have u456 : Upd (fun _ => False) w312 w455 := hW
     have zu456 := u456.size
     refine QK.weak [(0, .pointer (some ⟨pv, 0, none⟩)), (3, .pointer (some ⟨bk2, 0, none⟩)), (6, .bool (useT x)), (167, .bool (decide ((sumT (((nth V.hl ((x.frm).toNat)).xs).map HLay.v)) < x.tons)))] ⟨rfl, rfl, rfl, rfl, trivial⟩ ?_
     exact hK412 () _ _ ⟨rfl, rfl, rfl, (congrArg some (congrArg Value.bool (by first | (simp [c5, *]; done) | simp_all [c5]))), trivial⟩ ((Upd.refl _ _).next u456 (fun _ _ h => h.elim))
    ·
     refine WC.weak [(0, .pointer (some ⟨pv, 0, none⟩)), (3, .pointer (some ⟨bk2, 0, none⟩)), (5, .bool (useF x)), (6, .bool (useT x))] ⟨rfl, rfl, rfl, rfl, trivial⟩ (c_drawn follows 18 [some (150, some (.bool (useF x))), some (151, some (.bool false)), some (152, some (undef)), some (153, some (undef)), some (154, some (undef)), some (155, some (undef)), some (156, some (undef)), some (157, some (undef)), some (158, some (undef)), some (159, some (undef)), some (160, some (undef)), some (161, some (undef)), some (162, some (undef)), some (163, some (undef)), some (164, some (undef)), some (165, some (undef)), some (166, some (undef)), some (167, some (.bool false))] [[],[0],[1],[2,1],[3,1],[4,1],[1],[6,1],[5,7,1],[8,1],[9,1],[10,1],[11,1],[12,1,1],[1],[14,1],[13,15,1],[1,16]] (fun _ _ w => Upd (fun _ => False) w312 w) rfl rfl rfl (by kernel_rfl) (by kernel_rfl) (Upd.drew _).to ⟨?_, ?_, ?_, ?_, ?_, ?_, ?_, ?_, ?_, ?_, ?_, ?_, ?_, ?_, ?_, ?_, ?_, ?_, trivial⟩ ?_)
     · exact pz rfl rfl rfl rfl fun _ _ _ h => h
     · exact fun D ρ w _ _ _ hW => ⟨[(150, .bool (useF x))], ⟨fi 0 rfl rfl rfl, trivial⟩, fun Lr => t_move rfl rfl rfl (t_samehd (v := .bool false) (by first | exact congrArg Value.bool (decide_eq_false g151) | exact congrArg Value.bool g151 | simp [g151]) (dz rfl hW))⟩
     · exact pz rfl rfl rfl rfl fun _ _ _ h => h
     · exact pz rfl rfl rfl rfl fun _ _ _ h => h
     · exact pz rfl rfl rfl rfl fun _ _ _ h => h
     · exact pz rfl rfl rfl rfl fun _ _ _ h => h
     · exact pz rfl rfl rfl rfl fun _ _ _ h => h
     · exact pz rfl rfl rfl rfl fun _ _ _ h => h
     · exact pz rfl rfl rfl rfl fun _ _ _ h => h
     · exact pz rfl rfl rfl rfl fun _ _ _ h => h
     · exact pz rfl rfl rfl rfl fun _ _ _ h => h
     · exact pz rfl rfl rfl rfl fun _ _ _ h => h
     · exact pz rfl rfl rfl rfl fun _ _ _ h => h
     · exact pz rfl rfl rfl rfl fun _ _ _ h => h
     · exact pz rfl rfl rfl rfl fun _ _ _ h => h
     · exact pz rfl rfl rfl rfl fun _ _ _ h => h
     · exact pz rfl rfl rfl rfl fun _ _ _ h => h
     · exact pz rfl rfl rfl rfl fun _ _ _ h => h
     intro ρ w458 hW
     have u459 : Upd (fun _ => False) w312 w458 := hW
     have zu459 := u459.size
     refine QK.weak [(0, .pointer (some ⟨pv, 0, none⟩)), (3, .pointer (some ⟨bk2, 0, none⟩)), (6, .bool (useT x)), (167, .bool false)] ⟨rfl, rfl, rfl, rfl, trivial⟩ ?_
     exact hK412 () _ _ ⟨rfl, rfl, rfl, (congrArg some (congrArg Value.bool (by first | (simp [c5, *]; done) | simp_all [c5]))), trivial⟩ ((Upd.refl _ _).next u459 (fun _ _ h => h.elim))
   ·
    intro _x w413 u414
    have zu414 := u414.size
    have E461 := E409.next u414 (fun _ _ h => h.elim)
    refine c_cond rfl (fun g167 => ?_) (fun g167 => ?_)
    ·
     refine c_seq fun K462 hK462 => (c_region (t_assign rfl rfl rfl (t_nil' (hK462 _ _ (c_ret (f_ret1 (v := .int .i64 3) Try.results73 rfl ?_))))))
     exact ⟨congrArg (Value.int .i64) (by unfold chkV; rw [if_neg hst1.1, if_neg (by rw [hst1.2.1]; simp), if_neg (by rw [hst1.2.2.1]; simp), if_neg (by rw [hst1.2.2.2]; simp), if_neg (by rw [hst2]; simp), if_pos g167]), E461⟩
    ·
     refine c_skip (hK410 _ _ (c_seq fun K463 hK463 => (c_cut (γ := Unit) (fun _x => [(203, .bool (c6 V x))]) (fun _x w => Upd (fun _ => False) w413 w) (fun K465 hK465 => ?_) ?_)))
     ·
      have B468 := (((((hpb.keep u5 (fun h => h)).keep u10 (fun h => h)).keep u16 (fun h => h)).keep u313 (fun h => h)).keep u414 (fun h => h))
      have B469 := ((((B4.keep u10 (fun h => h)).keep u16 (fun h => h)).keep u313 (fun h => h)).keep u414 (fun h => h))
      rcases Bool.eq_false_or_eq_true ((useT x)) with g169 | g169
      ·
       have hT2 := hc2.2.1 g169
       have hti : (x.to).toNat < V.hl.length := by omega
       have htiB := (hv.hold _ (nth_mem hti)).blk
       have htif := hvo.few (nth_mem hti)
       by_cases g199 : (nth V.hl ((x.to).toNat)).cap < ((sumT (((nth V.hl ((x.to).toNat)).xs).map HLay.v)) + x.tons)
       ·
        refine WC.weak [(0, .pointer (some ⟨pv, 0, none⟩)), (3, .pointer (some ⟨bk2, 0, none⟩)), (6, .bool (useT x))] ⟨rfl, rfl, rfl, trivial⟩ (c_drawn follows 36 [some (168, some (.bool (useT x))), some (169, some (.bool true)), some (170, some (.pointer (some ⟨pv, 0, none⟩))), some (171, some (.pointer (some ⟨pv, 0, none⟩))), some (172, some (.pointer (some ⟨pv, 2, none⟩))), some (173, some (.slice V.pa V.hl.length V.pc)), some (174, some (.pointer (some ⟨bk2, 4, none⟩))), some (175, some (.int .i64 x.to)), some (176, some (.pointer (some ⟨V.pg, 0 + (x.to).toNat * 1, none⟩))), some (177, some (.pointer (some ⟨(nth V.hl ((x.to).toNat)).p, 0, none⟩))), some (178, some (.pointer (some ⟨(nth V.hl ((x.to).toNat)).p, 0, none⟩))), some (179, some (.pointer (some ⟨(nth V.hl ((x.to).toNat)).p, 2, none⟩))), some (180, some (.slice ((nth V.hl ((x.to).toNat)).ao) ((nth V.hl ((x.to).toNat)).xs.length) ((nth V.hl ((x.to).toNat)).cp))), some (181, some (.int .i64 (sumT (((nth V.hl ((x.to).toNat)).xs).map HLay.v)))), some (182, some (.pointer (some ⟨bk2, 5, none⟩))), some (183, some (.int .i64 x.tons)), some (184, some (.int .i64 ((sumT (((nth V.hl ((x.to).toNat)).xs).map HLay.v)) + x.tons))), some (185, some (.pointer (some ⟨pv, 0, none⟩))), some (186, some (.pointer (some ⟨pv, 0, none⟩))), some (187, some (.pointer (some ⟨pv, 2, none⟩))), some (188, some (.slice V.pa V.hl.length V.pc)), some (189, some (.pointer (some ⟨bk2, 4, none⟩))), some (190, some (.int .i64 x.to)), some (191, some (.pointer (some ⟨V.pg, 0 + (x.to).toNat * 1, none⟩))), some (192, some (.pointer (some ⟨(nth V.hl ((x.to).toNat)).p, 0, none⟩))), some (193, some (.pointer (some ⟨(nth V.hl ((x.to).toNat)).p, 0, none⟩))), some (194, some (.pointer (some ⟨(nth V.hl ((x.to).toNat)).p, 0, none⟩))), some (195, some (.pointer (some ⟨(nth V.hl ((x.to).toNat)).p, 1, none⟩))), some (196, some (.int .i64 ((nth V.hl ((x.to).toNat)).cap))), some (197, some (.bool (decide ((nth V.hl ((x.to).toNat)).cap < ((sumT (((nth V.hl ((x.to).toNat)).xs).map HLay.v)) + x.tons))))), some (198, some (.bool (decide ((nth V.hl ((x.to).toNat)).cap < ((sumT (((nth V.hl ((x.to).toNat)).xs).map HLay.v)) + x.tons))))), some (199, some (.bool true)), some (200, some (.pointer (some ⟨bk2, 5, none⟩))), some (201, some (.int .i64 x.tons)), some (202, some (.bool (decide (0 < x.tons)))), some (203, some (.bool (decide (0 < x.tons))))] [[],[0],[1],[2,1],[3,1],[4,1],[1],[6,1],[5,7,1],[8,1],[9,1],[10,1],[11,1],[12,1,1],[1],[14,1],[13,15,1],[1],[17,1],[18,1],[19,1],[1],[21,1],[20,22,1],[23,1],[24,1],[25,1],[26,1],[27,1],[16,28,1],[1,29],[30,13],[31],[32,31],[33,31],[31,34]] (fun _ _ w => Upd (fun _ => False) w413 w) rfl rfl rfl (by kernel_rfl) (by kernel_rfl) (Upd.drew _).to ⟨?_, ?_, ?_, ?_, ?_, ?_, ?_, ?_, ?_, ?_, ?_, ?_, ?_, ?_, ?_, ?_, ?_, ?_, ?_, ?_, ?_, ?_, ?_, ?_, ?_, ?_, ?_, ?_, ?_, ?_, ?_, ?_, ?_, ?_, ?_, ?_, trivial⟩ ?_)
        · exact pz rfl rfl rfl rfl fun _ _ _ h => h
        · exact fun D ρ w _ _ _ hW => ⟨[(168, .bool (useT x))], ⟨fi 0 rfl rfl rfl, trivial⟩, fun Lr => t_move rfl rfl rfl (t_samehd (v := .bool true) (by first | exact congrArg Value.bool (decide_eq_true g169) | exact congrArg Value.bool g169 | simp [g169]) (dz rfl hW))⟩
        · exact pz rfl rfl rfl rfl fun _ _ _ h => h
        · exact pz rfl rfl rfl rfl fun _ _ _ h => h
        · exact pzf Try.underlying118 rfl Try.sizeOf114 (2) rfl rfl rfl rfl rfl fun _ _ _ h => h
        ·
         intro D ρ w490 hcD hnD hdD hW
         have zhW := hW.size
         refine ⟨_, kf_fr [169, 172], fun Lr => ?_⟩
         have B493 := (B468.keep hW (fun h => h))
         refine t_load Try.isAgg114 rfl rfl rfl (B493.get rfl) ?_
         exact dz rfl hW
        · exact pzf Try.underlying41 rfl Try.sizeOf3 (4) rfl rfl rfl rfl rfl fun _ _ _ h => h
        ·
         intro D ρ w494 hcD hnD hdD hW
         have zhW := hW.size
         refine ⟨_, kf_fr [169, 174], fun Lr => ?_⟩
         have B497 := (B469.keep hW (fun h => h))
         refine t_load Try.isAgg3 rfl rfl rfl (B497.get rfl) ?_
         exact dz rfl hW
        ·
         intro D ρ w498 hcD hnD hdD hW
         have zhW := hW.size
         have E500 := E461.next hW (fun _ _ h => h.elim)
         refine ⟨_, kf_fr [169, 173, 175], fun Lr => ?_⟩
         have i501 : (x.to).toNat < V.hl.length := (by omega)
         refine t_index (j := (x.to).toNat) Try.underlying114 Try.sizeOf119 rfl rfl rfl rfl ((((hv.ext E500)).pacc.sl (fun _ => rfl)).addr (by omega)) (by omega) i501 ?_
         exact dz rfl hW
        ·
         intro D ρ w502 hcD hnD hdD hW
         have zhW := hW.size
         have E504 := E461.next hW (fun _ _ h => h.elim)
         refine ⟨_, kf_fr [169, 176], fun Lr => ?_⟩
         refine t_load Try.isAgg119 rfl rfl rfl (((((hv.ext E504)).pacc.sl (fun _ => rfl)).at_ ((x.to).toNat) (by omega)) 0 _ rfl) ?_
         exact dz rfl hW
        · exact pz rfl rfl rfl rfl fun _ _ _ h => h
        · exact pzf Try.underlying122 rfl Try.sizeOf120 (2) rfl rfl rfl rfl rfl fun _ _ _ h => h
        ·
         intro D ρ w505 hcD hnD hdD hW
         have zhW := hW.size
         refine ⟨_, kf_fr [169, 179], fun Lr => ?_⟩
         have B508 := ((htiB.keep E461 id).keep hW (fun h => h))
         refine t_load Try.isAgg120 rfl rfl rfl (B508.get rfl) ?_
         exact dz rfl hW
        ·
         intro D ρ w509 hcD hnD hdD hW
         have zhW := hW.size
         have E511 := E461.next hW (fun _ _ h => h.elim)
         refine ⟨_, kf_fr [169, 180], fun Lr => ?_⟩
         refine t_call (vs := [.slice ((nth V.hl ((x.to).toNat)).ao) ((nth V.hl ((x.to).toNat)).xs.length) ((nth V.hl ((x.to).toNat)).cp)]) own86 rfl rfl rfl rfl (tons_c ((nth V.hl ((x.to).toNat)).xs) ((nth V.hl ((x.to).toNat)).ao) (nth V.hl ((x.to).toNat)).g 0 ((nth V.hl ((x.to).toNat)).cp) _ ((((hv.ext E511)).hold (nth V.hl ((x.to).toNat)) (nth_mem (by omega))).lays.acc.sl (fun _ => rfl)) (hvo.few (nth_mem (by omega))).1 (hvo.few (nth_mem (by omega))).2.1) (fun v512 w513 r515 => ?_)
         obtain ⟨rfl, u514⟩ := r515
         have zu514 := u514.size
         exact dz rfl (hW.next u514 (fun _ _ h => h.elim))
        · exact pzf Try.underlying41 rfl Try.sizeOf3 (5) rfl rfl rfl rfl rfl fun _ _ _ h => h
        ·
         intro D ρ w517 hcD hnD hdD hW
         have zhW := hW.size
         refine ⟨_, kf_fr [169, 182], fun Lr => ?_⟩
         have B520 := (B469.keep hW (fun h => h))
         refine t_load Try.isAgg3 rfl rfl rfl (B520.get rfl) ?_
         exact dz rfl hW
        ·
         intro D ρ w521 hcD hnD hdD hW
         have zhW := hW.size
         refine ⟨_, kf_fr [169, 181, 183], fun Lr => ?_⟩
         refine t_ari rfl rfl rfl rfl rfl (by omega) ?_
         exact dz rfl hW
        · exact pz rfl rfl rfl rfl fun _ _ _ h => h
        · exact pz rfl rfl rfl rfl fun _ _ _ h => h
        · exact pzf Try.underlying118 rfl Try.sizeOf114 (2) rfl rfl rfl rfl rfl fun _ _ _ h => h
        ·
         intro D ρ w524 hcD hnD hdD hW
         have zhW := hW.size
         refine ⟨_, kf_fr [169, 187], fun Lr => ?_⟩
         have B527 := (B468.keep hW (fun h => h))
         refine t_load Try.isAgg114 rfl rfl rfl (B527.get rfl) ?_
         exact dz rfl hW
        · exact pzf Try.underlying41 rfl Try.sizeOf3 (4) rfl rfl rfl rfl rfl fun _ _ _ h => h
        ·
         intro D ρ w528 hcD hnD hdD hW
         have zhW := hW.size
         refine ⟨_, kf_fr [169, 189], fun Lr => ?_⟩
         have B531 := (B469.keep hW (fun h => h))
         refine t_load Try.isAgg3 rfl rfl rfl (B531.get rfl) ?_
         exact dz rfl hW
        ·
         intro D ρ w532 hcD hnD hdD hW
         have zhW := hW.size
         have E534 := E461.next hW (fun _ _ h => h.elim)
         refine ⟨_, kf_fr [169, 188, 190], fun Lr => ?_⟩
         have i535 : (x.to).toNat < V.hl.length := (by omega)
         refine t_index (j := (x.to).toNat) Try.underlying114 Try.sizeOf119 rfl rfl rfl rfl ((((hv.ext E534)).pacc.sl (fun _ => rfl)).addr (by omega)) (by omega) i535 ?_
         exact dz rfl hW
        ·
         intro D ρ w536 hcD hnD hdD hW
         have zhW := hW.size
         have E538 := E461.next hW (fun _ _ h => h.elim)
         refine ⟨_, kf_fr [169, 191], fun Lr => ?_⟩
         refine t_load Try.isAgg119 rfl rfl rfl (((((hv.ext E538)).pacc.sl (fun _ => rfl)).at_ ((x.to).toNat) (by omega)) 0 _ rfl) ?_
         exact dz rfl hW
        · exact pz rfl rfl rfl rfl fun _ _ _ h => h
        · exact pzf Try.underlying122 rfl Try.sizeOf90 (0) rfl rfl rfl rfl rfl fun _ _ _ h => h
        · exact pzf Try.underlying90 rfl Try.sizeOf3 (1) rfl rfl rfl rfl rfl fun _ _ _ h => h
        ·
         intro D ρ w539 hcD hnD hdD hW
         have zhW := hW.size
         refine ⟨_, kf_fr [169, 195], fun Lr => ?_⟩
         have B542 := ((htiB.keep E461 id).keep hW (fun h => h))
         refine t_load Try.isAgg3 rfl rfl rfl (B542.get rfl) ?_
         exact dz rfl hW
        · exact pz rfl rfl rfl rfl fun _ _ _ h => h
        · exact pz rfl rfl rfl rfl fun _ _ _ h => h
        · exact fun D ρ w _ _ _ hW => ⟨[(198, .bool (decide ((nth V.hl ((x.to).toNat)).cap < ((sumT (((nth V.hl ((x.to).toNat)).xs).map HLay.v)) + x.tons))))], ⟨fi 30 rfl rfl rfl, trivial⟩, fun Lr => t_move rfl rfl rfl (t_samehd (v := .bool true) (by first | exact congrArg Value.bool (decide_eq_true g199) | exact congrArg Value.bool g199 | simp [g199]) (dz rfl hW))⟩
        · exact pzf Try.underlying41 rfl Try.sizeOf3 (5) rfl rfl rfl rfl rfl fun _ _ _ h => h
        ·
         intro D ρ w543 hcD hnD hdD hW
         have zhW := hW.size
         refine ⟨_, kf_fr [199, 200], fun Lr => ?_⟩
         have B546 := (B469.keep hW (fun h => h))
         refine t_load Try.isAgg3 rfl rfl rfl (B546.get rfl) ?_
         exact dz rfl hW
        · exact pz rfl rfl rfl rfl fun _ _ _ h => h
        · exact pz rfl rfl rfl rfl fun _ _ _ h => h
        intro ρ w547 hW
        have u548 : Upd (fun _ => False) w413 w547 := hW
        have zu548 := u548.size
        refine QK.weak [(203, .bool (decide (0 < x.tons)))] ⟨rfl, trivial⟩ ?_
        exact hK465 () _ _ ⟨(congrArg some (congrArg Value.bool (by first | (simp [c6, *]; done) | simp_all [c6]))), trivial⟩ ((Upd.refl _ _).next u548 (fun _ _ h => h.elim))
       ·
        refine WC.weak [(0, .pointer (some ⟨pv, 0, none⟩)), (3, .pointer (some ⟨bk2, 0, none⟩)), (6, .bool (useT x))] ⟨rfl, rfl, rfl, trivial⟩ (c_drawn follows 36 [some (168, some (.bool (useT x))), some (169, some (.bool true)), some (170, some (.pointer (some ⟨pv, 0, none⟩))), some (171, some (.pointer (some ⟨pv, 0, none⟩))), some (172, some (.pointer (some ⟨pv, 2, none⟩))), some (173, some (.slice V.pa V.hl.length V.pc)), some (174, some (.pointer (some ⟨bk2, 4, none⟩))), some (175, some (.int .i64 x.to)), some (176, some (.pointer (some ⟨V.pg, 0 + (x.to).toNat * 1, none⟩))), some (177, some (.pointer (some ⟨(nth V.hl ((x.to).toNat)).p, 0, none⟩))), some (178, some (.pointer (some ⟨(nth V.hl ((x.to).toNat)).p, 0, none⟩))), some (179, some (.pointer (some ⟨(nth V.hl ((x.to).toNat)).p, 2, none⟩))), some (180, some (.slice ((nth V.hl ((x.to).toNat)).ao) ((nth V.hl ((x.to).toNat)).xs.length) ((nth V.hl ((x.to).toNat)).cp))), some (181, some (.int .i64 (sumT (((nth V.hl ((x.to).toNat)).xs).map HLay.v)))), some (182, some (.pointer (some ⟨bk2, 5, none⟩))), some (183, some (.int .i64 x.tons)), some (184, some (.int .i64 ((sumT (((nth V.hl ((x.to).toNat)).xs).map HLay.v)) + x.tons))), some (185, some (.pointer (some ⟨pv, 0, none⟩))), some (186, some (.pointer (some ⟨pv, 0, none⟩))), some (187, some (.pointer (some ⟨pv, 2, none⟩))), some (188, some (.slice V.pa V.hl.length V.pc)), some (189, some (.pointer (some ⟨bk2, 4, none⟩))), some (190, some (.int .i64 x.to)), some (191, some (.pointer (some ⟨V.pg, 0 + (x.to).toNat * 1, none⟩))), some (192, some (.pointer (some ⟨(nth V.hl ((x.to).toNat)).p, 0, none⟩))), some (193, some (.pointer (some ⟨(nth V.hl ((x.to).toNat)).p, 0, none⟩))), some (194, some (.pointer (some ⟨(nth V.hl ((x.to).toNat)).p, 0, none⟩))), some (195, some (.pointer (some ⟨(nth V.hl ((x.to).toNat)).p, 1, none⟩))), some (196, some (.int .i64 ((nth V.hl ((x.to).toNat)).cap))), some (197, some (.bool (decide ((nth V.hl ((x.to).toNat)).cap < ((sumT (((nth V.hl ((x.to).toNat)).xs).map HLay.v)) + x.tons))))), some (198, some (.bool (decide ((nth V.hl ((x.to).toNat)).cap < ((sumT (((nth V.hl ((x.to).toNat)).xs).map HLay.v)) + x.tons))))), some (199, some (.bool false)), some (200, some (undef)), some (201, some (undef)), some (202, some (undef)), some (203, some (.bool false))] [[],[0],[1],[2,1],[3,1],[4,1],[1],[6,1],[5,7,1],[8,1],[9,1],[10,1],[11,1],[12,1,1],[1],[14,1],[13,15,1],[1],[17,1],[18,1],[19,1],[1],[21,1],[20,22,1],[23,1],[24,1],[25,1],[26,1],[27,1],[16,28,1],[1,29],[30,13],[31],[32,31],[33,31],[31,34]] (fun _ _ w => Upd (fun _ => False) w413 w) rfl rfl rfl (by kernel_rfl) (by kernel_rfl) (Upd.drew _).to ⟨?_, ?_, ?_, ?_, ?_, ?_, ?_, ?_, ?_, ?_, ?_, ?_, ?_, ?_, ?_, ?_, ?_, ?_, ?_, ?_, ?_, ?_, ?_, ?_, ?_, ?_, ?_, ?_, ?_, ?_, ?_, ?_, ?_, ?_, ?_, ?_, trivial⟩ ?_)
        · exact pz rfl rfl rfl rfl fun _ _ _ h => h
        · exact fun D ρ w _ _ _ hW => ⟨[(168, .bool (useT x))], ⟨fi 0 rfl rfl rfl, trivial⟩, fun Lr => t_move rfl rfl rfl (t_samehd (v := .bool true) (by first | exact congrArg Value.bool (decide_eq_true g169) | exact congrArg Value.bool g169 | simp [g169]) (dz rfl hW))⟩
        · exact pz rfl rfl rfl rfl fun _ _ _ h => h
        · exact pz rfl rfl rfl rfl fun _ _ _ h => h
        · exact pzf Try.underlying118 rfl Try.sizeOf114 (2) rfl rfl rfl rfl rfl fun _ _ _ h => h
        ·
         intro D ρ w560 hcD hnD hdD hW
         have zhW := hW.size
         refine ⟨_, kf_fr [169, 172], fun Lr => ?_⟩
         have B563 := (B468.keep hW (fun h => h))
         refine t_load Try.isAgg114 rfl rfl rfl (B563.get rfl) ?_
         exact dz rfl hW
        · exact pzf Try.underlying41 rfl Try.sizeOf3 (4) rfl rfl rfl rfl rfl fun _ _ _ h => h
        ·
         intro D ρ w564 hcD hnD hdD hW
         have zhW := hW.size
         refine ⟨_, kf_fr [169, 174], fun Lr => ?_⟩
         have B567 := (B469.keep hW (fun h => h))
         refine t_load Try.isAgg3 rfl rfl rfl (B567.get rfl) ?_
         exact dz rfl hW
        ·
         intro D ρ w568 hcD hnD hdD hW
         have zhW := hW.size
         have E570 := E461.next hW (fun _ _ h => h.elim)
         refine ⟨_, kf_fr [169, 173, 175], fun Lr => ?_⟩
         have i571 : (x.to).toNat < V.hl.length := (by omega)
         refine t_index (j := (x.to).toNat) Try.underlying114 Try.sizeOf119 rfl rfl rfl rfl ((((hv.ext E570)).pacc.sl (fun _ => rfl)).addr (by omega)) (by omega) i571 ?_
         exact dz rfl hW
        ·
         intro D ρ w572 hcD hnD hdD hW
         have zhW := hW.size
         have E574 := E461.next hW (fun _ _ h => h.elim)
         refine ⟨_, kf_fr [169, 176], fun Lr => ?_⟩
         refine t_load Try.isAgg119 rfl rfl rfl (((((hv.ext E574)).pacc.sl (fun _ => rfl)).at_ ((x.to).toNat) (by omega)) 0 _ rfl) ?_
         exact dz rfl hW
        · exact pz rfl rfl rfl rfl fun _ _ _ h => h
        · exact pzf Try.underlying122 rfl Try.sizeOf120 (2) rfl rfl rfl rfl rfl fun _ _ _ h => h
        ·
         intro D ρ w575 hcD hnD hdD hW
         have zhW := hW.size
         refine ⟨_, kf_fr [169, 179], fun Lr => ?_⟩
         have B578 := ((htiB.keep E461 id).keep hW (fun h => h))
         refine t_load Try.isAgg120 rfl rfl rfl (B578.get rfl) ?_
         exact dz rfl hW
        ·
         intro D ρ w579 hcD hnD hdD hW
         have zhW := hW.size
         have E581 := E461.next hW (fun _ _ h => h.elim)
         refine ⟨_, kf_fr [169, 180], fun Lr => ?_⟩
         refine t_call (vs := [.slice ((nth V.hl ((x.to).toNat)).ao) ((nth V.hl ((x.to).toNat)).xs.length) ((nth V.hl ((x.to).toNat)).cp)]) own86 rfl rfl rfl rfl (tons_c ((nth V.hl ((x.to).toNat)).xs) ((nth V.hl ((x.to).toNat)).ao) (nth V.hl ((x.to).toNat)).g 0 ((nth V.hl ((x.to).toNat)).cp) _ ((((hv.ext E581)).hold (nth V.hl ((x.to).toNat)) (nth_mem (by omega))).lays.acc.sl (fun _ => rfl)) (hvo.few (nth_mem (by omega))).1 (hvo.few (nth_mem (by omega))).2.1) (fun v582 w583 r585 => ?_)
         obtain ⟨rfl, u584⟩ := r585
         have zu584 := u584.size
         exact dz rfl (hW.next u584 (fun _ _ h => h.elim))
        · exact pzf Try.underlying41 rfl Try.sizeOf3 (5) rfl rfl rfl rfl rfl fun _ _ _ h => h
        ·
         intro D ρ w587 hcD hnD hdD hW
         have zhW := hW.size
         refine ⟨_, kf_fr [169, 182], fun Lr => ?_⟩
         have B590 := (B469.keep hW (fun h => h))
         refine t_load Try.isAgg3 rfl rfl rfl (B590.get rfl) ?_
         exact dz rfl hW
        ·
         intro D ρ w591 hcD hnD hdD hW
         have zhW := hW.size
         refine ⟨_, kf_fr [169, 181, 183], fun Lr => ?_⟩
         refine t_ari rfl rfl rfl rfl rfl (by omega) ?_
         exact dz rfl hW
        · exact pz rfl rfl rfl rfl fun _ _ _ h => h
        · exact pz rfl rfl rfl rfl fun _ _ _ h => h
        · exact pzf Try.underlying118 rfl Try.sizeOf114 (2) rfl rfl rfl rfl rfl fun _ _ _ h => h
        ·
         intro D ρ w594 hcD hnD hdD hW
         have zhW := hW.size
         refine ⟨_, kf_fr [169, 187], fun Lr => ?_⟩
         have B597 := (B468.keep hW (fun h => h))
         refine t_load Try.isAgg114 rfl rfl rfl (B597.get rfl) ?_
         exact dz rfl hW
        · exact pzf Try.underlying41 rfl Try.sizeOf3 (4) rfl rfl rfl rfl rfl fun _ _ _ h => h
        ·
         intro D ρ w598 hcD hnD hdD hW
         have zhW := hW.size
         refine ⟨_, kf_fr [169, 189], fun Lr => ?_⟩
         have B601 := (B469.keep hW (fun h => h))
         refine t_load Try.isAgg3 rfl rfl rfl (B601.get rfl) ?_
         exact dz rfl hW
        ·
         intro D ρ w602 hcD hnD hdD hW
         have zhW := hW.size
         have E604 := E461.next hW (fun _ _ h => h.elim)
         refine ⟨_, kf_fr [169, 188, 190], fun Lr => ?_⟩
         have i605 : (x.to).toNat < V.hl.length := (by omega)
         refine t_index (j := (x.to).toNat) Try.underlying114 Try.sizeOf119 rfl rfl rfl rfl ((((hv.ext E604)).pacc.sl (fun _ => rfl)).addr (by omega)) (by omega) i605 ?_
         exact dz rfl hW
        ·
         intro D ρ w606 hcD hnD hdD hW
         have zhW := hW.size
         have E608 := E461.next hW (fun _ _ h => h.elim)
         refine ⟨_, kf_fr [169, 191], fun Lr => ?_⟩
         refine t_load Try.isAgg119 rfl rfl rfl (((((hv.ext E608)).pacc.sl (fun _ => rfl)).at_ ((x.to).toNat) (by omega)) 0 _ rfl) ?_
         exact dz rfl hW
        · exact pz rfl rfl rfl rfl fun _ _ _ h => h
        · exact pzf Try.underlying122 rfl Try.sizeOf90 (0) rfl rfl rfl rfl rfl fun _ _ _ h => h
        · exact pzf Try.underlying90 rfl Try.sizeOf3 (1) rfl rfl rfl rfl rfl fun _ _ _ h => h
        ·
         intro D ρ w609 hcD hnD hdD hW
         have zhW := hW.size
         refine ⟨_, kf_fr [169, 195], fun Lr => ?_⟩
         have B612 := ((htiB.keep E461 id).keep hW (fun h => h))
         refine t_load Try.isAgg3 rfl rfl rfl (B612.get rfl) ?_
         exact dz rfl hW
        · exact pz rfl rfl rfl rfl fun _ _ _ h => h
        · exact pz rfl rfl rfl rfl fun _ _ _ h => h
        · exact fun D ρ w _ _ _ hW => ⟨[(198, .bool (decide ((nth V.hl ((x.to).toNat)).cap < ((sumT (((nth V.hl ((x.to).toNat)).xs).map HLay.v)) + x.tons))))], ⟨fi 30 rfl rfl rfl, trivial⟩, fun Lr => t_move rfl rfl rfl (t_samehd (v := .bool false) (by first | exact congrArg Value.bool (decide_eq_false g199) | exact congrArg Value.bool g199 | simp [g199]) (dz rfl hW))⟩
        · exact pz rfl rfl rfl rfl fun _ _ _ h => h
        · exact pz rfl rfl rfl rfl fun _ _ _ h => h
        · exact pz rfl rfl rfl rfl fun _ _ _ h => h
        · exact pz rfl rfl rfl rfl fun _ _ _ h => h
        intro ρ w613 hW
        have u614 : Upd (fun _ => False) w413 w613 := hW
        have zu614 := u614.size
        refine QK.weak [(203, .bool false)] ⟨rfl, trivial⟩ ?_
        exact hK465 () _ _ ⟨(congrArg some (congrArg Value.bool (by first | (simp [c6, *]; done) | simp_all [c6]))), trivial⟩ ((Upd.refl _ _).next u614 (fun _ _ h => h.elim))
      ·
       refine WC.weak [(0, .pointer (some ⟨pv, 0, none⟩)), (3, .pointer (some ⟨bk2, 0, none⟩)), (6, .bool (useT x))] ⟨rfl, rfl, rfl, trivial⟩ (c_drawn follows 36 [some (168, some (.bool (useT x))), some (169, some (.bool false)), some (170, some (undef)), some (171, some (undef)), some (172, some (undef)), some (173, some (undef)), some (174, some (undef)), some (175, some (undef)), some (176, some (undef)), some (177, some (undef)), some (178, some (undef)), some (179, some (undef)), some (180, some (undef)), some (181, some (undef)), some (182, some (undef)), some (183, some (undef)), some (184, some (undef)), some (185, some (undef)), some (186, some (undef)), some (187, some (undef)), some (188, some (undef)), some (189, some (undef)), some (190, some (undef)), some (191, some (undef)), some (192, some (undef)), some (193, some (undef)), some (194, some (undef)), some (195, some (undef)), some (196, some (undef)), some (197, some (undef)), some (198, some (.bool false)), some (199, some (.bool false)), some (200, some (undef)), some (201, some (undef)), some (202, some (undef)), some (203, some (.bool false))] [[],[0],[1],[2,1],[3,1],[4,1],[1],[6,1],[5,7,1],[8,1],[9,1],[10,1],[11,1],[12,1,1],[1],[14,1],[13,15,1],[1],[17,1],[18,1],[19,1],[1],[21,1],[20,22,1],[23,1],[24,1],[25,1],[26,1],[27,1],[16,28,1],[1,29],[30,13],[31],[32,31],[33,31],[31,34]] (fun _ _ w => Upd (fun _ => False) w413 w) rfl rfl rfl (by kernel_rfl) (by kernel_rfl) (Upd.drew _).to ⟨?_, ?_, ?_, ?_, ?_, ?_, ?_, ?_, ?_, ?_, ?_, ?_, ?_, ?_, ?_, ?_, ?_, ?_, ?_, ?_, ?_, ?_, ?_, ?_, ?_, ?_, ?_, ?_, ?_, ?_, ?_, ?_, ?_, ?_, ?_, ?_, trivial⟩ ?_)
       · exact pz rfl rfl rfl rfl fun _ _ _ h => h
       · exact fun D ρ w _ _ _ hW => ⟨[(168, .bool (useT x))], ⟨fi 0 rfl rfl rfl, trivial⟩, fun Lr => t_move rfl rfl rfl (t_samehd (v := .bool false) (by first | exact congrArg Value.bool (decide_eq_false g169) | exact congrArg Value.bool g169 | simp [g169]) (dz rfl hW))⟩
       · exact pz rfl rfl rfl rfl fun _ _ _ h => h
       · exact pz rfl rfl rfl rfl fun _ _ _ h => h
       · exact pz rfl rfl rfl rfl fun _ _ _ h => h
       · exact pz rfl rfl rfl rfl fun _ _ _ h => h
       · exact pz rfl rfl rfl rfl fun _ _ _ h => h
       · exact pz rfl rfl rfl rfl fun _ _ _ h => h
       · exact pz rfl rfl rfl rfl fun _ _ _ h => h
       · exact pz rfl rfl rfl rfl fun _ _ _ h => h
       · exact pz rfl rfl rfl rfl fun _ _ _ h => h
       · exact pz rfl rfl rfl rfl fun _ _ _ h => h
       · exact pz rfl rfl rfl rfl fun _ _ _ h => h
       · exact pz rfl rfl rfl rfl fun _ _ _ h => h
       · exact pz rfl rfl rfl rfl fun _ _ _ h => h
       · exact pz rfl rfl rfl rfl fun _ _ _ h => h
       · exact pz rfl rfl rfl rfl fun _ _ _ h => h
       · exact pz rfl rfl rfl rfl fun _ _ _ h => h
       · exact pz rfl rfl rfl rfl fun _ _ _ h => h
       · exact pz rfl rfl rfl rfl fun _ _ _ h => h
       · exact pz rfl rfl rfl rfl fun _ _ _ h => h
       · exact pz rfl rfl rfl rfl fun _ _ _ h => h
       · exact pz rfl rfl rfl rfl fun _ _ _ h => h
       · exact pz rfl rfl rfl rfl fun _ _ _ h => h
       · exact pz rfl rfl rfl rfl fun _ _ _ h => h
       · exact pz rfl rfl rfl rfl fun _ _ _ h => h
       · exact pz rfl rfl rfl rfl fun _ _ _ h => h
       · exact pz rfl rfl rfl rfl fun _ _ _ h => h
       · exact pz rfl rfl rfl rfl fun _ _ _ h => h
       · exact pz rfl rfl rfl rfl fun _ _ _ h => h
       · exact pz rfl rfl rfl rfl fun _ _ _ h => h
       · exact pz rfl rfl rfl rfl fun _ _ _ h => h
       · exact pz rfl rfl rfl rfl fun _ _ _ h => h
       · exact pz rfl rfl rfl rfl fun _ _ _ h => h
       · exact pz rfl rfl rfl rfl fun _ _ _ h => h
       · exact pz rfl rfl rfl rfl fun _ _ _ h => h
       intro ρ w616 hW
       have u617 : Upd (fun _ => False) w413 w616 := hW
       have zu617 := u617.size
       refine QK.weak [(203, .bool false)] ⟨rfl, trivial⟩ ?_
       exact hK465 () _ _ ⟨(congrArg some (congrArg Value.bool (by first | (simp [c6, *]; done) | simp_all [c6]))), trivial⟩ ((Upd.refl _ _).next u617 (fun _ _ h => h.elim))
     ·
      intro _x w466 u467
      have zu467 := u467.size
      have E619 := E461.next u467 (fun _ _ h => h.elim)
      refine c_cond rfl (fun g203 => ?_) (fun g203 => ?_)
      ·
       refine c_seq fun K620 hK620 => (c_region (t_assign rfl rfl rfl (t_nil' (hK620 _ _ (c_ret (f_ret1 (v := .int .i64 8) Try.results73 rfl ?_))))))
       exact ⟨congrArg (Value.int .i64) (by unfold chkV; rw [if_neg hst1.1, if_neg (by rw [hst1.2.1]; simp), if_neg (by rw [hst1.2.2.1]; simp), if_neg (by rw [hst1.2.2.2]; simp), if_neg (by rw [hst2]; simp), if_neg (by simpa using g167), if_pos g203]), E619⟩
      ·
       refine c_skip (hK463 _ _ (c_seq fun K621 hK621 => (c_region (t_assign rfl rfl rfl (t_nil' (hK621 _ _ (c_ret (f_ret1 (v := .int .i64 0) Try.results73 rfl ?_))))))))
       exact ⟨congrArg (Value.int .i64) (by unfold chkV; rw [if_neg hst1.1, if_neg (by rw [hst1.2.1]; simp), if_neg (by rw [hst1.2.2.1]; simp), if_neg (by rw [hst1.2.2.2]; simp), if_neg (by rw [hst2]; simp), if_neg (by simpa using g167), if_neg (by simpa using g203)]), E619⟩

end Go.Proofs.Ytgkkgpenmppjcaa
