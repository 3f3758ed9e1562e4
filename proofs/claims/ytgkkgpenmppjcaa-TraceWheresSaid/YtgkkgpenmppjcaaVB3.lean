/-
  The reference's state; Cannot. Conditions: none.
-/
import Derived.Test.YtgkkgpenmppjcaaVB2
namespace Go.Proofs.Ytgkkgpenmppjcaa
open Go Go.RowKit

/-- The reference's state in memory. -/
structure RG where
  ha : Option Addr
  hg : Nat
  hc : Nat
  hl : List RowL
  sa : Option Addr
  sg : Nat
  sc : Nat
  sl : List Bool
  la : Option Addr
  lg : Nat
  lc : Nat
  ld : List LG
  da : Option Addr
  dg : Nat
  dc : Nat
  lo : List Int
  ea : Option Addr
  eg : Nat
  ec : Nat
  se : List Int
instance : Inhabited RG := ⟨⟨default, default, default, default, default, default, default, default, default, default, default, default, default, default, default, default, default, default, default, default⟩⟩
def RG.cells (R : RG) : List Value := [.slice R.ha R.hl.length R.hc, .slice R.sa R.sl.length R.sc, .slice R.la R.ld.length R.lc, .slice R.da R.lo.length R.dc, .slice R.ea R.se.length R.ec]
def RG.st (R : RG) : Stt := ⟨R.hl.map (fun r => r.xs.map HLay.v), R.sl, R.ld.map (fun l => ⟨l.ev, l.port, l.xs.map HLay.v⟩), R.lo, R.se⟩
def encBo (b : Bool) : List Value := [.bool b]
structure RM (w : World) (R : RG) : Prop where
  hold : Sl encRowL 1 w R.ha R.hg 0 R.hl
  lays : ∀ r ∈ R.hl, LaysR w r.ao r.g r.xs
  shut : Sl encBo 1 w R.sa R.sg 0 R.sl
  land : Sl encLG 3 w R.la R.lg 0 R.ld
  parts : ∀ x ∈ R.ld, LaysR w x.ao x.g x.xs
  load : Sl encI 1 w R.da R.dg 0 R.lo
  seals : Sl encI 1 w R.ea R.eg 0 R.se
theorem RM.ext {w w' : World} {R : RG} (h : RM w R) (u : Ext w w') : RM w' R :=
  ⟨h.hold.keep u (fun _ h => h), fun r hr => (h.lays r hr).keep u (fun _ _ h => h), h.shut.keep u (fun _ h => h), h.land.keep u (fun _ h => h), fun x hx => (h.parts x hx).keep u (fun _ _ h => h), h.load.keep u (fun _ h => h), h.seals.keep u (fun _ h => h)⟩
theorem row_few {bs : List Bil} {caps : List Int} {n : Nat} {R : RG} (h : StOk bs caps n R.st) {i : Nat} (hi : i < R.hl.length) : (nth R.hl i).xs.length ≤ 1000000 ∧ (∀ x ∈ (nth R.hl i).xs, 0 ≤ x.v.tons ∧ x.v.tons ≤ 1000000) ∧ (0 ≤ sumT ((nth R.hl i).xs.map HLay.v) ∧ sumT ((nth R.hl i).xs.map HLay.v) ≤ 1000000) ∧ (0 ≤ nth caps i ∧ nth caps i ≤ 1000000) := by
  have hn := h.hn
  have e : R.st.hold.length = R.hl.length := List.length_map _
  have h1 := h.cap i (by omega)
  have h2 : nth R.st.hold i = (nth R.hl i).xs.map HLay.v := nth_map (fun r : RowL => r.xs.map HLay.v) hi
  rw [h2] at h1
  have h3 : ∀ x ∈ (nth R.hl i).xs, LayOk n x.v := fun x hx => h.tons _ (List.mem_map.2 ⟨_, nth_mem hi, rfl⟩) _ (List.mem_map.2 ⟨x, hx, rfl⟩)
  have h4 : (((nth R.hl i).xs.map HLay.v).length : Int) ≤ sumT ((nth R.hl i).xs.map HLay.v) := sumT_len (fun y hy => by obtain ⟨x, hx, rfl⟩ := List.mem_map.1 hy; exact (h3 x hx).1)
  rw [List.length_map] at h4
  exact ⟨by omega, fun x hx => by have := h3 x hx; exact ⟨by have := this.1; omega, this.2.1⟩, by omega, h1.1⟩
theorem row_nn {bs : List Bil} {caps : List Int} {n : Nat} {R : RG} (h : StOk bs caps n R.st) (i : Nat) : 0 ≤ sumT (nth R.st.hold i) := by
  rcases Nat.lt_or_ge i R.hl.length with hi | hi
  · rw [show nth R.st.hold i = (nth R.hl i).xs.map HLay.v from nth_map (fun r : RowL => r.xs.map HLay.v) hi]
    exact (row_few h hi).2.2.1.1
  · rw [nth_oor (xs := R.st.hold) (by rw [show R.st.hold.length = R.hl.length from List.length_map _]; exact hi)]; exact Int.le_refl 0
/-- Layers whose blocks are all of some kind. -/
def LB (T : Nat → Prop) (g : Nat) (xs : List HLay) : Prop := (0 < xs.length → T g) ∧ ∀ x ∈ xs, 0 < x.v.path.length → T x.b
/-- A state whose blocks are all of some kind. -/
structure RB (T : Nat → Prop) (R : RG) : Prop where
  hold : 0 < R.hl.length → T R.hg
  lays : ∀ r ∈ R.hl, LB T r.g r.xs
  shut : 0 < R.sl.length → T R.sg
  land : 0 < R.ld.length → T R.lg
  parts : ∀ q ∈ R.ld, LB T q.g q.xs
  load : 0 < R.lo.length → T R.dg
  seals : 0 < R.se.length → T R.eg
theorem LB.mono {T T' : Nat → Prop} {g : Nat} {xs : List HLay} (h : LB T g xs) (m : ∀ k, T k → T' k) : LB T' g xs := ⟨fun p => m _ (h.1 p), fun x hx p => m _ (h.2 x hx p)⟩
theorem RB.mono {T T' : Nat → Prop} {R : RG} (h : RB T R) (m : ∀ k, T k → T' k) : RB T' R :=
  ⟨fun p => m _ (h.hold p), fun r hr => (h.lays r hr).mono m, fun p => m _ (h.shut p), fun p => m _ (h.land p), fun q hq => (h.parts q hq).mono m, fun p => m _ (h.load p), fun p => m _ (h.seals p)⟩
theorem LaysR.below {w : World} {ao : Option Addr} {g : Nat} {xs : List HLay} (h : LaysR w ao g xs) : LB (· < w.heap.size) g xs := ⟨fun p => h.1.lt p, fun x hx p => (h.2 x hx).lt p⟩
theorem RM.below {w : World} {R : RG} (h : RM w R) : RB (· < w.heap.size) R :=
  ⟨fun p => h.hold.lt p, fun r hr => (h.lays r hr).below, fun p => h.shut.lt p, fun p => h.land.lt p, fun q hq => (h.parts q hq).below, fun p => h.load.lt p, fun p => h.seals.lt p⟩
theorem LaysR.keepB {w w' : World} {S : Nat → Prop} {ao : Option Addr} {g : Nat} {xs : List HLay} (h : LaysR w ao g xs) (b : LB (fun k => ¬ S k) g xs) (u : Upd S w w') : LaysR w' ao g xs := ⟨h.1.keep u b.1, fun x hx => (h.2 x hx).keep u (b.2 x hx)⟩
theorem RM.keepB {w w' : World} {S : Nat → Prop} {R : RG} (h : RM w R) (b : RB (fun k => ¬ S k) R) (u : Upd S w w') : RM w' R :=
  ⟨h.hold.keep u b.hold, fun r hr => (h.lays r hr).keepB (b.lays r hr) u, h.shut.keep u b.shut, h.land.keep u b.land, fun q hq => (h.parts q hq).keepB (b.parts q hq) u, h.load.keep u b.load, h.seals.keep u b.seals⟩
theorem all_set {α : Type} {P : α → Prop} {l : List α} {i : Nat} {r : α} (h : ∀ q ∈ l, P q) (hr : P r) : ∀ q ∈ l.set i r, P q := fun q hq => by
  rcases List.mem_or_eq_of_mem_set hq with hq | hq
  · exact h q hq
  · subst hq; exact hr
theorem all_snoc {α : Type} {P : α → Prop} {l : List α} {r : α} (h : ∀ q ∈ l, P q) (hr : P r) : ∀ q ∈ l ++ [r], P q := fun q hq => by
  rcases List.mem_append.1 hq with hq | hq
  · exact h q hq
  · have : q = r := by simpa using hq
    subst this; exact hr
theorem LB.app {T : Nat → Prop} {g g3 : Nat} {xs ys : List HLay} (h : LB T g xs) (h2 : ∀ y ∈ ys, 0 < y.v.path.length → T y.b) (hg : 0 < (xs ++ ys).length → T g3) : LB T g3 (xs ++ ys) := ⟨hg, fun x hx p => by
  rcases List.mem_append.1 hx with hx | hx
  · exact h.2 x hx p
  · exact h2 x hx p⟩
theorem FromL.lb {T : Nat → Prop} {g g3 : Nat} {xs ys : List HLay} (h : FromL xs ys) (hl : LB T g xs) (hg : 0 < ys.length → T g3) : LB T g3 ys := ⟨hg, fun y hy p => by
  obtain ⟨x, hx, _, e2, e3⟩ := h y hy
  rw [e2]
  exact hl.2 x hx (by rw [← e3]; exact p)⟩
theorem okBil_rng {b : Bil} (h : okBil b = true) : 1 ≤ b.tons ∧ b.tons ≤ 1000000 := by
  simp only [okBil, decide_eq_true_eq] at h; exact h.1
theorem not_mem_all {l : List Int} {k : Nat} {y : Int} (hk : l.length ≤ k) (h : ∀ j, j < k → j < l.length → nth l j ≠ y) : y ∉ l := fun hm => by
  obtain ⟨j, hj, rfl⟩ := List.mem_iff_getElem.1 hm
  exact h j (by omega) hj (nth_eq hj)
theorem chk1 {bs : List Bil} {caps : List Int} {S : Stt} {mi : Int} {x : Ev} (hk : x.kind = 1) (ht : 0 < x.tons) : chkP bs caps S mi x =
    if x.minute < mi then 9 else if (bs.length : Int) ≤ x.bill then 7 else if (caps.length : Int) ≤ x.to then 7 else if nth S.sealed (x.to).toNat = true then 9 else if x.port ≠ (nth bs (x.bill).toNat).frm then 9 else if (nth bs (x.bill).toNat).tons < nth S.loaded (x.bill).toNat + x.tons then 6 else if nth caps (x.to).toNat < sumT (nth S.hold (x.to).toNat) + x.tons then 8 else 0 := by
  have e1 : useF x = false := by simp [useF, hk]
  have e2 : useT x = true := by simp [useT, hk]
  unfold chkP c2P c3 c4P chkKP c5P c6P
  simp only [e1, e2, hk, Bool.false_and, Bool.true_and, Bool.false_or, Bool.or_false, Bool.false_eq_true, if_false, decide_true, decide_eq_true_eq, Bool.or_eq_true, Bool.and_eq_true, if_true, ht, and_true]
  repeat' split
  all_goals first | rfl | omega | simp_all
theorem chk2 {bs : List Bil} {caps : List Int} {S : Stt} {mi : Int} {x : Ev} (hk : x.kind = 2) (ht : 0 < x.tons) : chkP bs caps S mi x =
    if x.minute < mi then 9 else if (caps.length : Int) ≤ x.frm then 7 else if (caps.length : Int) ≤ x.to then 7 else if x.frm = x.to then 6 else if nth S.sealed (x.frm).toNat = true then 9 else if nth S.sealed (x.to).toNat = true then 9 else if sumT (nth S.hold (x.frm).toNat) < x.tons then 3 else if nth caps (x.to).toNat < sumT (nth S.hold (x.to).toNat) + x.tons then 8 else 0 := by
  have e1 : useF x = true := by simp [useF, hk]
  have e2 : useT x = true := by simp [useT, hk]
  unfold chkP c2P c3 c4P chkKP c5P c6P
  simp only [e1, e2, hk, Bool.true_and, Bool.or_false, decide_eq_true_eq, Bool.or_eq_true, Bool.and_eq_true, ht, and_true, show ¬ ((2 : Int) = 1) by decide, show ¬ ((2 : Int) = 4) by decide, show ¬ ((2 : Int) = 5) by decide, decide_false, false_and, if_false, Bool.bne_false, Bool.false_and, ne_eq, not_true_eq_false]
  repeat' split
  all_goals first | rfl | omega | simp_all
theorem chk3 {bs : List Bil} {caps : List Int} {S : Stt} {mi : Int} {x : Ev} (hk : x.kind = 3) : chkP bs caps S mi x =
    if x.minute < mi then 9 else if (caps.length : Int) ≤ x.frm then 7 else if nth S.sealed (x.frm).toNat = true then 9 else if sumT (nth S.hold (x.frm).toNat) < x.tons then 3 else 0 := by
  have e1 : useF x = true := by simp [useF, hk]
  have e2 : useT x = false := by simp [useT, hk]
  unfold chkP c2P c3 c4P chkKP c5P c6P
  simp only [e1, e2, hk, Bool.true_and, Bool.false_and, Bool.and_false, Bool.or_false, decide_eq_true_eq, Bool.or_eq_true, Bool.and_eq_true, show ¬ ((3 : Int) = 1) by decide, show ¬ ((3 : Int) = 4) by decide, show ¬ ((3 : Int) = 5) by decide, decide_false, false_and, if_false, Bool.bne_false, ne_eq, not_true_eq_false, Bool.false_eq_true]
  repeat' split
  all_goals first | rfl | omega | simp_all
theorem chk4 {bs : List Bil} {caps : List Int} {S : Stt} {mi : Int} {x : Ev} (hk : x.kind = 4) (ht : x.tons = 0) : chkP bs caps S mi x =
    if x.minute < mi then 9 else if (caps.length : Int) ≤ x.to then 7 else if nth S.sealed (x.to).toNat = true then 9 else if x.sn ∈ S.seals then 6 else 0 := by
  have e1 : useF x = false := by simp [useF, hk]
  have e2 : useT x = true := by simp [useT, hk]
  unfold chkP c2P c3 c4P chkKP c5P c6P
  simp only [e1, e2, hk, ht, Bool.true_and, Bool.false_and, Bool.and_false, Bool.or_false, Bool.false_or, decide_eq_true_eq, Bool.or_eq_true, Bool.and_eq_true, show ¬ ((4 : Int) = 1) by decide, show ¬ ((4 : Int) = 5) by decide, decide_false, false_and, true_and, if_false, ne_eq, not_true_eq_false, Bool.false_eq_true, show ¬ ((0 : Int) < 0) by decide, and_false]
  repeat' split
  all_goals first | rfl | omega | simp_all
theorem chk5 {bs : List Bil} {caps : List Int} {S : Stt} {mi : Int} {x : Ev} (hk : x.kind = 5) (ht : x.tons = 0) (hs : 0 ≤ sumT (nth S.hold (x.frm).toNat)) : chkP bs caps S mi x =
    if x.minute < mi then 9 else if (caps.length : Int) ≤ x.frm then 7 else if nth S.sealed (x.frm).toNat = true then 0 else 9 := by
  have e1 : useF x = true := by simp [useF, hk]
  have e2 : useT x = false := by simp [useT, hk]
  unfold chkP c2P c3 c4P chkKP c5P c6P
  simp only [e1, e2, hk, ht, Bool.true_and, Bool.false_and, Bool.and_false, Bool.or_false, Bool.false_or, decide_eq_true_eq, Bool.or_eq_true, Bool.and_eq_true, show ¬ ((5 : Int) = 1) by decide, show ¬ ((5 : Int) = 4) by decide, decide_false, decide_true, Bool.bne_true, Bool.not_eq_true', false_and, if_false, ne_eq, not_true_eq_false, Bool.false_eq_true]
  repeat' split
  all_goals first | rfl | omega | simp_all
theorem own49 : Own Try.prog 49 := ⟨Try.f49, Try.func49, by kernel_rfl, by kernel_rfl⟩

set_option maxHeartbeats 4000000 in
theorem Cannot1_c (bs : List Bil) (ab : Option Addr) (bb ob cb : Nat) (hs : List Hld) (ah : Option Addr) (bh oh ch : Nat) (mi : Int) (R : RG) (n : Nat) (x : Ev) (w0 : World) (hbs : Sl encBil 3 w0 ab bb ob bs) (hhs : Sl encHld 2 w0 ah bh oh hs) (hbl : bs.length ≤ 1000000) (hhl : hs.length ≤ 1000000) (hR : RM w0 R) (hst : StOk bs (hs.map Hld.cap) n R.st) (hx : okEv x = true) (hse : R.se.length ≤ 1000000) (hmi : 0 ≤ mi ∧ mi ≤ 1000000) (hk : x.kind = 1) :
    CallsV Try.prog 49 [.agg #[.slice ab bs.length cb, .slice ah hs.length ch], .agg #[.slice R.ha R.hl.length R.hc, .slice R.sa R.sl.length R.sc, .slice R.la R.ld.length R.lc, .slice R.da R.lo.length R.dc, .slice R.ea R.se.length R.ec], .agg #[.int .i64 1, .int .i64 x.minute, .int .i64 x.bill, .int .i64 x.frm, .int .i64 x.to, .int .i64 x.tons, .int .i64 x.port, .int .i64 x.sn], .int .i64 mi] w0 (fun v w' => v = .int .i64 (chkP bs (hs.map Hld.cap) R.st mi x) ∧ Ext w0 w') := by
 have hr := okEv_rng hx
 have hn1 : R.hl.length = (hs.map Hld.cap).length := by have h := hst.hn; rwa [show R.st.hold.length = R.hl.length from List.length_map _] at h
 have hn2 : R.sl.length = (hs.map Hld.cap).length := hst.sn
 have hn3 : R.lo.length = bs.length := hst.lsn
 have hn4 := hst.bn
 have hn5 := hst.h20
 rw [List.length_map] at hn1 hn2 hn5
 refine f_enter (N := 221) Try.func49 rfl rfl rfl (c_seq fun K1 hK1 => (c_region (t_box (cs := [.slice ab bs.length cb, .slice ah hs.length ch]) rfl rfl rfl rfl (fun bk2 w3 ebk2 sbk2 B4 u5 => ?_))))
 have zu5 := u5.size
 refine t_box (cs := [.slice R.ha R.hl.length R.hc, .slice R.sa R.sl.length R.sc, .slice R.la R.ld.length R.lc, .slice R.da R.lo.length R.dc, .slice R.ea R.se.length R.ec]) rfl rfl rfl rfl (fun bk7 w8 ebk7 sbk7 B9 u10 => ?_)
 have zu10 := u10.size
 refine t_box (cs := [.int .i64 1, .int .i64 x.minute, .int .i64 x.bill, .int .i64 x.frm, .int .i64 x.to, .int .i64 x.tons, .int .i64 x.port, .int .i64 x.sn]) rfl rfl rfl rfl (fun bk12 w13 ebk12 sbk12 B14 u15 => ?_)
 have zu15 := u15.size
 refine t_assign rfl rfl rfl (t_nil' (hK1 _ _ (c_seq fun K17 hK17 => (c_region (t_field Try.underlying25 rfl Try.sizeOf23 (1) rfl rfl rfl rfl ?_)))))
 have B18 := ((B4.kx u10).kx u15)
 refine t_load Try.isAgg23 rfl rfl rfl (B18.get rfl) (t_len Try.underlying23 rfl rfl rfl rfl (t_assign rfl rfl rfl (t_nil' (hK17 _ _ (c_seq fun K19 hK19 => (c_drawnQ follows (by kernel_rfl) (p_field Try.underlying41 rfl Try.sizeOf39 (0) rfl rfl rfl rfl (p_load Try.isAgg39 rfl rfl rfl (B14.get rfl) (p_cmp rfl rfl rfl rfl rfl (p_samehd (v := .bool false) rfl (p_move rfl rfl rfl (p_field Try.underlying41 rfl Try.sizeOf39 (0) rfl rfl rfl rfl (p_load Try.isAgg39 rfl rfl rfl (B14.get rfl) (p_cmp rfl rfl rfl rfl rfl (p_samehd (v := .bool false) rfl (p_pick_f rfl rfl rfl rfl (p_move rfl rfl rfl (p_field Try.underlying41 rfl Try.sizeOf39 (0) rfl rfl rfl rfl (p_load Try.isAgg39 rfl rfl rfl (B14.get rfl) (p_cmp rfl rfl rfl rfl rfl (p_samehd (v := .bool false) rfl (p_pick_f rfl rfl rfl rfl (p_field Try.underlying41 rfl Try.sizeOf39 (0) rfl rfl rfl rfl ?_)))))))))))))))))))))))
 refine p_load Try.isAgg39 rfl rfl rfl (B14.get rfl) (p_cmp rfl rfl rfl rfl rfl (p_samehd (v := .bool true) rfl (p_move rfl rfl rfl (p_skip rfl rfl rfl (p_skip rfl rfl rfl (p_skip rfl rfl rfl (p_pick_t rfl rfl rfl rfl (p_move rfl rfl rfl (p_skip rfl rfl rfl (p_skip rfl rfl rfl (p_skip rfl rfl rfl (p_pick_t rfl rfl rfl rfl (p_assign rfl rfl rfl (p_assign rfl rfl rfl (p_nil fun w20 u21 => ?_)))))))))))))))
 have zu21 := u21.size
 have E22 := ((((Upd.refl (fun _ => False) w0).nx u5).nx u10).nx u15).nx u21
 refine t_nil' (hK19 _ _ (c_seq fun K23 hK23 => (c_region (t_field Try.underlying41 rfl Try.sizeOf39 (0) rfl rfl rfl rfl ?_))))
 have B24 := (B14.kx u21)
 refine t_load Try.isAgg39 rfl rfl rfl (B24.get rfl) (t_cmp rfl rfl rfl rfl rfl (t_samehd (v := .bool true) rfl (t_assign rfl rfl rfl (t_nil' (hK23 _ _ (c_seq fun K25 hK25 => (c_block (c_seq fun K26 hK26 => (c_region (t_field Try.underlying41 rfl Try.sizeOf3 (1) rfl rfl rfl rfl (t_load Try.isAgg3 rfl rfl rfl (B24.get rfl) (t_move rfl rfl rfl (t_cmp rfl rfl rfl rfl rfl (t_assign rfl rfl rfl (t_nil' (hK26 _ _ (c_condp rfl (fun g46 => ?_) (fun g46 => ?_))))))))))))))))))
 ·
  refine c_seq fun K27 hK27 => (c_region (t_assign rfl rfl rfl (t_nil' (hK27 _ _ (c_ret (f_ret1 (v := .int .i64 9) Try.results49 rfl ?_))))))
  have hH : ∀ i, i < R.hl.length → nth R.st.hold i = (nth R.hl i).xs.map HLay.v := fun i hi => nth_map (fun r : RowL => r.xs.map HLay.v) hi
  have hC : ∀ i, i < hs.length → nth (hs.map Hld.cap) i = (nth hs i).cap := fun i hi => nth_map Hld.cap hi
  have hv9 : chkP bs (hs.map Hld.cap) R.st mi x = 9 := by
    rw [chk1 hk (by omega),
      if_pos (show x.minute < mi by omega)]
  exact ⟨congrArg (Value.int .i64) hv9.symm, E22⟩
 refine c_seq fun K28 hK28 => (c_seq fun K29 hK29 => (c_region (t_field Try.underlying41 rfl Try.sizeOf39 (0) rfl rfl rfl rfl (t_load Try.isAgg39 rfl rfl rfl (B24.get rfl) (t_cmp rfl rfl rfl rfl rfl (t_samehd (v := .bool true) rfl (t_move rfl rfl rfl (t_field Try.underlying41 rfl Try.sizeOf3 (2) rfl rfl rfl rfl (t_load Try.isAgg3 rfl rfl rfl (B24.get rfl) (t_field Try.underlying25 rfl Try.sizeOf22 (0) rfl rfl rfl rfl ?_))))))))))
 have B30 := (B18.kx u21)
 refine t_load Try.isAgg22 rfl rfl rfl (B30.get rfl) (t_len Try.underlying22 rfl rfl rfl rfl (t_cmp rfl rfl rfl rfl rfl (t_pick_t rfl rfl rfl rfl (t_assign rfl rfl rfl (t_nil' (hK29 _ _ (c_condp rfl (fun g51 => ?_) (fun g51 => ?_))))))))
 ·
  refine c_same 51 (v := .bool true) rfl (congrArg Value.bool (decide_eq_true g51)) (c_skip (hK28 _ _ (c_cond_t rfl (c_seq fun K31 hK31 => (c_region (t_assign rfl rfl rfl (t_nil' (hK31 _ _ (c_ret (f_ret1 (v := .int .i64 7) Try.results49 rfl ?_))))))))))
  have hH : ∀ i, i < R.hl.length → nth R.st.hold i = (nth R.hl i).xs.map HLay.v := fun i hi => nth_map (fun r : RowL => r.xs.map HLay.v) hi
  have hC : ∀ i, i < hs.length → nth (hs.map Hld.cap) i = (nth hs i).cap := fun i hi => nth_map Hld.cap hi
  have hv9 : chkP bs (hs.map Hld.cap) R.st mi x = 7 := by
    rw [chk1 hk (by omega),
      if_neg (show ¬ (x.minute < mi) by omega),
      if_pos (show (bs.length : Int) ≤ x.bill by omega)]
  exact ⟨congrArg (Value.int .i64) hv9.symm, E22⟩
 refine c_seq fun K32 hK32 => (c_region (t_move rfl rfl rfl (t_move rfl rfl rfl (t_skip rfl rfl rfl (t_skip rfl rfl rfl (t_skip rfl rfl rfl (t_skip rfl rfl rfl (t_pick_f rfl rfl rfl rfl (t_assign rfl rfl rfl (t_nil' (hK32 _ _ (c_cond_f rfl (c_region (t_move rfl rfl rfl (t_move rfl rfl rfl (t_field Try.underlying41 rfl Try.sizeOf3 (4) rfl rfl rfl rfl (t_load Try.isAgg3 rfl rfl rfl (B24.get rfl) (t_move rfl rfl rfl (t_cmp rfl rfl rfl rfl rfl (t_pick_t rfl rfl rfl rfl (t_assign rfl rfl rfl (t_nil' (hK28 _ _ ?_)))))))))))))))))))))))
 refine c_condp rfl (fun g51 => ?_) (fun g51 => ?_)
 ·
  refine c_same 51 (v := .bool true) rfl (congrArg Value.bool (decide_eq_true g51)) (c_seq fun K33 hK33 => (c_region (t_assign rfl rfl rfl (t_nil' (hK33 _ _ (c_ret (f_ret1 (v := .int .i64 7) Try.results49 rfl ?_)))))))
  have hH : ∀ i, i < R.hl.length → nth R.st.hold i = (nth R.hl i).xs.map HLay.v := fun i hi => nth_map (fun r : RowL => r.xs.map HLay.v) hi
  have hC : ∀ i, i < hs.length → nth (hs.map Hld.cap) i = (nth hs i).cap := fun i hi => nth_map Hld.cap hi
  have hv9 : chkP bs (hs.map Hld.cap) R.st mi x = 7 := by
    rw [chk1 hk (by omega),
      if_neg (show ¬ (x.minute < mi) by omega),
      if_neg (show ¬ ((bs.length : Int) ≤ x.bill) by omega),
      if_pos (show ((hs.map Hld.cap).length : Int) ≤ x.to by rw [List.length_map]; omega)]
  exact ⟨congrArg (Value.int .i64) hv9.symm, E22⟩
 refine c_seq fun K34 hK34 => (c_region (t_field Try.underlying41 rfl Try.sizeOf39 (0) rfl rfl rfl rfl (t_load Try.isAgg39 rfl rfl rfl (B24.get rfl) (t_cmp rfl rfl rfl rfl rfl (t_samehd (v := .bool false) rfl (t_move rfl rfl rfl (t_skip rfl rfl rfl (t_skip rfl rfl rfl (t_skip rfl rfl rfl (t_skip rfl rfl rfl (t_skip rfl rfl rfl (t_pick_f rfl rfl rfl rfl (t_assign rfl rfl rfl (t_nil' (hK34 _ _ (c_cond_f rfl (c_seq fun K35 hK35 => (c_seq fun K36 hK36 => (c_region (t_move rfl rfl rfl (t_move rfl rfl rfl (t_move rfl rfl rfl (t_pick_t rfl rfl rfl rfl ?_)))))))))))))))))))))))
 refine t_move rfl rfl rfl (t_skip rfl rfl rfl (t_skip rfl rfl rfl (t_skip rfl rfl rfl (t_skip rfl rfl rfl (t_skip rfl rfl rfl (t_skip rfl rfl rfl (t_pick_f rfl rfl rfl rfl (t_assign rfl rfl rfl (t_nil' (hK36 _ _ (c_cond_f rfl (c_seq fun K37 hK37 => (c_region (t_move rfl rfl rfl (t_move rfl rfl rfl (t_field Try.underlying47 rfl Try.sizeOf43 (1) rfl rfl rfl rfl ?_))))))))))))))))
 have B38 := ((B9.kx u15).kx u21)
 refine t_load Try.isAgg43 rfl rfl rfl (B38.get rfl) (t_field Try.underlying41 rfl Try.sizeOf3 (4) rfl rfl rfl rfl (t_load Try.isAgg3 rfl rfl rfl (B24.get rfl) ?_))
 have i39 : (x.to).toNat < R.sl.length := (by omega)
 refine t_index (j := (x.to).toNat) Try.underlying43 Try.sizeOf4 rfl rfl rfl rfl ((hR.shut.keep E22 (fun _ h => h)).addr (by omega)) (by omega) i39 (t_load Try.isAgg4 rfl rfl rfl (((hR.shut.keep E22 (fun _ h => h)).at_ ((x.to).toNat) (by omega)) 0 _ rfl) (t_pick_t rfl rfl rfl rfl (t_assign rfl rfl rfl (t_nil' (hK37 _ _ (c_cond rfl (fun g88 => ?_) (fun g88 => ?_)))))))
 ·
  refine c_same 88 (v := .bool true) rfl (congrArg Value.bool g88) (c_skip (hK35 _ _ (c_cond_t rfl (c_seq fun K40 hK40 => (c_region (t_assign rfl rfl rfl (t_nil' (hK40 _ _ (c_ret (f_ret1 (v := .int .i64 9) Try.results49 rfl ?_))))))))))
  have hH : ∀ i, i < R.hl.length → nth R.st.hold i = (nth R.hl i).xs.map HLay.v := fun i hi => nth_map (fun r : RowL => r.xs.map HLay.v) hi
  have hC : ∀ i, i < hs.length → nth (hs.map Hld.cap) i = (nth hs i).cap := fun i hi => nth_map Hld.cap hi
  have hv9 : chkP bs (hs.map Hld.cap) R.st mi x = 9 := by
    rw [chk1 hk (by omega),
      if_neg (show ¬ (x.minute < mi) by omega),
      if_neg (show ¬ ((bs.length : Int) ≤ x.bill) by omega),
      if_neg (show ¬ (((hs.map Hld.cap).length : Int) ≤ x.to) by rw [List.length_map]; omega),
      if_pos (show nth R.st.sealed (x.to).toNat = true by show nth R.sl (x.to).toNat = true; assumption)]
  exact ⟨congrArg (Value.int .i64) hv9.symm, E22⟩
 refine c_region (t_field Try.underlying41 rfl Try.sizeOf39 (0) rfl rfl rfl rfl (t_load Try.isAgg39 rfl rfl rfl (B24.get rfl) (t_cmp rfl rfl rfl rfl rfl (t_samehd (v := .bool false) rfl (t_move rfl rfl rfl (t_skip rfl rfl rfl (t_skip rfl rfl rfl (t_skip rfl rfl rfl (t_skip rfl rfl rfl (t_skip rfl rfl rfl (t_skip rfl rfl rfl (t_skip rfl rfl rfl (t_pick_f rfl rfl rfl rfl (t_assign rfl rfl rfl (t_nil' (hK35 _ _ (c_cond_f rfl (c_seq fun K41 hK41 => (c_drawnQ follows (by kernel_rfl) (p_field Try.underlying41 rfl Try.sizeOf39 (0) rfl rfl rfl rfl (p_load Try.isAgg39 rfl rfl rfl (B24.get rfl) (p_cmp rfl rfl rfl rfl rfl (p_samehd (v := .bool true) rfl ?_)))))))))))))))))))))))
 refine p_move rfl rfl rfl (p_field Try.underlying41 rfl Try.sizeOf3 (6) rfl rfl rfl rfl (p_load Try.isAgg3 rfl rfl rfl (B24.get rfl) (p_field Try.underlying25 rfl Try.sizeOf22 (0) rfl rfl rfl rfl (p_load Try.isAgg22 rfl rfl rfl (B30.get rfl) (p_field Try.underlying41 rfl Try.sizeOf3 (2) rfl rfl rfl rfl (p_load Try.isAgg3 rfl rfl rfl (B24.get rfl) ?_))))))
 have i43 : (x.bill).toNat < bs.length := (by omega)
 refine p_index (j := (x.bill).toNat) Try.underlying22 Try.sizeOf93 rfl rfl rfl rfl ((hbs.keep E22 (fun _ h => h)).addr (by omega)) (by omega) i43 (p_field Try.underlying93 rfl Try.sizeOf3 (ob + (x.bill).toNat * 3 + 1) rfl rfl rfl rfl (p_load Try.isAgg3 rfl rfl rfl (((hbs.keep E22 (fun _ h => h)).at_ ((x.bill).toNat) (by omega)) 1 _ rfl) (p_cmp rfl rfl rfl rfl rfl (p_pick_t rfl rfl rfl rfl (p_assign rfl rfl rfl (p_nil fun w44 u45 => ?_))))))
 have zu45 := u45.size
 have E46 := E22.nx u45
 refine t_nil' (hK41 _ _ (c_condp rfl (fun g122 => ?_) (fun g122 => ?_)))
 ·
  refine c_seq fun K47 hK47 => (c_region (t_assign rfl rfl rfl (t_nil' (hK47 _ _ (c_ret (f_ret1 (v := .int .i64 9) Try.results49 rfl ?_))))))
  have hH : ∀ i, i < R.hl.length → nth R.st.hold i = (nth R.hl i).xs.map HLay.v := fun i hi => nth_map (fun r : RowL => r.xs.map HLay.v) hi
  have hC : ∀ i, i < hs.length → nth (hs.map Hld.cap) i = (nth hs i).cap := fun i hi => nth_map Hld.cap hi
  have hv9 : chkP bs (hs.map Hld.cap) R.st mi x = 9 := by
    rw [chk1 hk (by omega),
      if_neg (show ¬ (x.minute < mi) by omega),
      if_neg (show ¬ ((bs.length : Int) ≤ x.bill) by omega),
      if_neg (show ¬ (((hs.map Hld.cap).length : Int) ≤ x.to) by rw [List.length_map]; omega),
      if_neg (show ¬ (nth R.st.sealed (x.to).toNat = true) by show ¬ (nth R.sl (x.to).toNat = true); intro h; have e : nth R.sl (x.to).toNat = false := (by assumption); rw [show _ = false from e] at h; cases h),
      if_pos (show x.port ≠ (nth bs (x.bill).toNat).frm by omega)]
  exact ⟨congrArg (Value.int .i64) hv9.symm, E46⟩
 refine c_seq fun K48 hK48 => ?_
 have hbl9 := hst.lsr (x.bill).toNat (by show (x.bill).toNat < R.lo.length; omega)
 rw [show R.st.loaded = R.lo from rfl] at hbl9
 have hbk9 := okBil_rng (hst.bil _ (nth_mem (xs := bs) (i := (x.bill).toNat) (by omega)))
 refine c_drawnQ follows (by kernel_rfl) (p_field Try.underlying41 rfl Try.sizeOf39 (0) rfl rfl rfl rfl ?_)
 have B54 := (B24.kx u45)
 refine p_load Try.isAgg39 rfl rfl rfl (B54.get rfl) (p_cmp rfl rfl rfl rfl rfl (p_samehd (v := .bool true) rfl (p_move rfl rfl rfl (p_field Try.underlying47 rfl Try.sizeOf45 (3) rfl rfl rfl rfl ?_))))
 have B55 := (B38.kx u45)
 refine p_load Try.isAgg45 rfl rfl rfl (B55.get rfl) (p_field Try.underlying41 rfl Try.sizeOf3 (2) rfl rfl rfl rfl (p_load Try.isAgg3 rfl rfl rfl (B54.get rfl) ?_))
 have i56 : (x.bill).toNat < R.lo.length := (by omega)
 refine p_index (j := (x.bill).toNat) Try.underlying45 Try.sizeOf3 rfl rfl rfl rfl ((hR.load.keep E46 (fun _ h => h)).addr (by omega)) (by omega) i56 (p_load Try.isAgg3 rfl rfl rfl (((hR.load.keep E46 (fun _ h => h)).at_ ((x.bill).toNat) (by omega)) 0 _ rfl) (p_field Try.underlying41 rfl Try.sizeOf3 (5) rfl rfl rfl rfl (p_load Try.isAgg3 rfl rfl rfl (B54.get rfl) (p_ari rfl rfl rfl rfl rfl (by omega) (p_field Try.underlying25 rfl Try.sizeOf22 (0) rfl rfl rfl rfl ?_)))))
 have B57 := (B30.kx u45)
 refine p_load Try.isAgg22 rfl rfl rfl (B57.get rfl) (p_field Try.underlying41 rfl Try.sizeOf3 (2) rfl rfl rfl rfl (p_load Try.isAgg3 rfl rfl rfl (B54.get rfl) ?_))
 have i58 : (x.bill).toNat < bs.length := (by omega)
 refine p_index (j := (x.bill).toNat) Try.underlying22 Try.sizeOf93 rfl rfl rfl rfl ((hbs.keep E46 (fun _ h => h)).addr (by omega)) (by omega) i58 (p_field Try.underlying93 rfl Try.sizeOf3 (ob + (x.bill).toNat * 3 + 0) rfl rfl rfl rfl (p_load Try.isAgg3 rfl rfl rfl (((hbs.keep E46 (fun _ h => h)).at_ ((x.bill).toNat) (by omega)) 0 _ rfl) (p_cmp rfl rfl rfl rfl rfl (p_pick_t rfl rfl rfl rfl (p_assign rfl rfl rfl (p_nil fun w59 u60 => ?_))))))
 have zu60 := u60.size
 have E61 := E46.nx u60
 refine t_nil' (hK48 _ _ (c_condp rfl (fun g138 => ?_) (fun g138 => ?_)))
 ·
  refine c_seq fun K62 hK62 => (c_region (t_assign rfl rfl rfl (t_nil' (hK62 _ _ (c_ret (f_ret1 (v := .int .i64 6) Try.results49 rfl ?_))))))
  have hH : ∀ i, i < R.hl.length → nth R.st.hold i = (nth R.hl i).xs.map HLay.v := fun i hi => nth_map (fun r : RowL => r.xs.map HLay.v) hi
  have hC : ∀ i, i < hs.length → nth (hs.map Hld.cap) i = (nth hs i).cap := fun i hi => nth_map Hld.cap hi
  have hv9 : chkP bs (hs.map Hld.cap) R.st mi x = 6 := by
    rw [chk1 hk (by omega),
      if_neg (show ¬ (x.minute < mi) by omega),
      if_neg (show ¬ ((bs.length : Int) ≤ x.bill) by omega),
      if_neg (show ¬ (((hs.map Hld.cap).length : Int) ≤ x.to) by rw [List.length_map]; omega),
      if_neg (show ¬ (nth R.st.sealed (x.to).toNat = true) by show ¬ (nth R.sl (x.to).toNat = true); intro h; have e : nth R.sl (x.to).toNat = false := (by assumption); rw [show _ = false from e] at h; cases h),
      if_neg (show ¬ (x.port ≠ (nth bs (x.bill).toNat).frm) by omega),
      if_pos (show (nth bs (x.bill).toNat).tons < nth R.st.loaded (x.bill).toNat + x.tons by show (nth bs (x.bill).toNat).tons < nth R.lo (x.bill).toNat + x.tons; omega)]
  exact ⟨congrArg (Value.int .i64) hv9.symm, E61⟩
 refine c_skip (hK25 _ _ (c_seq fun K63 hK63 => (c_seq fun K64 hK64 => (c_region (t_assign rfl rfl rfl (t_nil' (hK64 _ _ (c_block (c_loop (γ := Nat) (fun k => [(4, .pointer (some ⟨bk2, 0, none⟩)), (5, .pointer (some ⟨bk7, 0, none⟩)), (6, .pointer (some ⟨bk12, 0, none⟩)), (10, .bool false), (11, .bool true), (12, .bool true), (13, .int .i64 (k : Int))]) (fun k w => Upd (fun _ => False) w59 w ∧ (k ≤ R.se.length)) (fun k => R.se.length - k) 0 ⟨rfl, rfl, rfl, rfl, rfl, rfl, rfl, trivial⟩ ⟨Upd.refl _ _, (Nat.zero_le _)⟩ ?_)))))))))
 intro k w66 hW K65 hK65
 obtain ⟨u67, I68⟩ := hW
 have zu67 := u67.size
 have hkk := I68; clear I68
 refine c_seq fun K70 hK70 => (c_seq fun K71 hK71 => (c_region (t_move rfl rfl rfl (t_field Try.underlying47 rfl Try.sizeOf45 (4) rfl rfl rfl rfl ?_))))
 have B72 := ((B55.kx u60).kx u67)
 refine t_load Try.isAgg45 rfl rfl rfl (B72.get rfl) (t_len Try.underlying45 rfl rfl rfl rfl (t_cmp rfl rfl rfl rfl rfl (t_nil' (hK71 _ _ (c_condp rfl (fun g165 => ?_) (fun g165 => ?_))))))
 ·
  refine c_skip (hK70 _ _ (c_seq fun K73 hK73 => (c_block (c_seq fun K74 hK74 => (c_drawnQ follows (by kernel_rfl) (p_field Try.underlying41 rfl Try.sizeOf39 (0) rfl rfl rfl rfl ?_))))))
  have B76 := ((B54.kx u60).kx u67)
  refine p_load Try.isAgg39 rfl rfl rfl (B76.get rfl) (p_cmp rfl rfl rfl rfl rfl (p_samehd (v := .bool false) rfl (p_move rfl rfl rfl (p_skip rfl rfl rfl (p_skip rfl rfl rfl (p_skip rfl rfl rfl (p_skip rfl rfl rfl (p_skip rfl rfl rfl (p_skip rfl rfl rfl (p_skip rfl rfl rfl (p_skip rfl rfl rfl (p_pick_f rfl rfl rfl rfl (p_nil fun w77 u78 => ?_)))))))))))))
  have zu78 := u78.size
  refine t_nil' (hK74 _ _ (c_cond_f rfl (c_skip (hK73 _ _ (c_region (t_move rfl rfl rfl (t_ari rfl rfl rfl rfl rfl (by omega) (t_assign rfl rfl rfl (t_nil' ?_)))))))))
  exact hK65 (k + 1) _ _ (by omega) ⟨rfl, rfl, rfl, rfl, rfl, rfl, rfl, trivial⟩ ⟨(u67.next u78 (fun _ _ h => h.elim)), (by omega)⟩
 refine c_exit (hK63 _ _ (c_seq fun K80 hK80 => (c_seq fun K81 hK81 => (c_drawnQ follows (by kernel_rfl) (p_move rfl rfl rfl (p_move rfl rfl rfl (p_move rfl rfl rfl (p_pick_t rfl rfl rfl rfl (p_move rfl rfl rfl (p_skip rfl rfl rfl (p_skip rfl rfl rfl (p_skip rfl rfl rfl (p_skip rfl rfl rfl (p_skip rfl rfl rfl (p_skip rfl rfl rfl (p_skip rfl rfl rfl (p_skip rfl rfl rfl (p_skip rfl rfl rfl (p_skip rfl rfl rfl (p_pick_f rfl rfl rfl rfl (p_nil fun w82 u83 => ?_)))))))))))))))))))))
 have zu83 := u83.size
 have E84 := (E61.nx u67).nx u83
 refine t_nil' (hK81 _ _ (c_cond_f rfl (c_skip (hK80 _ _ (c_seq fun K85 hK85 => (c_seq fun K86 hK86 => ?_))))))
 have hrt9 := (row_few hst (i := (x.to).toNat) (by omega)).2.2.1
 refine c_drawnQ follows (by kernel_rfl) (p_move rfl rfl rfl (p_move rfl rfl rfl (p_move rfl rfl rfl (p_pick_t rfl rfl rfl rfl (p_move rfl rfl rfl (p_field Try.underlying47 rfl Try.sizeOf33 (0) rfl rfl rfl rfl ?_))))))
 have B94 := (B72.kx u83)
 refine p_load Try.isAgg33 rfl rfl rfl (B94.get rfl) (p_field Try.underlying41 rfl Try.sizeOf3 (4) rfl rfl rfl rfl ?_)
 have B95 := (((B54.kx u60).kx u67).kx u83)
 refine p_load Try.isAgg3 rfl rfl rfl (B95.get rfl) ?_
 have i96 : (x.to).toNat < R.hl.length := (by omega)
 refine p_index (j := (x.to).toNat) Try.underlying33 Try.sizeOf36 rfl rfl rfl rfl ((hR.hold.keep E84 (fun _ h => h)).addr (by omega)) (by omega) i96 (p_load Try.isAgg36 rfl rfl rfl (((hR.hold.keep E84 (fun _ h => h)).at_ ((x.to).toNat) (by omega)) 0 _ rfl) (p_call (v := .int .i64 (sumT ((nth R.hl ((x.to).toNat)).xs.map HLay.v))) own75 rfl rfl rfl rfl (fun _ u97 => (by have zu97 := u97.size; have hrf := row_few hst (i := ((x.to).toNat)) (by omega); exact (rTons_c (nth R.hl ((x.to).toNat)).xs ((nth R.hl ((x.to).toNat)).ao) (nth R.hl ((x.to).toNat)).g 0 ((nth R.hl ((x.to).toNat)).cp) _ ((hR.lays (nth R.hl ((x.to).toNat)) (nth_mem (by omega))).1.keep (E84.nx u97) (fun _ h => h)) hrf.1 hrf.2.1))) (p_field Try.underlying41 rfl Try.sizeOf3 (5) rfl rfl rfl rfl (p_load Try.isAgg3 rfl rfl rfl (B95.get rfl) (p_ari rfl rfl rfl rfl rfl (by omega) (p_field Try.underlying25 rfl Try.sizeOf23 (1) rfl rfl rfl rfl ?_))))))
 have B99 := (((B57.kx u60).kx u67).kx u83)
 refine p_load Try.isAgg23 rfl rfl rfl (B99.get rfl) (p_field Try.underlying41 rfl Try.sizeOf3 (4) rfl rfl rfl rfl (p_load Try.isAgg3 rfl rfl rfl (B95.get rfl) ?_))
 have i100 : (x.to).toNat < hs.length := (by omega)
 refine p_index (j := (x.to).toNat) Try.underlying23 Try.sizeOf90 rfl rfl rfl rfl ((hhs.keep E84 (fun _ h => h)).addr (by omega)) (by omega) i100 (p_field Try.underlying90 rfl Try.sizeOf3 (oh + (x.to).toNat * 2 + 1) rfl rfl rfl rfl (p_load Try.isAgg3 rfl rfl rfl (((hhs.keep E84 (fun _ h => h)).at_ ((x.to).toNat) (by omega)) 1 _ rfl) (p_cmp rfl rfl rfl rfl rfl (p_pick_t rfl rfl rfl rfl (p_nil fun w101 u102 => ?_)))))
 have zu102 := u102.size
 have E103 := E84.nx u102
 refine t_nil' (hK86 _ _ (c_condp rfl (fun g220 => ?_) (fun g220 => ?_)))
 ·
  refine c_seq fun K104 hK104 => (c_region (t_assign rfl rfl rfl (t_nil' (hK104 _ _ (c_ret (f_ret1 (v := .int .i64 8) Try.results49 rfl ?_))))))
  have hH : ∀ i, i < R.hl.length → nth R.st.hold i = (nth R.hl i).xs.map HLay.v := fun i hi => nth_map (fun r : RowL => r.xs.map HLay.v) hi
  have hC : ∀ i, i < hs.length → nth (hs.map Hld.cap) i = (nth hs i).cap := fun i hi => nth_map Hld.cap hi
  have hv9 : chkP bs (hs.map Hld.cap) R.st mi x = 8 := by
    rw [chk1 hk (by omega),
      if_neg (show ¬ (x.minute < mi) by omega),
      if_neg (show ¬ ((bs.length : Int) ≤ x.bill) by omega),
      if_neg (show ¬ (((hs.map Hld.cap).length : Int) ≤ x.to) by rw [List.length_map]; omega),
      if_neg (show ¬ (nth R.st.sealed (x.to).toNat = true) by show ¬ (nth R.sl (x.to).toNat = true); intro h; have e : nth R.sl (x.to).toNat = false := (by assumption); rw [show _ = false from e] at h; cases h),
      if_neg (show ¬ (x.port ≠ (nth bs (x.bill).toNat).frm) by omega),
      if_neg (show ¬ ((nth bs (x.bill).toNat).tons < nth R.st.loaded (x.bill).toNat + x.tons) by show ¬ ((nth bs (x.bill).toNat).tons < nth R.lo (x.bill).toNat + x.tons); omega),
      if_pos (show nth (hs.map Hld.cap) (x.to).toNat < sumT (nth R.st.hold (x.to).toNat) + x.tons by rw [hC _ (by omega), hH _ (by omega)]; omega)]
  exact ⟨congrArg (Value.int .i64) hv9.symm, E103⟩
 refine c_skip (hK85 _ _ (c_seq fun K105 hK105 => (c_region (t_assign rfl rfl rfl (t_nil' (hK105 _ _ (c_ret (f_ret1 (v := .int .i64 0) Try.results49 rfl ?_))))))))
 have hH : ∀ i, i < R.hl.length → nth R.st.hold i = (nth R.hl i).xs.map HLay.v := fun i hi => nth_map (fun r : RowL => r.xs.map HLay.v) hi
 have hC : ∀ i, i < hs.length → nth (hs.map Hld.cap) i = (nth hs i).cap := fun i hi => nth_map Hld.cap hi
 have hv9 : chkP bs (hs.map Hld.cap) R.st mi x = 0 := by
   rw [chk1 hk (by omega),
     if_neg (show ¬ (x.minute < mi) by omega),
     if_neg (show ¬ ((bs.length : Int) ≤ x.bill) by omega),
     if_neg (show ¬ (((hs.map Hld.cap).length : Int) ≤ x.to) by rw [List.length_map]; omega),
     if_neg (show ¬ (nth R.st.sealed (x.to).toNat = true) by show ¬ (nth R.sl (x.to).toNat = true); intro h; have e : nth R.sl (x.to).toNat = false := (by assumption); rw [show _ = false from e] at h; cases h),
     if_neg (show ¬ (x.port ≠ (nth bs (x.bill).toNat).frm) by omega),
     if_neg (show ¬ ((nth bs (x.bill).toNat).tons < nth R.st.loaded (x.bill).toNat + x.tons) by show ¬ ((nth bs (x.bill).toNat).tons < nth R.lo (x.bill).toNat + x.tons); omega),
     if_neg (show ¬ (nth (hs.map Hld.cap) (x.to).toNat < sumT (nth R.st.hold (x.to).toNat) + x.tons) by rw [hC _ (by omega), hH _ (by omega)]; omega)]
 exact ⟨congrArg (Value.int .i64) hv9.symm, E103⟩

set_option maxHeartbeats 4000000 in
theorem Cannot2_c (bs : List Bil) (ab : Option Addr) (bb ob cb : Nat) (hs : List Hld) (ah : Option Addr) (bh oh ch : Nat) (mi : Int) (R : RG) (n : Nat) (x : Ev) (w0 : World) (hbs : Sl encBil 3 w0 ab bb ob bs) (hhs : Sl encHld 2 w0 ah bh oh hs) (hbl : bs.length ≤ 1000000) (hhl : hs.length ≤ 1000000) (hR : RM w0 R) (hst : StOk bs (hs.map Hld.cap) n R.st) (hx : okEv x = true) (hse : R.se.length ≤ 1000000) (hmi : 0 ≤ mi ∧ mi ≤ 1000000) (hk : x.kind = 2) :
    CallsV Try.prog 49 [.agg #[.slice ab bs.length cb, .slice ah hs.length ch], .agg #[.slice R.ha R.hl.length R.hc, .slice R.sa R.sl.length R.sc, .slice R.la R.ld.length R.lc, .slice R.da R.lo.length R.dc, .slice R.ea R.se.length R.ec], .agg #[.int .i64 2, .int .i64 x.minute, .int .i64 x.bill, .int .i64 x.frm, .int .i64 x.to, .int .i64 x.tons, .int .i64 x.port, .int .i64 x.sn], .int .i64 mi] w0 (fun v w' => v = .int .i64 (chkP bs (hs.map Hld.cap) R.st mi x) ∧ Ext w0 w') := by
 have hr := okEv_rng hx
 have hn1 : R.hl.length = (hs.map Hld.cap).length := by have h := hst.hn; rwa [show R.st.hold.length = R.hl.length from List.length_map _] at h
 have hn2 : R.sl.length = (hs.map Hld.cap).length := hst.sn
 have hn3 : R.lo.length = bs.length := hst.lsn
 have hn4 := hst.bn
 have hn5 := hst.h20
 rw [List.length_map] at hn1 hn2 hn5
 refine f_enter (N := 221) Try.func49 rfl rfl rfl (c_seq fun K1 hK1 => (c_region (t_box (cs := [.slice ab bs.length cb, .slice ah hs.length ch]) rfl rfl rfl rfl (fun bk2 w3 ebk2 sbk2 B4 u5 => ?_))))
 have zu5 := u5.size
 refine t_box (cs := [.slice R.ha R.hl.length R.hc, .slice R.sa R.sl.length R.sc, .slice R.la R.ld.length R.lc, .slice R.da R.lo.length R.dc, .slice R.ea R.se.length R.ec]) rfl rfl rfl rfl (fun bk7 w8 ebk7 sbk7 B9 u10 => ?_)
 have zu10 := u10.size
 refine t_box (cs := [.int .i64 2, .int .i64 x.minute, .int .i64 x.bill, .int .i64 x.frm, .int .i64 x.to, .int .i64 x.tons, .int .i64 x.port, .int .i64 x.sn]) rfl rfl rfl rfl (fun bk12 w13 ebk12 sbk12 B14 u15 => ?_)
 have zu15 := u15.size
 refine t_assign rfl rfl rfl (t_nil' (hK1 _ _ (c_seq fun K17 hK17 => (c_region (t_field Try.underlying25 rfl Try.sizeOf23 (1) rfl rfl rfl rfl ?_)))))
 have B18 := ((B4.kx u10).kx u15)
 refine t_load Try.isAgg23 rfl rfl rfl (B18.get rfl) (t_len Try.underlying23 rfl rfl rfl rfl (t_assign rfl rfl rfl (t_nil' (hK17 _ _ (c_seq fun K19 hK19 => (c_drawnQ follows (by kernel_rfl) (p_field Try.underlying41 rfl Try.sizeOf39 (0) rfl rfl rfl rfl (p_load Try.isAgg39 rfl rfl rfl (B14.get rfl) (p_cmp rfl rfl rfl rfl rfl (p_samehd (v := .bool true) rfl (p_move rfl rfl rfl (p_skip rfl rfl rfl (p_skip rfl rfl rfl (p_skip rfl rfl rfl (p_pick_t rfl rfl rfl rfl (p_move rfl rfl rfl (p_skip rfl rfl rfl (p_skip rfl rfl rfl (p_skip rfl rfl rfl (p_pick_t rfl rfl rfl rfl (p_field Try.underlying41 rfl Try.sizeOf39 (0) rfl rfl rfl rfl (p_load Try.isAgg39 rfl rfl rfl (B14.get rfl) (p_cmp rfl rfl rfl rfl rfl ?_)))))))))))))))))))))))
 refine p_samehd (v := .bool false) rfl (p_move rfl rfl rfl (p_field Try.underlying41 rfl Try.sizeOf39 (0) rfl rfl rfl rfl (p_load Try.isAgg39 rfl rfl rfl (B14.get rfl) (p_cmp rfl rfl rfl rfl rfl (p_samehd (v := .bool true) rfl (p_pick_f rfl rfl rfl rfl (p_move rfl rfl rfl (p_skip rfl rfl rfl (p_skip rfl rfl rfl (p_skip rfl rfl rfl (p_pick_t rfl rfl rfl rfl (p_assign rfl rfl rfl (p_assign rfl rfl rfl (p_nil fun w20 u21 => ?_))))))))))))))
 have zu21 := u21.size
 have E22 := ((((Upd.refl (fun _ => False) w0).nx u5).nx u10).nx u15).nx u21
 refine t_nil' (hK19 _ _ (c_seq fun K23 hK23 => (c_region (t_field Try.underlying41 rfl Try.sizeOf39 (0) rfl rfl rfl rfl ?_))))
 have B24 := (B14.kx u21)
 refine t_load Try.isAgg39 rfl rfl rfl (B24.get rfl) (t_cmp rfl rfl rfl rfl rfl (t_samehd (v := .bool true) rfl (t_assign rfl rfl rfl (t_nil' (hK23 _ _ (c_seq fun K25 hK25 => (c_block (c_seq fun K26 hK26 => (c_region (t_field Try.underlying41 rfl Try.sizeOf3 (1) rfl rfl rfl rfl (t_load Try.isAgg3 rfl rfl rfl (B24.get rfl) (t_move rfl rfl rfl (t_cmp rfl rfl rfl rfl rfl (t_assign rfl rfl rfl (t_nil' (hK26 _ _ (c_condp rfl (fun g46 => ?_) (fun g46 => ?_))))))))))))))))))
 ·
  refine c_seq fun K27 hK27 => (c_region (t_assign rfl rfl rfl (t_nil' (hK27 _ _ (c_ret (f_ret1 (v := .int .i64 9) Try.results49 rfl ?_))))))
  have hH : ∀ i, i < R.hl.length → nth R.st.hold i = (nth R.hl i).xs.map HLay.v := fun i hi => nth_map (fun r : RowL => r.xs.map HLay.v) hi
  have hC : ∀ i, i < hs.length → nth (hs.map Hld.cap) i = (nth hs i).cap := fun i hi => nth_map Hld.cap hi
  have hv9 : chkP bs (hs.map Hld.cap) R.st mi x = 9 := by
    rw [chk2 hk (by omega),
      if_pos (show x.minute < mi by omega)]
  exact ⟨congrArg (Value.int .i64) hv9.symm, E22⟩
 refine c_seq fun K28 hK28 => (c_seq fun K29 hK29 => (c_region (t_field Try.underlying41 rfl Try.sizeOf39 (0) rfl rfl rfl rfl (t_load Try.isAgg39 rfl rfl rfl (B24.get rfl) (t_cmp rfl rfl rfl rfl rfl (t_samehd (v := .bool false) rfl (t_move rfl rfl rfl (t_skip rfl rfl rfl (t_skip rfl rfl rfl (t_skip rfl rfl rfl (t_skip rfl rfl rfl (t_skip rfl rfl rfl (t_skip rfl rfl rfl (t_pick_f rfl rfl rfl rfl (t_assign rfl rfl rfl (t_nil' (hK29 _ _ (c_cond_f rfl (c_seq fun K30 hK30 => (c_region (t_move rfl rfl rfl (t_move rfl rfl rfl (t_field Try.underlying41 rfl Try.sizeOf3 (3) rfl rfl rfl rfl ?_)))))))))))))))))))))))
 refine t_load Try.isAgg3 rfl rfl rfl (B24.get rfl) (t_move rfl rfl rfl (t_cmp rfl rfl rfl rfl rfl (t_pick_t rfl rfl rfl rfl (t_assign rfl rfl rfl (t_nil' (hK30 _ _ (c_condp rfl (fun g51 => ?_) (fun g51 => ?_))))))))
 ·
  refine c_same 51 (v := .bool true) rfl (congrArg Value.bool (decide_eq_true g51)) (c_skip (hK28 _ _ (c_cond_t rfl (c_seq fun K31 hK31 => (c_region (t_assign rfl rfl rfl (t_nil' (hK31 _ _ (c_ret (f_ret1 (v := .int .i64 7) Try.results49 rfl ?_))))))))))
  have hH : ∀ i, i < R.hl.length → nth R.st.hold i = (nth R.hl i).xs.map HLay.v := fun i hi => nth_map (fun r : RowL => r.xs.map HLay.v) hi
  have hC : ∀ i, i < hs.length → nth (hs.map Hld.cap) i = (nth hs i).cap := fun i hi => nth_map Hld.cap hi
  have hv9 : chkP bs (hs.map Hld.cap) R.st mi x = 7 := by
    rw [chk2 hk (by omega),
      if_neg (show ¬ (x.minute < mi) by omega),
      if_pos (show ((hs.map Hld.cap).length : Int) ≤ x.frm by rw [List.length_map]; omega)]
  exact ⟨congrArg (Value.int .i64) hv9.symm, E22⟩
 refine c_region (t_move rfl rfl rfl (t_move rfl rfl rfl (t_field Try.underlying41 rfl Try.sizeOf3 (4) rfl rfl rfl rfl (t_load Try.isAgg3 rfl rfl rfl (B24.get rfl) (t_move rfl rfl rfl (t_cmp rfl rfl rfl rfl rfl (t_pick_t rfl rfl rfl rfl (t_assign rfl rfl rfl (t_nil' (hK28 _ _ (c_condp rfl (fun g51 => ?_) (fun g51 => ?_))))))))))))
 ·
  refine c_same 51 (v := .bool true) rfl (congrArg Value.bool (decide_eq_true g51)) (c_seq fun K32 hK32 => (c_region (t_assign rfl rfl rfl (t_nil' (hK32 _ _ (c_ret (f_ret1 (v := .int .i64 7) Try.results49 rfl ?_)))))))
  have hH : ∀ i, i < R.hl.length → nth R.st.hold i = (nth R.hl i).xs.map HLay.v := fun i hi => nth_map (fun r : RowL => r.xs.map HLay.v) hi
  have hC : ∀ i, i < hs.length → nth (hs.map Hld.cap) i = (nth hs i).cap := fun i hi => nth_map Hld.cap hi
  have hv9 : chkP bs (hs.map Hld.cap) R.st mi x = 7 := by
    rw [chk2 hk (by omega),
      if_neg (show ¬ (x.minute < mi) by omega),
      if_neg (show ¬ (((hs.map Hld.cap).length : Int) ≤ x.frm) by rw [List.length_map]; omega),
      if_pos (show ((hs.map Hld.cap).length : Int) ≤ x.to by rw [List.length_map]; omega)]
  exact ⟨congrArg (Value.int .i64) hv9.symm, E22⟩
 refine c_seq fun K33 hK33 => (c_region (t_field Try.underlying41 rfl Try.sizeOf39 (0) rfl rfl rfl rfl (t_load Try.isAgg39 rfl rfl rfl (B24.get rfl) (t_cmp rfl rfl rfl rfl rfl (t_samehd (v := .bool true) rfl (t_move rfl rfl rfl (t_field Try.underlying41 rfl Try.sizeOf3 (3) rfl rfl rfl rfl (t_load Try.isAgg3 rfl rfl rfl (B24.get rfl) (t_field Try.underlying41 rfl Try.sizeOf3 (4) rfl rfl rfl rfl (t_load Try.isAgg3 rfl rfl rfl (B24.get rfl) (t_cmp rfl rfl rfl rfl rfl (t_pick_t rfl rfl rfl rfl (t_assign rfl rfl rfl (t_nil' (hK33 _ _ (c_condp rfl (fun g77 => ?_) (fun g77 => ?_)))))))))))))))))
 ·
  refine c_seq fun K34 hK34 => (c_region (t_assign rfl rfl rfl (t_nil' (hK34 _ _ (c_ret (f_ret1 (v := .int .i64 6) Try.results49 rfl ?_))))))
  have hH : ∀ i, i < R.hl.length → nth R.st.hold i = (nth R.hl i).xs.map HLay.v := fun i hi => nth_map (fun r : RowL => r.xs.map HLay.v) hi
  have hC : ∀ i, i < hs.length → nth (hs.map Hld.cap) i = (nth hs i).cap := fun i hi => nth_map Hld.cap hi
  have hv9 : chkP bs (hs.map Hld.cap) R.st mi x = 6 := by
    rw [chk2 hk (by omega),
      if_neg (show ¬ (x.minute < mi) by omega),
      if_neg (show ¬ (((hs.map Hld.cap).length : Int) ≤ x.frm) by rw [List.length_map]; omega),
      if_neg (show ¬ (((hs.map Hld.cap).length : Int) ≤ x.to) by rw [List.length_map]; omega),
      if_pos (show x.frm = x.to by omega)]
  exact ⟨congrArg (Value.int .i64) hv9.symm, E22⟩
 refine c_seq fun K35 hK35 => (c_seq fun K36 hK36 => (c_region (t_move rfl rfl rfl (t_move rfl rfl rfl (t_move rfl rfl rfl (t_pick_t rfl rfl rfl rfl (t_move rfl rfl rfl (t_field Try.underlying47 rfl Try.sizeOf43 (1) rfl rfl rfl rfl ?_))))))))
 have B37 := ((B9.kx u15).kx u21)
 refine t_load Try.isAgg43 rfl rfl rfl (B37.get rfl) (t_field Try.underlying41 rfl Try.sizeOf3 (3) rfl rfl rfl rfl (t_load Try.isAgg3 rfl rfl rfl (B24.get rfl) ?_))
 have i38 : (x.frm).toNat < R.sl.length := (by omega)
 refine t_index (j := (x.frm).toNat) Try.underlying43 Try.sizeOf4 rfl rfl rfl rfl ((hR.shut.keep E22 (fun _ h => h)).addr (by omega)) (by omega) i38 (t_load Try.isAgg4 rfl rfl rfl (((hR.shut.keep E22 (fun _ h => h)).at_ ((x.frm).toNat) (by omega)) 0 _ rfl) (t_pick_t rfl rfl rfl rfl (t_assign rfl rfl rfl (t_nil' (hK36 _ _ (c_cond rfl (fun g88 => ?_) (fun g88 => ?_)))))))
 ·
  refine c_same 88 (v := .bool true) rfl (congrArg Value.bool g88) (c_skip (hK35 _ _ (c_cond_t rfl (c_seq fun K39 hK39 => (c_region (t_assign rfl rfl rfl (t_nil' (hK39 _ _ (c_ret (f_ret1 (v := .int .i64 9) Try.results49 rfl ?_))))))))))
  have hH : ∀ i, i < R.hl.length → nth R.st.hold i = (nth R.hl i).xs.map HLay.v := fun i hi => nth_map (fun r : RowL => r.xs.map HLay.v) hi
  have hC : ∀ i, i < hs.length → nth (hs.map Hld.cap) i = (nth hs i).cap := fun i hi => nth_map Hld.cap hi
  have hv9 : chkP bs (hs.map Hld.cap) R.st mi x = 9 := by
    rw [chk2 hk (by omega),
      if_neg (show ¬ (x.minute < mi) by omega),
      if_neg (show ¬ (((hs.map Hld.cap).length : Int) ≤ x.frm) by rw [List.length_map]; omega),
      if_neg (show ¬ (((hs.map Hld.cap).length : Int) ≤ x.to) by rw [List.length_map]; omega),
      if_neg (show ¬ (x.frm = x.to) by omega),
      if_pos (show nth R.st.sealed (x.frm).toNat = true by show nth R.sl (x.frm).toNat = true; assumption)]
  exact ⟨congrArg (Value.int .i64) hv9.symm, E22⟩
 refine c_seq fun K40 hK40 => (c_region (t_move rfl rfl rfl (t_move rfl rfl rfl (t_field Try.underlying47 rfl Try.sizeOf43 (1) rfl rfl rfl rfl (t_load Try.isAgg43 rfl rfl rfl (B37.get rfl) (t_field Try.underlying41 rfl Try.sizeOf3 (4) rfl rfl rfl rfl (t_load Try.isAgg3 rfl rfl rfl (B24.get rfl) ?_)))))))
 have i41 : (x.to).toNat < R.sl.length := (by omega)
 refine t_index (j := (x.to).toNat) Try.underlying43 Try.sizeOf4 rfl rfl rfl rfl ((hR.shut.keep E22 (fun _ h => h)).addr (by omega)) (by omega) i41 (t_load Try.isAgg4 rfl rfl rfl (((hR.shut.keep E22 (fun _ h => h)).at_ ((x.to).toNat) (by omega)) 0 _ rfl) (t_pick_t rfl rfl rfl rfl (t_assign rfl rfl rfl (t_nil' (hK40 _ _ (c_cond rfl (fun g88 => ?_) (fun g88 => ?_)))))))
 ·
  refine c_same 88 (v := .bool true) rfl (congrArg Value.bool g88) (c_skip (hK35 _ _ (c_cond_t rfl (c_seq fun K42 hK42 => (c_region (t_assign rfl rfl rfl (t_nil' (hK42 _ _ (c_ret (f_ret1 (v := .int .i64 9) Try.results49 rfl ?_))))))))))
  have hH : ∀ i, i < R.hl.length → nth R.st.hold i = (nth R.hl i).xs.map HLay.v := fun i hi => nth_map (fun r : RowL => r.xs.map HLay.v) hi
  have hC : ∀ i, i < hs.length → nth (hs.map Hld.cap) i = (nth hs i).cap := fun i hi => nth_map Hld.cap hi
  have hv9 : chkP bs (hs.map Hld.cap) R.st mi x = 9 := by
    rw [chk2 hk (by omega),
      if_neg (show ¬ (x.minute < mi) by omega),
      if_neg (show ¬ (((hs.map Hld.cap).length : Int) ≤ x.frm) by rw [List.length_map]; omega),
      if_neg (show ¬ (((hs.map Hld.cap).length : Int) ≤ x.to) by rw [List.length_map]; omega),
      if_neg (show ¬ (x.frm = x.to) by omega),
      if_neg (show ¬ (nth R.st.sealed (x.frm).toNat = true) by show ¬ (nth R.sl (x.frm).toNat = true); intro h; have e : nth R.sl (x.frm).toNat = false := (by assumption); rw [show _ = false from e] at h; cases h),
      if_pos (show nth R.st.sealed (x.to).toNat = true by show nth R.sl (x.to).toNat = true; assumption)]
  exact ⟨congrArg (Value.int .i64) hv9.symm, E22⟩
 refine c_region (t_field Try.underlying41 rfl Try.sizeOf39 (0) rfl rfl rfl rfl (t_load Try.isAgg39 rfl rfl rfl (B24.get rfl) (t_cmp rfl rfl rfl rfl rfl (t_samehd (v := .bool false) rfl (t_move rfl rfl rfl (t_skip rfl rfl rfl (t_skip rfl rfl rfl (t_skip rfl rfl rfl (t_skip rfl rfl rfl (t_skip rfl rfl rfl (t_skip rfl rfl rfl (t_skip rfl rfl rfl (t_pick_f rfl rfl rfl rfl (t_assign rfl rfl rfl (t_nil' (hK35 _ _ (c_cond_f rfl (c_seq fun K43 hK43 => (c_drawnQ follows (by kernel_rfl) (p_field Try.underlying41 rfl Try.sizeOf39 (0) rfl rfl rfl rfl (p_load Try.isAgg39 rfl rfl rfl (B24.get rfl) (p_cmp rfl rfl rfl rfl rfl (p_samehd (v := .bool false) rfl ?_)))))))))))))))))))))))
 refine p_move rfl rfl rfl (p_skip rfl rfl rfl (p_skip rfl rfl rfl (p_skip rfl rfl rfl (p_skip rfl rfl rfl (p_skip rfl rfl rfl (p_skip rfl rfl rfl (p_skip rfl rfl rfl (p_skip rfl rfl rfl (p_skip rfl rfl rfl (p_skip rfl rfl rfl (p_pick_f rfl rfl rfl rfl (p_assign rfl rfl rfl (p_nil fun w44 u45 => ?_)))))))))))))
 have zu45 := u45.size
 refine t_nil' (hK43 _ _ (c_cond_f rfl (c_seq fun K47 hK47 => (c_drawnQ follows (by kernel_rfl) (p_field Try.underlying41 rfl Try.sizeOf39 (0) rfl rfl rfl rfl ?_)))))
 have B49 := (B24.kx u45)
 refine p_load Try.isAgg39 rfl rfl rfl (B49.get rfl) (p_cmp rfl rfl rfl rfl rfl (p_samehd (v := .bool false) rfl (p_move rfl rfl rfl (p_skip rfl rfl rfl (p_skip rfl rfl rfl (p_skip rfl rfl rfl (p_skip rfl rfl rfl (p_skip rfl rfl rfl (p_skip rfl rfl rfl (p_skip rfl rfl rfl (p_skip rfl rfl rfl (p_skip rfl rfl rfl (p_skip rfl rfl rfl (p_skip rfl rfl rfl (p_skip rfl rfl rfl (p_skip rfl rfl rfl (p_skip rfl rfl rfl (p_skip rfl rfl rfl (p_skip rfl rfl rfl (p_skip rfl rfl rfl (p_pick_f rfl rfl rfl rfl (p_assign rfl rfl rfl (p_nil fun w50 u51 => ?_)))))))))))))))))))))))
 have zu51 := u51.size
 refine t_nil' (hK47 _ _ (c_cond_f rfl (c_skip (hK25 _ _ (c_seq fun K53 hK53 => (c_seq fun K54 hK54 => (c_region (t_assign rfl rfl rfl (t_nil' (hK54 _ _ (c_block (c_loop (γ := Nat) (fun k => [(4, .pointer (some ⟨bk2, 0, none⟩)), (5, .pointer (some ⟨bk7, 0, none⟩)), (6, .pointer (some ⟨bk12, 0, none⟩)), (10, .bool true), (11, .bool true), (12, .bool true), (13, .int .i64 (k : Int))]) (fun k w => Upd (fun _ => False) w50 w ∧ (k ≤ R.se.length)) (fun k => R.se.length - k) 0 ⟨rfl, rfl, rfl, rfl, rfl, rfl, rfl, trivial⟩ ⟨Upd.refl _ _, (Nat.zero_le _)⟩ ?_))))))))))))
 intro k w56 hW K55 hK55
 obtain ⟨u57, I58⟩ := hW
 have zu57 := u57.size
 have E59 := ((E22.nx u45).nx u51).nx u57
 have hkk := I58; clear I58
 refine c_seq fun K60 hK60 => (c_seq fun K61 hK61 => (c_region (t_move rfl rfl rfl (t_field Try.underlying47 rfl Try.sizeOf45 (4) rfl rfl rfl rfl ?_))))
 have B62 := (((B37.kx u45).kx u51).kx u57)
 refine t_load Try.isAgg45 rfl rfl rfl (B62.get rfl) (t_len Try.underlying45 rfl rfl rfl rfl (t_cmp rfl rfl rfl rfl rfl (t_nil' (hK61 _ _ (c_condp rfl (fun g165 => ?_) (fun g165 => ?_))))))
 ·
  refine c_skip (hK60 _ _ (c_seq fun K63 hK63 => (c_block (c_seq fun K64 hK64 => (c_drawnQ follows (by kernel_rfl) (p_field Try.underlying41 rfl Try.sizeOf39 (0) rfl rfl rfl rfl ?_))))))
  have B66 := ((B49.kx u51).kx u57)
  refine p_load Try.isAgg39 rfl rfl rfl (B66.get rfl) (p_cmp rfl rfl rfl rfl rfl (p_samehd (v := .bool false) rfl (p_move rfl rfl rfl (p_skip rfl rfl rfl (p_skip rfl rfl rfl (p_skip rfl rfl rfl (p_skip rfl rfl rfl (p_skip rfl rfl rfl (p_skip rfl rfl rfl (p_skip rfl rfl rfl (p_skip rfl rfl rfl (p_pick_f rfl rfl rfl rfl (p_nil fun w67 u68 => ?_)))))))))))))
  have zu68 := u68.size
  refine t_nil' (hK64 _ _ (c_cond_f rfl (c_skip (hK63 _ _ (c_region (t_move rfl rfl rfl (t_ari rfl rfl rfl rfl rfl (by omega) (t_assign rfl rfl rfl (t_nil' ?_)))))))))
  exact hK55 (k + 1) _ _ (by omega) ⟨rfl, rfl, rfl, rfl, rfl, rfl, rfl, trivial⟩ ⟨(u57.next u68 (fun _ _ h => h.elim)), (by omega)⟩
 refine c_exit (hK53 _ _ (c_seq fun K70 hK70 => (c_seq fun K71 hK71 => (c_drawnQ follows (by kernel_rfl) (p_move rfl rfl rfl (p_move rfl rfl rfl (p_move rfl rfl rfl (p_pick_t rfl rfl rfl rfl (p_move rfl rfl rfl (p_field Try.underlying47 rfl Try.sizeOf33 (0) rfl rfl rfl rfl (p_load Try.isAgg33 rfl rfl rfl (B62.get rfl) (p_field Try.underlying41 rfl Try.sizeOf3 (3) rfl rfl rfl rfl ?_))))))))))))
 have B76 := ((B49.kx u51).kx u57)
 refine p_load Try.isAgg3 rfl rfl rfl (B76.get rfl) ?_
 have i77 : (x.frm).toNat < R.hl.length := (by omega)
 refine p_index (j := (x.frm).toNat) Try.underlying33 Try.sizeOf36 rfl rfl rfl rfl ((hR.hold.keep E59 (fun _ h => h)).addr (by omega)) (by omega) i77 (p_load Try.isAgg36 rfl rfl rfl (((hR.hold.keep E59 (fun _ h => h)).at_ ((x.frm).toNat) (by omega)) 0 _ rfl) (p_call (v := .int .i64 (sumT ((nth R.hl ((x.frm).toNat)).xs.map HLay.v))) own75 rfl rfl rfl rfl (fun _ u78 => (by have zu78 := u78.size; have hrf := row_few hst (i := ((x.frm).toNat)) (by omega); exact (rTons_c (nth R.hl ((x.frm).toNat)).xs ((nth R.hl ((x.frm).toNat)).ao) (nth R.hl ((x.frm).toNat)).g 0 ((nth R.hl ((x.frm).toNat)).cp) _ ((hR.lays (nth R.hl ((x.frm).toNat)) (nth_mem (by omega))).1.keep (E59.nx u78) (fun _ h => h)) hrf.1 hrf.2.1))) (p_field Try.underlying41 rfl Try.sizeOf3 (5) rfl rfl rfl rfl (p_load Try.isAgg3 rfl rfl rfl (B76.get rfl) (p_cmp rfl rfl rfl rfl rfl (p_pick_t rfl rfl rfl rfl (p_nil fun w80 u81 => ?_)))))))
 have zu81 := u81.size
 have E82 := E59.nx u81
 refine t_nil' (hK71 _ _ (c_condp rfl (fun g196 => ?_) (fun g196 => ?_)))
 ·
  refine c_seq fun K83 hK83 => (c_region (t_assign rfl rfl rfl (t_nil' (hK83 _ _ (c_ret (f_ret1 (v := .int .i64 3) Try.results49 rfl ?_))))))
  have hH : ∀ i, i < R.hl.length → nth R.st.hold i = (nth R.hl i).xs.map HLay.v := fun i hi => nth_map (fun r : RowL => r.xs.map HLay.v) hi
  have hC : ∀ i, i < hs.length → nth (hs.map Hld.cap) i = (nth hs i).cap := fun i hi => nth_map Hld.cap hi
  have hv9 : chkP bs (hs.map Hld.cap) R.st mi x = 3 := by
    rw [chk2 hk (by omega),
      if_neg (show ¬ (x.minute < mi) by omega),
      if_neg (show ¬ (((hs.map Hld.cap).length : Int) ≤ x.frm) by rw [List.length_map]; omega),
      if_neg (show ¬ (((hs.map Hld.cap).length : Int) ≤ x.to) by rw [List.length_map]; omega),
      if_neg (show ¬ (x.frm = x.to) by omega),
      if_neg (show ¬ (nth R.st.sealed (x.frm).toNat = true) by show ¬ (nth R.sl (x.frm).toNat = true); intro h; have e : nth R.sl (x.frm).toNat = false := (by assumption); rw [show _ = false from e] at h; cases h),
      if_neg (show ¬ (nth R.st.sealed (x.to).toNat = true) by show ¬ (nth R.sl (x.to).toNat = true); intro h; have e : nth R.sl (x.to).toNat = false := (by assumption); rw [show _ = false from e] at h; cases h),
      if_pos (show sumT (nth R.st.hold (x.frm).toNat) < x.tons by rw [hH _ (by omega)]; omega)]
  exact ⟨congrArg (Value.int .i64) hv9.symm, E82⟩
 refine c_skip (hK70 _ _ (c_seq fun K84 hK84 => (c_seq fun K85 hK85 => ?_)))
 have hrt9 := (row_few hst (i := (x.to).toNat) (by omega)).2.2.1
 refine c_drawnQ follows (by kernel_rfl) (p_move rfl rfl rfl (p_move rfl rfl rfl (p_move rfl rfl rfl (p_pick_t rfl rfl rfl rfl (p_move rfl rfl rfl (p_field Try.underlying47 rfl Try.sizeOf33 (0) rfl rfl rfl rfl ?_))))))
 have B93 := (B62.kx u81)
 refine p_load Try.isAgg33 rfl rfl rfl (B93.get rfl) (p_field Try.underlying41 rfl Try.sizeOf3 (4) rfl rfl rfl rfl ?_)
 have B94 := (B76.kx u81)
 refine p_load Try.isAgg3 rfl rfl rfl (B94.get rfl) ?_
 have i95 : (x.to).toNat < R.hl.length := (by omega)
 refine p_index (j := (x.to).toNat) Try.underlying33 Try.sizeOf36 rfl rfl rfl rfl ((hR.hold.keep E82 (fun _ h => h)).addr (by omega)) (by omega) i95 (p_load Try.isAgg36 rfl rfl rfl (((hR.hold.keep E82 (fun _ h => h)).at_ ((x.to).toNat) (by omega)) 0 _ rfl) (p_call (v := .int .i64 (sumT ((nth R.hl ((x.to).toNat)).xs.map HLay.v))) own75 rfl rfl rfl rfl (fun _ u96 => (by have zu96 := u96.size; have hrf := row_few hst (i := ((x.to).toNat)) (by omega); exact (rTons_c (nth R.hl ((x.to).toNat)).xs ((nth R.hl ((x.to).toNat)).ao) (nth R.hl ((x.to).toNat)).g 0 ((nth R.hl ((x.to).toNat)).cp) _ ((hR.lays (nth R.hl ((x.to).toNat)) (nth_mem (by omega))).1.keep (E82.nx u96) (fun _ h => h)) hrf.1 hrf.2.1))) (p_field Try.underlying41 rfl Try.sizeOf3 (5) rfl rfl rfl rfl (p_load Try.isAgg3 rfl rfl rfl (B94.get rfl) (p_ari rfl rfl rfl rfl rfl (by omega) (p_field Try.underlying25 rfl Try.sizeOf23 (1) rfl rfl rfl rfl ?_))))))
 have B98 := (((((B18.kx u21).kx u45).kx u51).kx u57).kx u81)
 refine p_load Try.isAgg23 rfl rfl rfl (B98.get rfl) (p_field Try.underlying41 rfl Try.sizeOf3 (4) rfl rfl rfl rfl (p_load Try.isAgg3 rfl rfl rfl (B94.get rfl) ?_))
 have i99 : (x.to).toNat < hs.length := (by omega)
 refine p_index (j := (x.to).toNat) Try.underlying23 Try.sizeOf90 rfl rfl rfl rfl ((hhs.keep E82 (fun _ h => h)).addr (by omega)) (by omega) i99 (p_field Try.underlying90 rfl Try.sizeOf3 (oh + (x.to).toNat * 2 + 1) rfl rfl rfl rfl (p_load Try.isAgg3 rfl rfl rfl (((hhs.keep E82 (fun _ h => h)).at_ ((x.to).toNat) (by omega)) 1 _ rfl) (p_cmp rfl rfl rfl rfl rfl (p_pick_t rfl rfl rfl rfl (p_nil fun w100 u101 => ?_)))))
 have zu101 := u101.size
 have E102 := E82.nx u101
 refine t_nil' (hK85 _ _ (c_condp rfl (fun g220 => ?_) (fun g220 => ?_)))
 ·
  refine c_seq fun K103 hK103 => (c_region (t_assign rfl rfl rfl (t_nil' (hK103 _ _ (c_ret (f_ret1 (v := .int .i64 8) Try.results49 rfl ?_))))))
  have hH : ∀ i, i < R.hl.length → nth R.st.hold i = (nth R.hl i).xs.map HLay.v := fun i hi => nth_map (fun r : RowL => r.xs.map HLay.v) hi
  have hC : ∀ i, i < hs.length → nth (hs.map Hld.cap) i = (nth hs i).cap := fun i hi => nth_map Hld.cap hi
  have hv9 : chkP bs (hs.map Hld.cap) R.st mi x = 8 := by
    rw [chk2 hk (by omega),
      if_neg (show ¬ (x.minute < mi) by omega),
      if_neg (show ¬ (((hs.map Hld.cap).length : Int) ≤ x.frm) by rw [List.length_map]; omega),
      if_neg (show ¬ (((hs.map Hld.cap).length : Int) ≤ x.to) by rw [List.length_map]; omega),
      if_neg (show ¬ (x.frm = x.to) by omega),
      if_neg (show ¬ (nth R.st.sealed (x.frm).toNat = true) by show ¬ (nth R.sl (x.frm).toNat = true); intro h; have e : nth R.sl (x.frm).toNat = false := (by assumption); rw [show _ = false from e] at h; cases h),
      if_neg (show ¬ (nth R.st.sealed (x.to).toNat = true) by show ¬ (nth R.sl (x.to).toNat = true); intro h; have e : nth R.sl (x.to).toNat = false := (by assumption); rw [show _ = false from e] at h; cases h),
      if_neg (show ¬ (sumT (nth R.st.hold (x.frm).toNat) < x.tons) by rw [hH _ (by omega)]; omega),
      if_pos (show nth (hs.map Hld.cap) (x.to).toNat < sumT (nth R.st.hold (x.to).toNat) + x.tons by rw [hC _ (by omega), hH _ (by omega)]; omega)]
  exact ⟨congrArg (Value.int .i64) hv9.symm, E102⟩
 refine c_skip (hK84 _ _ (c_seq fun K104 hK104 => (c_region (t_assign rfl rfl rfl (t_nil' (hK104 _ _ (c_ret (f_ret1 (v := .int .i64 0) Try.results49 rfl ?_))))))))
 have hH : ∀ i, i < R.hl.length → nth R.st.hold i = (nth R.hl i).xs.map HLay.v := fun i hi => nth_map (fun r : RowL => r.xs.map HLay.v) hi
 have hC : ∀ i, i < hs.length → nth (hs.map Hld.cap) i = (nth hs i).cap := fun i hi => nth_map Hld.cap hi
 have hv9 : chkP bs (hs.map Hld.cap) R.st mi x = 0 := by
   rw [chk2 hk (by omega),
     if_neg (show ¬ (x.minute < mi) by omega),
     if_neg (show ¬ (((hs.map Hld.cap).length : Int) ≤ x.frm) by rw [List.length_map]; omega),
     if_neg (show ¬ (((hs.map Hld.cap).length : Int) ≤ x.to) by rw [List.length_map]; omega),
     if_neg (show ¬ (x.frm = x.to) by omega),
     if_neg (show ¬ (nth R.st.sealed (x.frm).toNat = true) by show ¬ (nth R.sl (x.frm).toNat = true); intro h; have e : nth R.sl (x.frm).toNat = false := (by assumption); rw [show _ = false from e] at h; cases h),
     if_neg (show ¬ (nth R.st.sealed (x.to).toNat = true) by show ¬ (nth R.sl (x.to).toNat = true); intro h; have e : nth R.sl (x.to).toNat = false := (by assumption); rw [show _ = false from e] at h; cases h),
     if_neg (show ¬ (sumT (nth R.st.hold (x.frm).toNat) < x.tons) by rw [hH _ (by omega)]; omega),
     if_neg (show ¬ (nth (hs.map Hld.cap) (x.to).toNat < sumT (nth R.st.hold (x.to).toNat) + x.tons) by rw [hC _ (by omega), hH _ (by omega)]; omega)]
 exact ⟨congrArg (Value.int .i64) hv9.symm, E102⟩

set_option maxHeartbeats 4000000 in
theorem Cannot3_c (bs : List Bil) (ab : Option Addr) (bb ob cb : Nat) (hs : List Hld) (ah : Option Addr) (bh oh ch : Nat) (mi : Int) (R : RG) (n : Nat) (x : Ev) (w0 : World) (hbs : Sl encBil 3 w0 ab bb ob bs) (hhs : Sl encHld 2 w0 ah bh oh hs) (hbl : bs.length ≤ 1000000) (hhl : hs.length ≤ 1000000) (hR : RM w0 R) (hst : StOk bs (hs.map Hld.cap) n R.st) (hx : okEv x = true) (hse : R.se.length ≤ 1000000) (hmi : 0 ≤ mi ∧ mi ≤ 1000000) (hk : x.kind = 3) :
    CallsV Try.prog 49 [.agg #[.slice ab bs.length cb, .slice ah hs.length ch], .agg #[.slice R.ha R.hl.length R.hc, .slice R.sa R.sl.length R.sc, .slice R.la R.ld.length R.lc, .slice R.da R.lo.length R.dc, .slice R.ea R.se.length R.ec], .agg #[.int .i64 3, .int .i64 x.minute, .int .i64 x.bill, .int .i64 x.frm, .int .i64 x.to, .int .i64 x.tons, .int .i64 x.port, .int .i64 x.sn], .int .i64 mi] w0 (fun v w' => v = .int .i64 (chkP bs (hs.map Hld.cap) R.st mi x) ∧ Ext w0 w') := by
 have hr := okEv_rng hx
 have hn1 : R.hl.length = (hs.map Hld.cap).length := by have h := hst.hn; rwa [show R.st.hold.length = R.hl.length from List.length_map _] at h
 have hn2 : R.sl.length = (hs.map Hld.cap).length := hst.sn
 have hn3 : R.lo.length = bs.length := hst.lsn
 have hn4 := hst.bn
 have hn5 := hst.h20
 rw [List.length_map] at hn1 hn2 hn5
 refine f_enter (N := 221) Try.func49 rfl rfl rfl (c_seq fun K1 hK1 => (c_region (t_box (cs := [.slice ab bs.length cb, .slice ah hs.length ch]) rfl rfl rfl rfl (fun bk2 w3 ebk2 sbk2 B4 u5 => ?_))))
 have zu5 := u5.size
 refine t_box (cs := [.slice R.ha R.hl.length R.hc, .slice R.sa R.sl.length R.sc, .slice R.la R.ld.length R.lc, .slice R.da R.lo.length R.dc, .slice R.ea R.se.length R.ec]) rfl rfl rfl rfl (fun bk7 w8 ebk7 sbk7 B9 u10 => ?_)
 have zu10 := u10.size
 refine t_box (cs := [.int .i64 3, .int .i64 x.minute, .int .i64 x.bill, .int .i64 x.frm, .int .i64 x.to, .int .i64 x.tons, .int .i64 x.port, .int .i64 x.sn]) rfl rfl rfl rfl (fun bk12 w13 ebk12 sbk12 B14 u15 => ?_)
 have zu15 := u15.size
 refine t_assign rfl rfl rfl (t_nil' (hK1 _ _ (c_seq fun K17 hK17 => (c_region (t_field Try.underlying25 rfl Try.sizeOf23 (1) rfl rfl rfl rfl ?_)))))
 have B18 := ((B4.kx u10).kx u15)
 refine t_load Try.isAgg23 rfl rfl rfl (B18.get rfl) (t_len Try.underlying23 rfl rfl rfl rfl (t_assign rfl rfl rfl (t_nil' (hK17 _ _ (c_seq fun K19 hK19 => (c_drawnQ follows (by kernel_rfl) (p_field Try.underlying41 rfl Try.sizeOf39 (0) rfl rfl rfl rfl (p_load Try.isAgg39 rfl rfl rfl (B14.get rfl) (p_cmp rfl rfl rfl rfl rfl (p_samehd (v := .bool false) rfl (p_move rfl rfl rfl (p_field Try.underlying41 rfl Try.sizeOf39 (0) rfl rfl rfl rfl (p_load Try.isAgg39 rfl rfl rfl (B14.get rfl) (p_cmp rfl rfl rfl rfl rfl (p_samehd (v := .bool true) rfl (p_pick_f rfl rfl rfl rfl (p_move rfl rfl rfl (p_skip rfl rfl rfl (p_skip rfl rfl rfl (p_skip rfl rfl rfl (p_pick_t rfl rfl rfl rfl (p_field Try.underlying41 rfl Try.sizeOf39 (0) rfl rfl rfl rfl (p_load Try.isAgg39 rfl rfl rfl (B14.get rfl) ?_)))))))))))))))))))))))
 refine p_cmp rfl rfl rfl rfl rfl (p_samehd (v := .bool false) rfl (p_move rfl rfl rfl (p_field Try.underlying41 rfl Try.sizeOf39 (0) rfl rfl rfl rfl (p_load Try.isAgg39 rfl rfl rfl (B14.get rfl) (p_cmp rfl rfl rfl rfl rfl (p_samehd (v := .bool false) rfl (p_pick_f rfl rfl rfl rfl (p_move rfl rfl rfl (p_field Try.underlying41 rfl Try.sizeOf39 (0) rfl rfl rfl rfl (p_load Try.isAgg39 rfl rfl rfl (B14.get rfl) (p_cmp rfl rfl rfl rfl rfl (p_samehd (v := .bool false) rfl (p_pick_f rfl rfl rfl rfl (p_assign rfl rfl rfl (p_assign rfl rfl rfl (p_nil fun w20 u21 => ?_))))))))))))))))
 have zu21 := u21.size
 have E22 := ((((Upd.refl (fun _ => False) w0).nx u5).nx u10).nx u15).nx u21
 refine t_nil' (hK19 _ _ (c_seq fun K23 hK23 => (c_region (t_field Try.underlying41 rfl Try.sizeOf39 (0) rfl rfl rfl rfl ?_))))
 have B24 := (B14.kx u21)
 refine t_load Try.isAgg39 rfl rfl rfl (B24.get rfl) (t_cmp rfl rfl rfl rfl rfl (t_samehd (v := .bool true) rfl (t_assign rfl rfl rfl (t_nil' (hK23 _ _ (c_seq fun K25 hK25 => (c_block (c_seq fun K26 hK26 => (c_region (t_field Try.underlying41 rfl Try.sizeOf3 (1) rfl rfl rfl rfl (t_load Try.isAgg3 rfl rfl rfl (B24.get rfl) (t_move rfl rfl rfl (t_cmp rfl rfl rfl rfl rfl (t_assign rfl rfl rfl (t_nil' (hK26 _ _ (c_condp rfl (fun g46 => ?_) (fun g46 => ?_))))))))))))))))))
 ·
  refine c_seq fun K27 hK27 => (c_region (t_assign rfl rfl rfl (t_nil' (hK27 _ _ (c_ret (f_ret1 (v := .int .i64 9) Try.results49 rfl ?_))))))
  have hH : ∀ i, i < R.hl.length → nth R.st.hold i = (nth R.hl i).xs.map HLay.v := fun i hi => nth_map (fun r : RowL => r.xs.map HLay.v) hi
  have hC : ∀ i, i < hs.length → nth (hs.map Hld.cap) i = (nth hs i).cap := fun i hi => nth_map Hld.cap hi
  have hv9 : chkP bs (hs.map Hld.cap) R.st mi x = 9 := by
    rw [chk3 hk ,
      if_pos (show x.minute < mi by omega)]
  exact ⟨congrArg (Value.int .i64) hv9.symm, E22⟩
 refine c_seq fun K28 hK28 => (c_seq fun K29 hK29 => (c_region (t_field Try.underlying41 rfl Try.sizeOf39 (0) rfl rfl rfl rfl (t_load Try.isAgg39 rfl rfl rfl (B24.get rfl) (t_cmp rfl rfl rfl rfl rfl (t_samehd (v := .bool false) rfl (t_move rfl rfl rfl (t_skip rfl rfl rfl (t_skip rfl rfl rfl (t_skip rfl rfl rfl (t_skip rfl rfl rfl (t_skip rfl rfl rfl (t_skip rfl rfl rfl (t_pick_f rfl rfl rfl rfl (t_assign rfl rfl rfl (t_nil' (hK29 _ _ (c_cond_f rfl (c_seq fun K30 hK30 => (c_region (t_move rfl rfl rfl (t_move rfl rfl rfl (t_field Try.underlying41 rfl Try.sizeOf3 (3) rfl rfl rfl rfl ?_)))))))))))))))))))))))
 refine t_load Try.isAgg3 rfl rfl rfl (B24.get rfl) (t_move rfl rfl rfl (t_cmp rfl rfl rfl rfl rfl (t_pick_t rfl rfl rfl rfl (t_assign rfl rfl rfl (t_nil' (hK30 _ _ (c_condp rfl (fun g51 => ?_) (fun g51 => ?_))))))))
 ·
  refine c_same 51 (v := .bool true) rfl (congrArg Value.bool (decide_eq_true g51)) (c_skip (hK28 _ _ (c_cond_t rfl (c_seq fun K31 hK31 => (c_region (t_assign rfl rfl rfl (t_nil' (hK31 _ _ (c_ret (f_ret1 (v := .int .i64 7) Try.results49 rfl ?_))))))))))
  have hH : ∀ i, i < R.hl.length → nth R.st.hold i = (nth R.hl i).xs.map HLay.v := fun i hi => nth_map (fun r : RowL => r.xs.map HLay.v) hi
  have hC : ∀ i, i < hs.length → nth (hs.map Hld.cap) i = (nth hs i).cap := fun i hi => nth_map Hld.cap hi
  have hv9 : chkP bs (hs.map Hld.cap) R.st mi x = 7 := by
    rw [chk3 hk ,
      if_neg (show ¬ (x.minute < mi) by omega),
      if_pos (show ((hs.map Hld.cap).length : Int) ≤ x.frm by rw [List.length_map]; omega)]
  exact ⟨congrArg (Value.int .i64) hv9.symm, E22⟩
 refine c_region (t_move rfl rfl rfl (t_move rfl rfl rfl (t_skip rfl rfl rfl (t_skip rfl rfl rfl (t_skip rfl rfl rfl (t_skip rfl rfl rfl (t_pick_f rfl rfl rfl rfl (t_assign rfl rfl rfl (t_nil' (hK28 _ _ (c_cond_f rfl (c_seq fun K32 hK32 => (c_region (t_field Try.underlying41 rfl Try.sizeOf39 (0) rfl rfl rfl rfl (t_load Try.isAgg39 rfl rfl rfl (B24.get rfl) (t_cmp rfl rfl rfl rfl rfl (t_samehd (v := .bool false) rfl (t_move rfl rfl rfl (t_skip rfl rfl rfl (t_skip rfl rfl rfl (t_skip rfl rfl rfl (t_skip rfl rfl rfl (t_skip rfl rfl rfl ?_)))))))))))))))))))))))
 refine t_pick_f rfl rfl rfl rfl (t_assign rfl rfl rfl (t_nil' (hK32 _ _ (c_cond_f rfl (c_seq fun K33 hK33 => (c_seq fun K34 hK34 => (c_region (t_move rfl rfl rfl (t_move rfl rfl rfl (t_move rfl rfl rfl (t_pick_t rfl rfl rfl rfl (t_move rfl rfl rfl (t_field Try.underlying47 rfl Try.sizeOf43 (1) rfl rfl rfl rfl ?_)))))))))))))
 have B35 := ((B9.kx u15).kx u21)
 refine t_load Try.isAgg43 rfl rfl rfl (B35.get rfl) (t_field Try.underlying41 rfl Try.sizeOf3 (3) rfl rfl rfl rfl (t_load Try.isAgg3 rfl rfl rfl (B24.get rfl) ?_))
 have i36 : (x.frm).toNat < R.sl.length := (by omega)
 refine t_index (j := (x.frm).toNat) Try.underlying43 Try.sizeOf4 rfl rfl rfl rfl ((hR.shut.keep E22 (fun _ h => h)).addr (by omega)) (by omega) i36 (t_load Try.isAgg4 rfl rfl rfl (((hR.shut.keep E22 (fun _ h => h)).at_ ((x.frm).toNat) (by omega)) 0 _ rfl) (t_pick_t rfl rfl rfl rfl (t_assign rfl rfl rfl (t_nil' (hK34 _ _ (c_cond rfl (fun g88 => ?_) (fun g88 => ?_)))))))
 ·
  refine c_same 88 (v := .bool true) rfl (congrArg Value.bool g88) (c_skip (hK33 _ _ (c_cond_t rfl (c_seq fun K37 hK37 => (c_region (t_assign rfl rfl rfl (t_nil' (hK37 _ _ (c_ret (f_ret1 (v := .int .i64 9) Try.results49 rfl ?_))))))))))
  have hH : ∀ i, i < R.hl.length → nth R.st.hold i = (nth R.hl i).xs.map HLay.v := fun i hi => nth_map (fun r : RowL => r.xs.map HLay.v) hi
  have hC : ∀ i, i < hs.length → nth (hs.map Hld.cap) i = (nth hs i).cap := fun i hi => nth_map Hld.cap hi
  have hv9 : chkP bs (hs.map Hld.cap) R.st mi x = 9 := by
    rw [chk3 hk ,
      if_neg (show ¬ (x.minute < mi) by omega),
      if_neg (show ¬ (((hs.map Hld.cap).length : Int) ≤ x.frm) by rw [List.length_map]; omega),
      if_pos (show nth R.st.sealed (x.frm).toNat = true by show nth R.sl (x.frm).toNat = true; assumption)]
  exact ⟨congrArg (Value.int .i64) hv9.symm, E22⟩
 refine c_seq fun K38 hK38 => (c_region (t_move rfl rfl rfl (t_move rfl rfl rfl (t_skip rfl rfl rfl (t_skip rfl rfl rfl (t_skip rfl rfl rfl (t_skip rfl rfl rfl (t_skip rfl rfl rfl (t_skip rfl rfl rfl (t_pick_f rfl rfl rfl rfl (t_assign rfl rfl rfl (t_nil' (hK38 _ _ (c_cond_f rfl (c_region (t_field Try.underlying41 rfl Try.sizeOf39 (0) rfl rfl rfl rfl (t_load Try.isAgg39 rfl rfl rfl (B24.get rfl) (t_cmp rfl rfl rfl rfl rfl (t_samehd (v := .bool false) rfl (t_move rfl rfl rfl (t_skip rfl rfl rfl (t_skip rfl rfl rfl (t_skip rfl rfl rfl ?_)))))))))))))))))))))))
 refine t_skip rfl rfl rfl (t_skip rfl rfl rfl (t_skip rfl rfl rfl (t_skip rfl rfl rfl (t_pick_f rfl rfl rfl rfl (t_assign rfl rfl rfl (t_nil' (hK33 _ _ (c_cond_f rfl (c_seq fun K39 hK39 => (c_drawnQ follows (by kernel_rfl) (p_field Try.underlying41 rfl Try.sizeOf39 (0) rfl rfl rfl rfl (p_load Try.isAgg39 rfl rfl rfl (B24.get rfl) (p_cmp rfl rfl rfl rfl rfl (p_samehd (v := .bool false) rfl (p_move rfl rfl rfl (p_skip rfl rfl rfl (p_skip rfl rfl rfl (p_skip rfl rfl rfl (p_skip rfl rfl rfl (p_skip rfl rfl rfl (p_skip rfl rfl rfl (p_skip rfl rfl rfl (p_skip rfl rfl rfl ?_)))))))))))))))))))))))
 refine p_skip rfl rfl rfl (p_skip rfl rfl rfl (p_pick_f rfl rfl rfl rfl (p_assign rfl rfl rfl (p_nil fun w40 u41 => ?_))))
 have zu41 := u41.size
 refine t_nil' (hK39 _ _ (c_cond_f rfl (c_seq fun K43 hK43 => (c_drawnQ follows (by kernel_rfl) (p_field Try.underlying41 rfl Try.sizeOf39 (0) rfl rfl rfl rfl ?_)))))
 have B45 := (B24.kx u41)
 refine p_load Try.isAgg39 rfl rfl rfl (B45.get rfl) (p_cmp rfl rfl rfl rfl rfl (p_samehd (v := .bool false) rfl (p_move rfl rfl rfl (p_skip rfl rfl rfl (p_skip rfl rfl rfl (p_skip rfl rfl rfl (p_skip rfl rfl rfl (p_skip rfl rfl rfl (p_skip rfl rfl rfl (p_skip rfl rfl rfl (p_skip rfl rfl rfl (p_skip rfl rfl rfl (p_skip rfl rfl rfl (p_skip rfl rfl rfl (p_skip rfl rfl rfl (p_skip rfl rfl rfl (p_skip rfl rfl rfl (p_skip rfl rfl rfl (p_skip rfl rfl rfl (p_skip rfl rfl rfl (p_pick_f rfl rfl rfl rfl (p_assign rfl rfl rfl (p_nil fun w46 u47 => ?_)))))))))))))))))))))))
 have zu47 := u47.size
 refine t_nil' (hK43 _ _ (c_cond_f rfl (c_skip (hK25 _ _ (c_seq fun K49 hK49 => (c_seq fun K50 hK50 => (c_region (t_assign rfl rfl rfl (t_nil' (hK50 _ _ (c_block (c_loop (γ := Nat) (fun k => [(4, .pointer (some ⟨bk2, 0, none⟩)), (5, .pointer (some ⟨bk7, 0, none⟩)), (6, .pointer (some ⟨bk12, 0, none⟩)), (10, .bool true), (11, .bool false), (12, .bool true), (13, .int .i64 (k : Int))]) (fun k w => Upd (fun _ => False) w46 w ∧ (k ≤ R.se.length)) (fun k => R.se.length - k) 0 ⟨rfl, rfl, rfl, rfl, rfl, rfl, rfl, trivial⟩ ⟨Upd.refl _ _, (Nat.zero_le _)⟩ ?_))))))))))))
 intro k w52 hW K51 hK51
 obtain ⟨u53, I54⟩ := hW
 have zu53 := u53.size
 have E55 := ((E22.nx u41).nx u47).nx u53
 have hkk := I54; clear I54
 refine c_seq fun K56 hK56 => (c_seq fun K57 hK57 => (c_region (t_move rfl rfl rfl (t_field Try.underlying47 rfl Try.sizeOf45 (4) rfl rfl rfl rfl ?_))))
 have B58 := (((B35.kx u41).kx u47).kx u53)
 refine t_load Try.isAgg45 rfl rfl rfl (B58.get rfl) (t_len Try.underlying45 rfl rfl rfl rfl (t_cmp rfl rfl rfl rfl rfl (t_nil' (hK57 _ _ (c_condp rfl (fun g165 => ?_) (fun g165 => ?_))))))
 ·
  refine c_skip (hK56 _ _ (c_seq fun K59 hK59 => (c_block (c_seq fun K60 hK60 => (c_drawnQ follows (by kernel_rfl) (p_field Try.underlying41 rfl Try.sizeOf39 (0) rfl rfl rfl rfl ?_))))))
  have B62 := ((B45.kx u47).kx u53)
  refine p_load Try.isAgg39 rfl rfl rfl (B62.get rfl) (p_cmp rfl rfl rfl rfl rfl (p_samehd (v := .bool false) rfl (p_move rfl rfl rfl (p_skip rfl rfl rfl (p_skip rfl rfl rfl (p_skip rfl rfl rfl (p_skip rfl rfl rfl (p_skip rfl rfl rfl (p_skip rfl rfl rfl (p_skip rfl rfl rfl (p_skip rfl rfl rfl (p_pick_f rfl rfl rfl rfl (p_nil fun w63 u64 => ?_)))))))))))))
  have zu64 := u64.size
  refine t_nil' (hK60 _ _ (c_cond_f rfl (c_skip (hK59 _ _ (c_region (t_move rfl rfl rfl (t_ari rfl rfl rfl rfl rfl (by omega) (t_assign rfl rfl rfl (t_nil' ?_)))))))))
  exact hK51 (k + 1) _ _ (by omega) ⟨rfl, rfl, rfl, rfl, rfl, rfl, rfl, trivial⟩ ⟨(u53.next u64 (fun _ _ h => h.elim)), (by omega)⟩
 refine c_exit (hK49 _ _ (c_seq fun K66 hK66 => (c_seq fun K67 hK67 => (c_drawnQ follows (by kernel_rfl) (p_move rfl rfl rfl (p_move rfl rfl rfl (p_move rfl rfl rfl (p_pick_t rfl rfl rfl rfl (p_move rfl rfl rfl (p_field Try.underlying47 rfl Try.sizeOf33 (0) rfl rfl rfl rfl (p_load Try.isAgg33 rfl rfl rfl (B58.get rfl) (p_field Try.underlying41 rfl Try.sizeOf3 (3) rfl rfl rfl rfl ?_))))))))))))
 have B72 := ((B45.kx u47).kx u53)
 refine p_load Try.isAgg3 rfl rfl rfl (B72.get rfl) ?_
 have i73 : (x.frm).toNat < R.hl.length := (by omega)
 refine p_index (j := (x.frm).toNat) Try.underlying33 Try.sizeOf36 rfl rfl rfl rfl ((hR.hold.keep E55 (fun _ h => h)).addr (by omega)) (by omega) i73 (p_load Try.isAgg36 rfl rfl rfl (((hR.hold.keep E55 (fun _ h => h)).at_ ((x.frm).toNat) (by omega)) 0 _ rfl) (p_call (v := .int .i64 (sumT ((nth R.hl ((x.frm).toNat)).xs.map HLay.v))) own75 rfl rfl rfl rfl (fun _ u74 => (by have zu74 := u74.size; have hrf := row_few hst (i := ((x.frm).toNat)) (by omega); exact (rTons_c (nth R.hl ((x.frm).toNat)).xs ((nth R.hl ((x.frm).toNat)).ao) (nth R.hl ((x.frm).toNat)).g 0 ((nth R.hl ((x.frm).toNat)).cp) _ ((hR.lays (nth R.hl ((x.frm).toNat)) (nth_mem (by omega))).1.keep (E55.nx u74) (fun _ h => h)) hrf.1 hrf.2.1))) (p_field Try.underlying41 rfl Try.sizeOf3 (5) rfl rfl rfl rfl (p_load Try.isAgg3 rfl rfl rfl (B72.get rfl) (p_cmp rfl rfl rfl rfl rfl (p_pick_t rfl rfl rfl rfl (p_nil fun w76 u77 => ?_)))))))
 have zu77 := u77.size
 have E78 := E55.nx u77
 refine t_nil' (hK67 _ _ (c_condp rfl (fun g196 => ?_) (fun g196 => ?_)))
 ·
  refine c_seq fun K79 hK79 => (c_region (t_assign rfl rfl rfl (t_nil' (hK79 _ _ (c_ret (f_ret1 (v := .int .i64 3) Try.results49 rfl ?_))))))
  have hH : ∀ i, i < R.hl.length → nth R.st.hold i = (nth R.hl i).xs.map HLay.v := fun i hi => nth_map (fun r : RowL => r.xs.map HLay.v) hi
  have hC : ∀ i, i < hs.length → nth (hs.map Hld.cap) i = (nth hs i).cap := fun i hi => nth_map Hld.cap hi
  have hv9 : chkP bs (hs.map Hld.cap) R.st mi x = 3 := by
    rw [chk3 hk ,
      if_neg (show ¬ (x.minute < mi) by omega),
      if_neg (show ¬ (((hs.map Hld.cap).length : Int) ≤ x.frm) by rw [List.length_map]; omega),
      if_neg (show ¬ (nth R.st.sealed (x.frm).toNat = true) by show ¬ (nth R.sl (x.frm).toNat = true); intro h; have e : nth R.sl (x.frm).toNat = false := (by assumption); rw [show _ = false from e] at h; cases h),
      if_pos (show sumT (nth R.st.hold (x.frm).toNat) < x.tons by rw [hH _ (by omega)]; omega)]
  exact ⟨congrArg (Value.int .i64) hv9.symm, E78⟩
 refine c_skip (hK66 _ _ (c_seq fun K80 hK80 => (c_seq fun K81 hK81 => (c_drawnQ follows (by kernel_rfl) (p_move rfl rfl rfl (p_move rfl rfl rfl (p_move rfl rfl rfl (p_pick_t rfl rfl rfl rfl (p_move rfl rfl rfl (p_skip rfl rfl rfl (p_skip rfl rfl rfl (p_skip rfl rfl rfl (p_skip rfl rfl rfl (p_skip rfl rfl rfl (p_skip rfl rfl rfl (p_skip rfl rfl rfl (p_skip rfl rfl rfl (p_skip rfl rfl rfl (p_skip rfl rfl rfl (p_skip rfl rfl rfl (p_skip rfl rfl rfl (p_skip rfl rfl rfl (p_skip rfl rfl rfl ?_)))))))))))))))))))))))
 refine p_skip rfl rfl rfl (p_skip rfl rfl rfl (p_skip rfl rfl rfl (p_skip rfl rfl rfl (p_pick_f rfl rfl rfl rfl (p_nil fun w82 u83 => ?_)))))
 have zu83 := u83.size
 refine t_nil' (hK81 _ _ (c_cond_f rfl (c_skip (hK80 _ _ (c_seq fun K85 hK85 => (c_region (t_assign rfl rfl rfl (t_nil' (hK85 _ _ (c_ret (f_ret1 (v := .int .i64 0) Try.results49 rfl ?_)))))))))))
 have hH : ∀ i, i < R.hl.length → nth R.st.hold i = (nth R.hl i).xs.map HLay.v := fun i hi => nth_map (fun r : RowL => r.xs.map HLay.v) hi
 have hC : ∀ i, i < hs.length → nth (hs.map Hld.cap) i = (nth hs i).cap := fun i hi => nth_map Hld.cap hi
 have hv9 : chkP bs (hs.map Hld.cap) R.st mi x = 0 := by
   rw [chk3 hk ,
     if_neg (show ¬ (x.minute < mi) by omega),
     if_neg (show ¬ (((hs.map Hld.cap).length : Int) ≤ x.frm) by rw [List.length_map]; omega),
     if_neg (show ¬ (nth R.st.sealed (x.frm).toNat = true) by show ¬ (nth R.sl (x.frm).toNat = true); intro h; have e : nth R.sl (x.frm).toNat = false := (by assumption); rw [show _ = false from e] at h; cases h),
     if_neg (show ¬ (sumT (nth R.st.hold (x.frm).toNat) < x.tons) by rw [hH _ (by omega)]; omega)]
 exact ⟨congrArg (Value.int .i64) hv9.symm, (E78.nx u83)⟩

set_option maxHeartbeats 4000000 in
theorem Cannot4_c (bs : List Bil) (ab : Option Addr) (bb ob cb : Nat) (hs : List Hld) (ah : Option Addr) (bh oh ch : Nat) (mi : Int) (R : RG) (n : Nat) (x : Ev) (w0 : World) (hbs : Sl encBil 3 w0 ab bb ob bs) (hhs : Sl encHld 2 w0 ah bh oh hs) (hbl : bs.length ≤ 1000000) (hhl : hs.length ≤ 1000000) (hR : RM w0 R) (hst : StOk bs (hs.map Hld.cap) n R.st) (hx : okEv x = true) (hse : R.se.length ≤ 1000000) (hmi : 0 ≤ mi ∧ mi ≤ 1000000) (hk : x.kind = 4) :
    CallsV Try.prog 49 [.agg #[.slice ab bs.length cb, .slice ah hs.length ch], .agg #[.slice R.ha R.hl.length R.hc, .slice R.sa R.sl.length R.sc, .slice R.la R.ld.length R.lc, .slice R.da R.lo.length R.dc, .slice R.ea R.se.length R.ec], .agg #[.int .i64 4, .int .i64 x.minute, .int .i64 x.bill, .int .i64 x.frm, .int .i64 x.to, .int .i64 x.tons, .int .i64 x.port, .int .i64 x.sn], .int .i64 mi] w0 (fun v w' => v = .int .i64 (chkP bs (hs.map Hld.cap) R.st mi x) ∧ Ext w0 w') := by
 have hr := okEv_rng hx
 have hn1 : R.hl.length = (hs.map Hld.cap).length := by have h := hst.hn; rwa [show R.st.hold.length = R.hl.length from List.length_map _] at h
 have hn2 : R.sl.length = (hs.map Hld.cap).length := hst.sn
 have hn3 : R.lo.length = bs.length := hst.lsn
 have hn4 := hst.bn
 have hn5 := hst.h20
 rw [List.length_map] at hn1 hn2 hn5
 refine f_enter (N := 221) Try.func49 rfl rfl rfl (c_seq fun K1 hK1 => (c_region (t_box (cs := [.slice ab bs.length cb, .slice ah hs.length ch]) rfl rfl rfl rfl (fun bk2 w3 ebk2 sbk2 B4 u5 => ?_))))
 have zu5 := u5.size
 refine t_box (cs := [.slice R.ha R.hl.length R.hc, .slice R.sa R.sl.length R.sc, .slice R.la R.ld.length R.lc, .slice R.da R.lo.length R.dc, .slice R.ea R.se.length R.ec]) rfl rfl rfl rfl (fun bk7 w8 ebk7 sbk7 B9 u10 => ?_)
 have zu10 := u10.size
 refine t_box (cs := [.int .i64 4, .int .i64 x.minute, .int .i64 x.bill, .int .i64 x.frm, .int .i64 x.to, .int .i64 x.tons, .int .i64 x.port, .int .i64 x.sn]) rfl rfl rfl rfl (fun bk12 w13 ebk12 sbk12 B14 u15 => ?_)
 have zu15 := u15.size
 refine t_assign rfl rfl rfl (t_nil' (hK1 _ _ (c_seq fun K17 hK17 => (c_region (t_field Try.underlying25 rfl Try.sizeOf23 (1) rfl rfl rfl rfl ?_)))))
 have B18 := ((B4.kx u10).kx u15)
 refine t_load Try.isAgg23 rfl rfl rfl (B18.get rfl) (t_len Try.underlying23 rfl rfl rfl rfl (t_assign rfl rfl rfl (t_nil' (hK17 _ _ (c_seq fun K19 hK19 => (c_drawnQ follows (by kernel_rfl) (p_field Try.underlying41 rfl Try.sizeOf39 (0) rfl rfl rfl rfl (p_load Try.isAgg39 rfl rfl rfl (B14.get rfl) (p_cmp rfl rfl rfl rfl rfl (p_samehd (v := .bool false) rfl (p_move rfl rfl rfl (p_field Try.underlying41 rfl Try.sizeOf39 (0) rfl rfl rfl rfl (p_load Try.isAgg39 rfl rfl rfl (B14.get rfl) (p_cmp rfl rfl rfl rfl rfl (p_samehd (v := .bool false) rfl (p_pick_f rfl rfl rfl rfl (p_move rfl rfl rfl (p_field Try.underlying41 rfl Try.sizeOf39 (0) rfl rfl rfl rfl (p_load Try.isAgg39 rfl rfl rfl (B14.get rfl) (p_cmp rfl rfl rfl rfl rfl (p_samehd (v := .bool false) rfl (p_pick_f rfl rfl rfl rfl (p_field Try.underlying41 rfl Try.sizeOf39 (0) rfl rfl rfl rfl ?_)))))))))))))))))))))))
 refine p_load Try.isAgg39 rfl rfl rfl (B14.get rfl) (p_cmp rfl rfl rfl rfl rfl (p_samehd (v := .bool false) rfl (p_move rfl rfl rfl (p_field Try.underlying41 rfl Try.sizeOf39 (0) rfl rfl rfl rfl (p_load Try.isAgg39 rfl rfl rfl (B14.get rfl) (p_cmp rfl rfl rfl rfl rfl (p_samehd (v := .bool false) rfl (p_pick_f rfl rfl rfl rfl (p_move rfl rfl rfl (p_field Try.underlying41 rfl Try.sizeOf39 (0) rfl rfl rfl rfl (p_load Try.isAgg39 rfl rfl rfl (B14.get rfl) (p_cmp rfl rfl rfl rfl rfl (p_samehd (v := .bool true) rfl (p_pick_f rfl rfl rfl rfl (p_assign rfl rfl rfl (p_assign rfl rfl rfl (p_nil fun w20 u21 => ?_)))))))))))))))))
 have zu21 := u21.size
 have E22 := ((((Upd.refl (fun _ => False) w0).nx u5).nx u10).nx u15).nx u21
 refine t_nil' (hK19 _ _ (c_seq fun K23 hK23 => (c_region (t_field Try.underlying41 rfl Try.sizeOf39 (0) rfl rfl rfl rfl ?_))))
 have B24 := (B14.kx u21)
 refine t_load Try.isAgg39 rfl rfl rfl (B24.get rfl) (t_cmp rfl rfl rfl rfl rfl (t_samehd (v := .bool false) rfl (t_assign rfl rfl rfl (t_nil' (hK23 _ _ (c_seq fun K25 hK25 => (c_block (c_seq fun K26 hK26 => (c_region (t_field Try.underlying41 rfl Try.sizeOf3 (1) rfl rfl rfl rfl (t_load Try.isAgg3 rfl rfl rfl (B24.get rfl) (t_move rfl rfl rfl (t_cmp rfl rfl rfl rfl rfl (t_assign rfl rfl rfl (t_nil' (hK26 _ _ (c_condp rfl (fun g46 => ?_) (fun g46 => ?_))))))))))))))))))
 ·
  refine c_seq fun K27 hK27 => (c_region (t_assign rfl rfl rfl (t_nil' (hK27 _ _ (c_ret (f_ret1 (v := .int .i64 9) Try.results49 rfl ?_))))))
  have hH : ∀ i, i < R.hl.length → nth R.st.hold i = (nth R.hl i).xs.map HLay.v := fun i hi => nth_map (fun r : RowL => r.xs.map HLay.v) hi
  have hC : ∀ i, i < hs.length → nth (hs.map Hld.cap) i = (nth hs i).cap := fun i hi => nth_map Hld.cap hi
  have hv9 : chkP bs (hs.map Hld.cap) R.st mi x = 9 := by
    rw [chk4 hk (by omega),
      if_pos (show x.minute < mi by omega)]
  exact ⟨congrArg (Value.int .i64) hv9.symm, E22⟩
 refine c_seq fun K28 hK28 => (c_seq fun K29 hK29 => (c_region (t_field Try.underlying41 rfl Try.sizeOf39 (0) rfl rfl rfl rfl (t_load Try.isAgg39 rfl rfl rfl (B24.get rfl) (t_cmp rfl rfl rfl rfl rfl (t_samehd (v := .bool false) rfl (t_move rfl rfl rfl (t_skip rfl rfl rfl (t_skip rfl rfl rfl (t_skip rfl rfl rfl (t_skip rfl rfl rfl (t_skip rfl rfl rfl (t_skip rfl rfl rfl (t_pick_f rfl rfl rfl rfl (t_assign rfl rfl rfl (t_nil' (hK29 _ _ (c_cond_f rfl (c_seq fun K30 hK30 => (c_region (t_move rfl rfl rfl (t_move rfl rfl rfl (t_skip rfl rfl rfl ?_)))))))))))))))))))))))
 refine t_skip rfl rfl rfl (t_skip rfl rfl rfl (t_skip rfl rfl rfl (t_pick_f rfl rfl rfl rfl (t_assign rfl rfl rfl (t_nil' (hK30 _ _ (c_cond_f rfl (c_region (t_move rfl rfl rfl (t_move rfl rfl rfl (t_field Try.underlying41 rfl Try.sizeOf3 (4) rfl rfl rfl rfl (t_load Try.isAgg3 rfl rfl rfl (B24.get rfl) (t_move rfl rfl rfl (t_cmp rfl rfl rfl rfl rfl (t_pick_t rfl rfl rfl rfl (t_assign rfl rfl rfl (t_nil' (hK28 _ _ (c_condp rfl (fun g51 => ?_) (fun g51 => ?_))))))))))))))))))))
 ·
  refine c_same 51 (v := .bool true) rfl (congrArg Value.bool (decide_eq_true g51)) (c_seq fun K31 hK31 => (c_region (t_assign rfl rfl rfl (t_nil' (hK31 _ _ (c_ret (f_ret1 (v := .int .i64 7) Try.results49 rfl ?_)))))))
  have hH : ∀ i, i < R.hl.length → nth R.st.hold i = (nth R.hl i).xs.map HLay.v := fun i hi => nth_map (fun r : RowL => r.xs.map HLay.v) hi
  have hC : ∀ i, i < hs.length → nth (hs.map Hld.cap) i = (nth hs i).cap := fun i hi => nth_map Hld.cap hi
  have hv9 : chkP bs (hs.map Hld.cap) R.st mi x = 7 := by
    rw [chk4 hk (by omega),
      if_neg (show ¬ (x.minute < mi) by omega),
      if_pos (show ((hs.map Hld.cap).length : Int) ≤ x.to by rw [List.length_map]; omega)]
  exact ⟨congrArg (Value.int .i64) hv9.symm, E22⟩
 refine c_seq fun K32 hK32 => (c_region (t_field Try.underlying41 rfl Try.sizeOf39 (0) rfl rfl rfl rfl (t_load Try.isAgg39 rfl rfl rfl (B24.get rfl) (t_cmp rfl rfl rfl rfl rfl (t_samehd (v := .bool false) rfl (t_move rfl rfl rfl (t_skip rfl rfl rfl (t_skip rfl rfl rfl (t_skip rfl rfl rfl (t_skip rfl rfl rfl (t_skip rfl rfl rfl (t_pick_f rfl rfl rfl rfl (t_assign rfl rfl rfl (t_nil' (hK32 _ _ (c_cond_f rfl (c_seq fun K33 hK33 => (c_seq fun K34 hK34 => (c_region (t_move rfl rfl rfl (t_move rfl rfl rfl (t_skip rfl rfl rfl (t_pick_f rfl rfl rfl rfl ?_)))))))))))))))))))))))
 refine t_move rfl rfl rfl (t_skip rfl rfl rfl (t_skip rfl rfl rfl (t_skip rfl rfl rfl (t_skip rfl rfl rfl (t_skip rfl rfl rfl (t_skip rfl rfl rfl (t_pick_f rfl rfl rfl rfl (t_assign rfl rfl rfl (t_nil' (hK34 _ _ (c_cond_f rfl (c_seq fun K35 hK35 => (c_region (t_move rfl rfl rfl (t_move rfl rfl rfl (t_field Try.underlying47 rfl Try.sizeOf43 (1) rfl rfl rfl rfl ?_))))))))))))))))
 have B36 := ((B9.kx u15).kx u21)
 refine t_load Try.isAgg43 rfl rfl rfl (B36.get rfl) (t_field Try.underlying41 rfl Try.sizeOf3 (4) rfl rfl rfl rfl (t_load Try.isAgg3 rfl rfl rfl (B24.get rfl) ?_))
 have i37 : (x.to).toNat < R.sl.length := (by omega)
 refine t_index (j := (x.to).toNat) Try.underlying43 Try.sizeOf4 rfl rfl rfl rfl ((hR.shut.keep E22 (fun _ h => h)).addr (by omega)) (by omega) i37 (t_load Try.isAgg4 rfl rfl rfl (((hR.shut.keep E22 (fun _ h => h)).at_ ((x.to).toNat) (by omega)) 0 _ rfl) (t_pick_t rfl rfl rfl rfl (t_assign rfl rfl rfl (t_nil' (hK35 _ _ (c_cond rfl (fun g88 => ?_) (fun g88 => ?_)))))))
 ·
  refine c_same 88 (v := .bool true) rfl (congrArg Value.bool g88) (c_skip (hK33 _ _ (c_cond_t rfl (c_seq fun K38 hK38 => (c_region (t_assign rfl rfl rfl (t_nil' (hK38 _ _ (c_ret (f_ret1 (v := .int .i64 9) Try.results49 rfl ?_))))))))))
  have hH : ∀ i, i < R.hl.length → nth R.st.hold i = (nth R.hl i).xs.map HLay.v := fun i hi => nth_map (fun r : RowL => r.xs.map HLay.v) hi
  have hC : ∀ i, i < hs.length → nth (hs.map Hld.cap) i = (nth hs i).cap := fun i hi => nth_map Hld.cap hi
  have hv9 : chkP bs (hs.map Hld.cap) R.st mi x = 9 := by
    rw [chk4 hk (by omega),
      if_neg (show ¬ (x.minute < mi) by omega),
      if_neg (show ¬ (((hs.map Hld.cap).length : Int) ≤ x.to) by rw [List.length_map]; omega),
      if_pos (show nth R.st.sealed (x.to).toNat = true by show nth R.sl (x.to).toNat = true; assumption)]
  exact ⟨congrArg (Value.int .i64) hv9.symm, E22⟩
 refine c_region (t_field Try.underlying41 rfl Try.sizeOf39 (0) rfl rfl rfl rfl (t_load Try.isAgg39 rfl rfl rfl (B24.get rfl) (t_cmp rfl rfl rfl rfl rfl (t_samehd (v := .bool false) rfl (t_move rfl rfl rfl (t_skip rfl rfl rfl (t_skip rfl rfl rfl (t_skip rfl rfl rfl (t_skip rfl rfl rfl (t_skip rfl rfl rfl (t_skip rfl rfl rfl (t_skip rfl rfl rfl (t_pick_f rfl rfl rfl rfl (t_assign rfl rfl rfl (t_nil' (hK33 _ _ (c_cond_f rfl (c_seq fun K39 hK39 => (c_drawnQ follows (by kernel_rfl) (p_field Try.underlying41 rfl Try.sizeOf39 (0) rfl rfl rfl rfl (p_load Try.isAgg39 rfl rfl rfl (B24.get rfl) (p_cmp rfl rfl rfl rfl rfl (p_samehd (v := .bool false) rfl ?_)))))))))))))))))))))))
 refine p_move rfl rfl rfl (p_skip rfl rfl rfl (p_skip rfl rfl rfl (p_skip rfl rfl rfl (p_skip rfl rfl rfl (p_skip rfl rfl rfl (p_skip rfl rfl rfl (p_skip rfl rfl rfl (p_skip rfl rfl rfl (p_skip rfl rfl rfl (p_skip rfl rfl rfl (p_pick_f rfl rfl rfl rfl (p_assign rfl rfl rfl (p_nil fun w40 u41 => ?_)))))))))))))
 have zu41 := u41.size
 refine t_nil' (hK39 _ _ (c_cond_f rfl (c_seq fun K43 hK43 => (c_drawnQ follows (by kernel_rfl) (p_field Try.underlying41 rfl Try.sizeOf39 (0) rfl rfl rfl rfl ?_)))))
 have B45 := (B24.kx u41)
 refine p_load Try.isAgg39 rfl rfl rfl (B45.get rfl) (p_cmp rfl rfl rfl rfl rfl (p_samehd (v := .bool false) rfl (p_move rfl rfl rfl (p_skip rfl rfl rfl (p_skip rfl rfl rfl (p_skip rfl rfl rfl (p_skip rfl rfl rfl (p_skip rfl rfl rfl (p_skip rfl rfl rfl (p_skip rfl rfl rfl (p_skip rfl rfl rfl (p_skip rfl rfl rfl (p_skip rfl rfl rfl (p_skip rfl rfl rfl (p_skip rfl rfl rfl (p_skip rfl rfl rfl (p_skip rfl rfl rfl (p_skip rfl rfl rfl (p_skip rfl rfl rfl (p_skip rfl rfl rfl (p_pick_f rfl rfl rfl rfl (p_assign rfl rfl rfl (p_nil fun w46 u47 => ?_)))))))))))))))))))))))
 have zu47 := u47.size
 refine t_nil' (hK43 _ _ (c_cond_f rfl (c_skip (hK25 _ _ (c_seq fun K49 hK49 => (c_seq fun K50 hK50 => (c_region (t_assign rfl rfl rfl (t_nil' (hK50 _ _ (c_block (c_loop (γ := Nat) (fun k => [(4, .pointer (some ⟨bk2, 0, none⟩)), (5, .pointer (some ⟨bk7, 0, none⟩)), (6, .pointer (some ⟨bk12, 0, none⟩)), (10, .bool false), (11, .bool true), (12, .bool false), (13, .int .i64 (k : Int))]) (fun k w => Upd (fun _ => False) w46 w ∧ (k ≤ R.se.length) ∧ (∀ j, j < k → j < R.se.length → nth R.se j ≠ x.sn)) (fun k => R.se.length - k) 0 ⟨rfl, rfl, rfl, rfl, rfl, rfl, rfl, trivial⟩ ⟨Upd.refl _ _, (Nat.zero_le _), (fun j hj => absurd hj (by omega))⟩ ?_))))))))))))
 intro k w52 hW K51 hK51
 obtain ⟨u53, I54, I55⟩ := hW
 have zu53 := u53.size
 have E56 := ((E22.nx u41).nx u47).nx u53
 have hkk := I54; clear I54
 have hall := I55; clear I55
 refine c_seq fun K57 hK57 => (c_seq fun K58 hK58 => (c_region (t_move rfl rfl rfl (t_field Try.underlying47 rfl Try.sizeOf45 (4) rfl rfl rfl rfl ?_))))
 have B59 := (((B36.kx u41).kx u47).kx u53)
 refine t_load Try.isAgg45 rfl rfl rfl (B59.get rfl) (t_len Try.underlying45 rfl rfl rfl rfl (t_cmp rfl rfl rfl rfl rfl (t_nil' (hK58 _ _ (c_condp rfl (fun g165 => ?_) (fun g165 => ?_))))))
 ·
  refine c_skip (hK57 _ _ (c_seq fun K60 hK60 => (c_block (c_seq fun K61 hK61 => (c_drawnQ follows (by kernel_rfl) (p_field Try.underlying41 rfl Try.sizeOf39 (0) rfl rfl rfl rfl ?_))))))
  have B64 := ((B45.kx u47).kx u53)
  refine p_load Try.isAgg39 rfl rfl rfl (B64.get rfl) (p_cmp rfl rfl rfl rfl rfl (p_samehd (v := .bool true) rfl (p_move rfl rfl rfl (p_field Try.underlying47 rfl Try.sizeOf45 (4) rfl rfl rfl rfl (p_load Try.isAgg45 rfl rfl rfl (B59.get rfl) (p_move rfl rfl rfl ?_))))))
  have i65 : k < R.se.length := (by omega)
  refine p_index (j := k) Try.underlying45 Try.sizeOf3 rfl rfl rfl rfl ((hR.seals.keep E56 (fun _ h => h)).addr (by omega)) rfl i65 (p_load Try.isAgg3 rfl rfl rfl (((hR.seals.keep E56 (fun _ h => h)).at_ k (by omega)) 0 _ rfl) (p_field Try.underlying41 rfl Try.sizeOf3 (7) rfl rfl rfl rfl (p_load Try.isAgg3 rfl rfl rfl (B64.get rfl) (p_cmp rfl rfl rfl rfl rfl (p_pick_t rfl rfl rfl rfl (p_nil fun w66 u67 => ?_))))))
  have zu67 := u67.size
  refine t_nil' (hK61 _ _ (c_condp rfl (fun g180 => ?_) (fun g180 => ?_)))
  ·
   refine c_seq fun K69 hK69 => (c_region (t_assign rfl rfl rfl (t_nil' (hK69 _ _ (c_ret (f_ret1 (v := .int .i64 6) Try.results49 rfl ?_))))))
   have hmem : x.sn ∈ R.se := by rw [← g180]; exact nth_mem (by omega)
   have hH : ∀ i, i < R.hl.length → nth R.st.hold i = (nth R.hl i).xs.map HLay.v := fun i hi => nth_map (fun r : RowL => r.xs.map HLay.v) hi
   have hC : ∀ i, i < hs.length → nth (hs.map Hld.cap) i = (nth hs i).cap := fun i hi => nth_map Hld.cap hi
   have hv9 : chkP bs (hs.map Hld.cap) R.st mi x = 6 := by
     rw [chk4 hk (by omega),
       if_neg (show ¬ (x.minute < mi) by omega),
       if_neg (show ¬ (((hs.map Hld.cap).length : Int) ≤ x.to) by rw [List.length_map]; omega),
       if_neg (show ¬ (nth R.st.sealed (x.to).toNat = true) by show ¬ (nth R.sl (x.to).toNat = true); intro h; have e : nth R.sl (x.to).toNat = false := (by assumption); rw [show _ = false from e] at h; cases h),
       if_pos (show x.sn ∈ R.st.seals by exact hmem)]
   exact ⟨congrArg (Value.int .i64) hv9.symm, (E56.nx u67)⟩
  refine c_skip (hK60 _ _ (c_region (t_move rfl rfl rfl (t_ari rfl rfl rfl rfl rfl (by omega) (t_assign rfl rfl rfl (t_nil' ?_))))))
  exact hK51 (k + 1) _ _ (by omega) ⟨rfl, rfl, rfl, rfl, rfl, rfl, rfl, trivial⟩ ⟨(u53.next u67 (fun _ _ h => h.elim)), (by omega), (fun j hj hj2 => by
    rcases Nat.lt_or_ge j k with h9 | h9
    · exact hall j h9 hj2
    · have e : j = k := by omega
      subst e; exact g180)⟩
 refine c_exit (hK49 _ _ (c_seq fun K70 hK70 => (c_seq fun K71 hK71 => (c_drawnQ follows (by kernel_rfl) (p_move rfl rfl rfl (p_move rfl rfl rfl (p_skip rfl rfl rfl (p_pick_f rfl rfl rfl rfl (p_move rfl rfl rfl (p_skip rfl rfl rfl (p_skip rfl rfl rfl (p_skip rfl rfl rfl (p_skip rfl rfl rfl (p_skip rfl rfl rfl (p_skip rfl rfl rfl (p_skip rfl rfl rfl (p_skip rfl rfl rfl (p_skip rfl rfl rfl (p_skip rfl rfl rfl (p_pick_f rfl rfl rfl rfl (p_nil fun w72 u73 => ?_)))))))))))))))))))))
 have zu73 := u73.size
 refine t_nil' (hK71 _ _ (c_cond_f rfl (c_skip (hK70 _ _ (c_seq fun K75 hK75 => (c_seq fun K76 hK76 => (c_drawnQ follows (by kernel_rfl) (p_move rfl rfl rfl (p_move rfl rfl rfl (p_skip rfl rfl rfl (p_pick_f rfl rfl rfl rfl (p_move rfl rfl rfl (p_skip rfl rfl rfl (p_skip rfl rfl rfl (p_skip rfl rfl rfl (p_skip rfl rfl rfl (p_skip rfl rfl rfl (p_skip rfl rfl rfl (p_skip rfl rfl rfl (p_skip rfl rfl rfl (p_skip rfl rfl rfl (p_skip rfl rfl rfl (p_skip rfl rfl rfl ?_)))))))))))))))))))))))
 refine p_skip rfl rfl rfl (p_skip rfl rfl rfl (p_skip rfl rfl rfl (p_skip rfl rfl rfl (p_skip rfl rfl rfl (p_skip rfl rfl rfl (p_skip rfl rfl rfl (p_pick_f rfl rfl rfl rfl (p_nil fun w77 u78 => ?_))))))))
 have zu78 := u78.size
 refine t_nil' (hK76 _ _ (c_cond_f rfl (c_skip (hK75 _ _ (c_seq fun K80 hK80 => (c_region (t_assign rfl rfl rfl (t_nil' (hK80 _ _ (c_ret (f_ret1 (v := .int .i64 0) Try.results49 rfl ?_)))))))))))
 have hmem : x.sn ∉ R.se := not_mem_all (by omega) hall
 have hH : ∀ i, i < R.hl.length → nth R.st.hold i = (nth R.hl i).xs.map HLay.v := fun i hi => nth_map (fun r : RowL => r.xs.map HLay.v) hi
 have hC : ∀ i, i < hs.length → nth (hs.map Hld.cap) i = (nth hs i).cap := fun i hi => nth_map Hld.cap hi
 have hv9 : chkP bs (hs.map Hld.cap) R.st mi x = 0 := by
   rw [chk4 hk (by omega),
     if_neg (show ¬ (x.minute < mi) by omega),
     if_neg (show ¬ (((hs.map Hld.cap).length : Int) ≤ x.to) by rw [List.length_map]; omega),
     if_neg (show ¬ (nth R.st.sealed (x.to).toNat = true) by show ¬ (nth R.sl (x.to).toNat = true); intro h; have e : nth R.sl (x.to).toNat = false := (by assumption); rw [show _ = false from e] at h; cases h),
     if_neg (show ¬ (x.sn ∈ R.st.seals) by exact hmem)]
 exact ⟨congrArg (Value.int .i64) hv9.symm, ((E56.nx u73).nx u78)⟩

set_option maxHeartbeats 4000000 in
theorem Cannot5_c (bs : List Bil) (ab : Option Addr) (bb ob cb : Nat) (hs : List Hld) (ah : Option Addr) (bh oh ch : Nat) (mi : Int) (R : RG) (n : Nat) (x : Ev) (w0 : World) (hbs : Sl encBil 3 w0 ab bb ob bs) (hhs : Sl encHld 2 w0 ah bh oh hs) (hbl : bs.length ≤ 1000000) (hhl : hs.length ≤ 1000000) (hR : RM w0 R) (hst : StOk bs (hs.map Hld.cap) n R.st) (hx : okEv x = true) (hse : R.se.length ≤ 1000000) (hmi : 0 ≤ mi ∧ mi ≤ 1000000) (hk : x.kind = 5) :
    CallsV Try.prog 49 [.agg #[.slice ab bs.length cb, .slice ah hs.length ch], .agg #[.slice R.ha R.hl.length R.hc, .slice R.sa R.sl.length R.sc, .slice R.la R.ld.length R.lc, .slice R.da R.lo.length R.dc, .slice R.ea R.se.length R.ec], .agg #[.int .i64 5, .int .i64 x.minute, .int .i64 x.bill, .int .i64 x.frm, .int .i64 x.to, .int .i64 x.tons, .int .i64 x.port, .int .i64 x.sn], .int .i64 mi] w0 (fun v w' => v = .int .i64 (chkP bs (hs.map Hld.cap) R.st mi x) ∧ Ext w0 w') := by
 have hr := okEv_rng hx
 have hn1 : R.hl.length = (hs.map Hld.cap).length := by have h := hst.hn; rwa [show R.st.hold.length = R.hl.length from List.length_map _] at h
 have hn2 : R.sl.length = (hs.map Hld.cap).length := hst.sn
 have hn3 : R.lo.length = bs.length := hst.lsn
 have hn4 := hst.bn
 have hn5 := hst.h20
 rw [List.length_map] at hn1 hn2 hn5
 refine f_enter (N := 221) Try.func49 rfl rfl rfl (c_seq fun K1 hK1 => (c_region (t_box (cs := [.slice ab bs.length cb, .slice ah hs.length ch]) rfl rfl rfl rfl (fun bk2 w3 ebk2 sbk2 B4 u5 => ?_))))
 have zu5 := u5.size
 refine t_box (cs := [.slice R.ha R.hl.length R.hc, .slice R.sa R.sl.length R.sc, .slice R.la R.ld.length R.lc, .slice R.da R.lo.length R.dc, .slice R.ea R.se.length R.ec]) rfl rfl rfl rfl (fun bk7 w8 ebk7 sbk7 B9 u10 => ?_)
 have zu10 := u10.size
 refine t_box (cs := [.int .i64 5, .int .i64 x.minute, .int .i64 x.bill, .int .i64 x.frm, .int .i64 x.to, .int .i64 x.tons, .int .i64 x.port, .int .i64 x.sn]) rfl rfl rfl rfl (fun bk12 w13 ebk12 sbk12 B14 u15 => ?_)
 have zu15 := u15.size
 refine t_assign rfl rfl rfl (t_nil' (hK1 _ _ (c_seq fun K17 hK17 => (c_region (t_field Try.underlying25 rfl Try.sizeOf23 (1) rfl rfl rfl rfl ?_)))))
 have B18 := ((B4.kx u10).kx u15)
 refine t_load Try.isAgg23 rfl rfl rfl (B18.get rfl) (t_len Try.underlying23 rfl rfl rfl rfl (t_assign rfl rfl rfl (t_nil' (hK17 _ _ (c_seq fun K19 hK19 => (c_drawnQ follows (by kernel_rfl) (p_field Try.underlying41 rfl Try.sizeOf39 (0) rfl rfl rfl rfl (p_load Try.isAgg39 rfl rfl rfl (B14.get rfl) (p_cmp rfl rfl rfl rfl rfl (p_samehd (v := .bool false) rfl (p_move rfl rfl rfl (p_field Try.underlying41 rfl Try.sizeOf39 (0) rfl rfl rfl rfl (p_load Try.isAgg39 rfl rfl rfl (B14.get rfl) (p_cmp rfl rfl rfl rfl rfl (p_samehd (v := .bool false) rfl (p_pick_f rfl rfl rfl rfl (p_move rfl rfl rfl (p_field Try.underlying41 rfl Try.sizeOf39 (0) rfl rfl rfl rfl (p_load Try.isAgg39 rfl rfl rfl (B14.get rfl) (p_cmp rfl rfl rfl rfl rfl (p_samehd (v := .bool true) rfl (p_pick_f rfl rfl rfl rfl (p_field Try.underlying41 rfl Try.sizeOf39 (0) rfl rfl rfl rfl ?_)))))))))))))))))))))))
 refine p_load Try.isAgg39 rfl rfl rfl (B14.get rfl) (p_cmp rfl rfl rfl rfl rfl (p_samehd (v := .bool false) rfl (p_move rfl rfl rfl (p_field Try.underlying41 rfl Try.sizeOf39 (0) rfl rfl rfl rfl (p_load Try.isAgg39 rfl rfl rfl (B14.get rfl) (p_cmp rfl rfl rfl rfl rfl (p_samehd (v := .bool false) rfl (p_pick_f rfl rfl rfl rfl (p_move rfl rfl rfl (p_field Try.underlying41 rfl Try.sizeOf39 (0) rfl rfl rfl rfl (p_load Try.isAgg39 rfl rfl rfl (B14.get rfl) (p_cmp rfl rfl rfl rfl rfl (p_samehd (v := .bool false) rfl (p_pick_f rfl rfl rfl rfl (p_assign rfl rfl rfl (p_assign rfl rfl rfl (p_nil fun w20 u21 => ?_)))))))))))))))))
 have zu21 := u21.size
 have E22 := ((((Upd.refl (fun _ => False) w0).nx u5).nx u10).nx u15).nx u21
 refine t_nil' (hK19 _ _ (c_seq fun K23 hK23 => (c_region (t_field Try.underlying41 rfl Try.sizeOf39 (0) rfl rfl rfl rfl ?_))))
 have B24 := (B14.kx u21)
 refine t_load Try.isAgg39 rfl rfl rfl (B24.get rfl) (t_cmp rfl rfl rfl rfl rfl (t_samehd (v := .bool false) rfl (t_assign rfl rfl rfl (t_nil' (hK23 _ _ (c_seq fun K25 hK25 => (c_block (c_seq fun K26 hK26 => (c_region (t_field Try.underlying41 rfl Try.sizeOf3 (1) rfl rfl rfl rfl (t_load Try.isAgg3 rfl rfl rfl (B24.get rfl) (t_move rfl rfl rfl (t_cmp rfl rfl rfl rfl rfl (t_assign rfl rfl rfl (t_nil' (hK26 _ _ (c_condp rfl (fun g46 => ?_) (fun g46 => ?_))))))))))))))))))
 ·
  refine c_seq fun K27 hK27 => (c_region (t_assign rfl rfl rfl (t_nil' (hK27 _ _ (c_ret (f_ret1 (v := .int .i64 9) Try.results49 rfl ?_))))))
  have hH : ∀ i, i < R.hl.length → nth R.st.hold i = (nth R.hl i).xs.map HLay.v := fun i hi => nth_map (fun r : RowL => r.xs.map HLay.v) hi
  have hC : ∀ i, i < hs.length → nth (hs.map Hld.cap) i = (nth hs i).cap := fun i hi => nth_map Hld.cap hi
  have hv9 : chkP bs (hs.map Hld.cap) R.st mi x = 9 := by
    rw [chk5 hk (by omega) (row_nn hst _),
      if_pos (show x.minute < mi by omega)]
  exact ⟨congrArg (Value.int .i64) hv9.symm, E22⟩
 refine c_seq fun K28 hK28 => (c_seq fun K29 hK29 => (c_region (t_field Try.underlying41 rfl Try.sizeOf39 (0) rfl rfl rfl rfl (t_load Try.isAgg39 rfl rfl rfl (B24.get rfl) (t_cmp rfl rfl rfl rfl rfl (t_samehd (v := .bool false) rfl (t_move rfl rfl rfl (t_skip rfl rfl rfl (t_skip rfl rfl rfl (t_skip rfl rfl rfl (t_skip rfl rfl rfl (t_skip rfl rfl rfl (t_skip rfl rfl rfl (t_pick_f rfl rfl rfl rfl (t_assign rfl rfl rfl (t_nil' (hK29 _ _ (c_cond_f rfl (c_seq fun K30 hK30 => (c_region (t_move rfl rfl rfl (t_move rfl rfl rfl (t_field Try.underlying41 rfl Try.sizeOf3 (3) rfl rfl rfl rfl ?_)))))))))))))))))))))))
 refine t_load Try.isAgg3 rfl rfl rfl (B24.get rfl) (t_move rfl rfl rfl (t_cmp rfl rfl rfl rfl rfl (t_pick_t rfl rfl rfl rfl (t_assign rfl rfl rfl (t_nil' (hK30 _ _ (c_condp rfl (fun g51 => ?_) (fun g51 => ?_))))))))
 ·
  refine c_same 51 (v := .bool true) rfl (congrArg Value.bool (decide_eq_true g51)) (c_skip (hK28 _ _ (c_cond_t rfl (c_seq fun K31 hK31 => (c_region (t_assign rfl rfl rfl (t_nil' (hK31 _ _ (c_ret (f_ret1 (v := .int .i64 7) Try.results49 rfl ?_))))))))))
  have hH : ∀ i, i < R.hl.length → nth R.st.hold i = (nth R.hl i).xs.map HLay.v := fun i hi => nth_map (fun r : RowL => r.xs.map HLay.v) hi
  have hC : ∀ i, i < hs.length → nth (hs.map Hld.cap) i = (nth hs i).cap := fun i hi => nth_map Hld.cap hi
  have hv9 : chkP bs (hs.map Hld.cap) R.st mi x = 7 := by
    rw [chk5 hk (by omega) (row_nn hst _),
      if_neg (show ¬ (x.minute < mi) by omega),
      if_pos (show ((hs.map Hld.cap).length : Int) ≤ x.frm by rw [List.length_map]; omega)]
  exact ⟨congrArg (Value.int .i64) hv9.symm, E22⟩
 refine c_region (t_move rfl rfl rfl (t_move rfl rfl rfl (t_skip rfl rfl rfl (t_skip rfl rfl rfl (t_skip rfl rfl rfl (t_skip rfl rfl rfl (t_pick_f rfl rfl rfl rfl (t_assign rfl rfl rfl (t_nil' (hK28 _ _ (c_cond_f rfl (c_seq fun K32 hK32 => (c_region (t_field Try.underlying41 rfl Try.sizeOf39 (0) rfl rfl rfl rfl (t_load Try.isAgg39 rfl rfl rfl (B24.get rfl) (t_cmp rfl rfl rfl rfl rfl (t_samehd (v := .bool false) rfl (t_move rfl rfl rfl (t_skip rfl rfl rfl (t_skip rfl rfl rfl (t_skip rfl rfl rfl (t_skip rfl rfl rfl (t_skip rfl rfl rfl ?_)))))))))))))))))))))))
 refine t_pick_f rfl rfl rfl rfl (t_assign rfl rfl rfl (t_nil' (hK32 _ _ (c_cond_f rfl (c_seq fun K33 hK33 => (c_seq fun K34 hK34 => (c_region (t_move rfl rfl rfl (t_move rfl rfl rfl (t_skip rfl rfl rfl (t_pick_f rfl rfl rfl rfl (t_move rfl rfl rfl (t_skip rfl rfl rfl (t_skip rfl rfl rfl (t_skip rfl rfl rfl (t_skip rfl rfl rfl (t_skip rfl rfl rfl (t_skip rfl rfl rfl (t_pick_f rfl rfl rfl rfl (t_assign rfl rfl rfl (t_nil' (hK34 _ _ (c_cond_f rfl ?_)))))))))))))))))))))))
 refine c_seq fun K35 hK35 => (c_region (t_move rfl rfl rfl (t_move rfl rfl rfl (t_skip rfl rfl rfl (t_skip rfl rfl rfl (t_skip rfl rfl rfl (t_skip rfl rfl rfl (t_skip rfl rfl rfl (t_skip rfl rfl rfl (t_pick_f rfl rfl rfl rfl (t_assign rfl rfl rfl (t_nil' (hK35 _ _ (c_cond_f rfl (c_region (t_field Try.underlying41 rfl Try.sizeOf39 (0) rfl rfl rfl rfl (t_load Try.isAgg39 rfl rfl rfl (B24.get rfl) (t_cmp rfl rfl rfl rfl rfl (t_samehd (v := .bool true) rfl (t_move rfl rfl rfl (t_field Try.underlying47 rfl Try.sizeOf43 (1) rfl rfl rfl rfl ?_)))))))))))))))))))))
 have B36 := ((B9.kx u15).kx u21)
 refine t_load Try.isAgg43 rfl rfl rfl (B36.get rfl) (t_field Try.underlying41 rfl Try.sizeOf3 (3) rfl rfl rfl rfl (t_load Try.isAgg3 rfl rfl rfl (B24.get rfl) ?_))
 have i37 : (x.frm).toNat < R.sl.length := (by omega)
 refine t_index (j := (x.frm).toNat) Try.underlying43 Try.sizeOf4 rfl rfl rfl rfl ((hR.shut.keep E22 (fun _ h => h)).addr (by omega)) (by omega) i37 (t_load Try.isAgg4 rfl rfl rfl (((hR.shut.keep E22 (fun _ h => h)).at_ ((x.frm).toNat) (by omega)) 0 _ rfl) (t_not rfl rfl rfl (t_pick_t rfl rfl rfl rfl (t_assign rfl rfl rfl (t_nil' (hK33 _ _ (c_cond rfl (fun g88 => ?_) (fun g88 => ?_))))))))
 ·
  refine c_same 88 (v := .bool true) rfl (congrArg Value.bool g88) (c_seq fun K38 hK38 => (c_region (t_assign rfl rfl rfl (t_nil' (hK38 _ _ (c_ret (f_ret1 (v := .int .i64 9) Try.results49 rfl ?_)))))))
  have hH : ∀ i, i < R.hl.length → nth R.st.hold i = (nth R.hl i).xs.map HLay.v := fun i hi => nth_map (fun r : RowL => r.xs.map HLay.v) hi
  have hC : ∀ i, i < hs.length → nth (hs.map Hld.cap) i = (nth hs i).cap := fun i hi => nth_map Hld.cap hi
  have hv9 : chkP bs (hs.map Hld.cap) R.st mi x = 9 := by
    rw [chk5 hk (by omega) (row_nn hst _),
      if_neg (show ¬ (x.minute < mi) by omega),
      if_neg (show ¬ (((hs.map Hld.cap).length : Int) ≤ x.frm) by rw [List.length_map]; omega),
      if_neg (show ¬ (nth R.st.sealed (x.frm).toNat = true) by show ¬ (nth R.sl (x.frm).toNat = true); simpa using g88)]
  exact ⟨congrArg (Value.int .i64) hv9.symm, E22⟩
 refine c_seq fun K39 hK39 => (c_drawnQ follows (by kernel_rfl) (p_field Try.underlying41 rfl Try.sizeOf39 (0) rfl rfl rfl rfl (p_load Try.isAgg39 rfl rfl rfl (B24.get rfl) (p_cmp rfl rfl rfl rfl rfl (p_samehd (v := .bool false) rfl (p_move rfl rfl rfl (p_skip rfl rfl rfl (p_skip rfl rfl rfl (p_skip rfl rfl rfl (p_skip rfl rfl rfl (p_skip rfl rfl rfl (p_skip rfl rfl rfl (p_skip rfl rfl rfl (p_skip rfl rfl rfl (p_skip rfl rfl rfl (p_skip rfl rfl rfl (p_pick_f rfl rfl rfl rfl (p_assign rfl rfl rfl (p_nil fun w40 u41 => ?_)))))))))))))))))))
 have zu41 := u41.size
 refine t_nil' (hK39 _ _ (c_cond_f rfl (c_seq fun K43 hK43 => (c_drawnQ follows (by kernel_rfl) (p_field Try.underlying41 rfl Try.sizeOf39 (0) rfl rfl rfl rfl ?_)))))
 have B45 := (B24.kx u41)
 refine p_load Try.isAgg39 rfl rfl rfl (B45.get rfl) (p_cmp rfl rfl rfl rfl rfl (p_samehd (v := .bool false) rfl (p_move rfl rfl rfl (p_skip rfl rfl rfl (p_skip rfl rfl rfl (p_skip rfl rfl rfl (p_skip rfl rfl rfl (p_skip rfl rfl rfl (p_skip rfl rfl rfl (p_skip rfl rfl rfl (p_skip rfl rfl rfl (p_skip rfl rfl rfl (p_skip rfl rfl rfl (p_skip rfl rfl rfl (p_skip rfl rfl rfl (p_skip rfl rfl rfl (p_skip rfl rfl rfl (p_skip rfl rfl rfl (p_skip rfl rfl rfl (p_skip rfl rfl rfl (p_pick_f rfl rfl rfl rfl (p_assign rfl rfl rfl (p_nil fun w46 u47 => ?_)))))))))))))))))))))))
 have zu47 := u47.size
 refine t_nil' (hK43 _ _ (c_cond_f rfl (c_skip (hK25 _ _ (c_seq fun K49 hK49 => (c_seq fun K50 hK50 => (c_region (t_assign rfl rfl rfl (t_nil' (hK50 _ _ (c_block (c_loop (γ := Nat) (fun k => [(4, .pointer (some ⟨bk2, 0, none⟩)), (5, .pointer (some ⟨bk7, 0, none⟩)), (6, .pointer (some ⟨bk12, 0, none⟩)), (10, .bool true), (11, .bool false), (12, .bool false), (13, .int .i64 (k : Int))]) (fun k w => Upd (fun _ => False) w46 w ∧ (k ≤ R.se.length)) (fun k => R.se.length - k) 0 ⟨rfl, rfl, rfl, rfl, rfl, rfl, rfl, trivial⟩ ⟨Upd.refl _ _, (Nat.zero_le _)⟩ ?_))))))))))))
 intro k w52 hW K51 hK51
 obtain ⟨u53, I54⟩ := hW
 have zu53 := u53.size
 have hkk := I54; clear I54
 refine c_seq fun K56 hK56 => (c_seq fun K57 hK57 => (c_region (t_move rfl rfl rfl (t_field Try.underlying47 rfl Try.sizeOf45 (4) rfl rfl rfl rfl ?_))))
 have B58 := (((B36.kx u41).kx u47).kx u53)
 refine t_load Try.isAgg45 rfl rfl rfl (B58.get rfl) (t_len Try.underlying45 rfl rfl rfl rfl (t_cmp rfl rfl rfl rfl rfl (t_nil' (hK57 _ _ (c_condp rfl (fun g165 => ?_) (fun g165 => ?_))))))
 ·
  refine c_skip (hK56 _ _ (c_seq fun K59 hK59 => (c_block (c_seq fun K60 hK60 => (c_drawnQ follows (by kernel_rfl) (p_field Try.underlying41 rfl Try.sizeOf39 (0) rfl rfl rfl rfl ?_))))))
  have B62 := ((B45.kx u47).kx u53)
  refine p_load Try.isAgg39 rfl rfl rfl (B62.get rfl) (p_cmp rfl rfl rfl rfl rfl (p_samehd (v := .bool false) rfl (p_move rfl rfl rfl (p_skip rfl rfl rfl (p_skip rfl rfl rfl (p_skip rfl rfl rfl (p_skip rfl rfl rfl (p_skip rfl rfl rfl (p_skip rfl rfl rfl (p_skip rfl rfl rfl (p_skip rfl rfl rfl (p_pick_f rfl rfl rfl rfl (p_nil fun w63 u64 => ?_)))))))))))))
  have zu64 := u64.size
  refine t_nil' (hK60 _ _ (c_cond_f rfl (c_skip (hK59 _ _ (c_region (t_move rfl rfl rfl (t_ari rfl rfl rfl rfl rfl (by omega) (t_assign rfl rfl rfl (t_nil' ?_)))))))))
  exact hK51 (k + 1) _ _ (by omega) ⟨rfl, rfl, rfl, rfl, rfl, rfl, rfl, trivial⟩ ⟨(u53.next u64 (fun _ _ h => h.elim)), (by omega)⟩
 refine c_exit (hK49 _ _ (c_seq fun K66 hK66 => (c_seq fun K67 hK67 => (c_drawnQ follows (by kernel_rfl) (p_move rfl rfl rfl (p_move rfl rfl rfl (p_skip rfl rfl rfl (p_pick_f rfl rfl rfl rfl (p_move rfl rfl rfl (p_skip rfl rfl rfl (p_skip rfl rfl rfl (p_skip rfl rfl rfl (p_skip rfl rfl rfl (p_skip rfl rfl rfl (p_skip rfl rfl rfl (p_skip rfl rfl rfl (p_skip rfl rfl rfl (p_skip rfl rfl rfl (p_skip rfl rfl rfl (p_pick_f rfl rfl rfl rfl (p_nil fun w68 u69 => ?_)))))))))))))))))))))
 have zu69 := u69.size
 refine t_nil' (hK67 _ _ (c_cond_f rfl (c_skip (hK66 _ _ (c_seq fun K71 hK71 => (c_seq fun K72 hK72 => (c_drawnQ follows (by kernel_rfl) (p_move rfl rfl rfl (p_move rfl rfl rfl (p_skip rfl rfl rfl (p_pick_f rfl rfl rfl rfl (p_move rfl rfl rfl (p_skip rfl rfl rfl (p_skip rfl rfl rfl (p_skip rfl rfl rfl (p_skip rfl rfl rfl (p_skip rfl rfl rfl (p_skip rfl rfl rfl (p_skip rfl rfl rfl (p_skip rfl rfl rfl (p_skip rfl rfl rfl (p_skip rfl rfl rfl (p_skip rfl rfl rfl ?_)))))))))))))))))))))))
 refine p_skip rfl rfl rfl (p_skip rfl rfl rfl (p_skip rfl rfl rfl (p_skip rfl rfl rfl (p_skip rfl rfl rfl (p_skip rfl rfl rfl (p_skip rfl rfl rfl (p_pick_f rfl rfl rfl rfl (p_nil fun w73 u74 => ?_))))))))
 have zu74 := u74.size
 refine t_nil' (hK72 _ _ (c_cond_f rfl (c_skip (hK71 _ _ (c_seq fun K76 hK76 => (c_region (t_assign rfl rfl rfl (t_nil' (hK76 _ _ (c_ret (f_ret1 (v := .int .i64 0) Try.results49 rfl ?_)))))))))))
 have hH : ∀ i, i < R.hl.length → nth R.st.hold i = (nth R.hl i).xs.map HLay.v := fun i hi => nth_map (fun r : RowL => r.xs.map HLay.v) hi
 have hC : ∀ i, i < hs.length → nth (hs.map Hld.cap) i = (nth hs i).cap := fun i hi => nth_map Hld.cap hi
 have hv9 : chkP bs (hs.map Hld.cap) R.st mi x = 0 := by
   rw [chk5 hk (by omega) (row_nn hst _),
     if_neg (show ¬ (x.minute < mi) by omega),
     if_neg (show ¬ (((hs.map Hld.cap).length : Int) ≤ x.frm) by rw [List.length_map]; omega),
     if_pos (show nth R.st.sealed (x.frm).toNat = true by show nth R.sl (x.frm).toNat = true; simpa using g88)]
 exact ⟨congrArg (Value.int .i64) hv9.symm, (((((E22.nx u41).nx u47).nx u53).nx u69).nx u74)⟩

end Go.Proofs.Ytgkkgpenmppjcaa
