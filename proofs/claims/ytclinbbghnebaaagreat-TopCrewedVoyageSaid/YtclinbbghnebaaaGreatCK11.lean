/-
  Part 11 of the proof: contracts and plain laws. Conditions: none.
-/
import Derived.Test.YtclinbbghnebaaaGreatCK10
namespace Go.Proofs.YtclinbbghnebaaaGreat
open Go Go.RowKit Go.Proofs.Tryz
set_option maxRecDepth 10000

/-- A sailor in memory. -/
structure HS where
  f : Int
  u : Int
  ps : List Ppr
  ap : Option Addr
  bp : Nat
  op : Nat
  cp : Nat
  ds : List Dty
  ad : Option Addr
  bd : Nat
  od : Nat
  cd : Nat
instance : Inhabited HS := ⟨⟨default, default, default, default, default, default, default, default, default, default, default, default⟩⟩
def HS.slr (h : HS) : Slr := ⟨h.f, h.u, h.ps, h.ds⟩
def encHS (h : HS) : List Value := [.int .i64 h.f, .int .i64 h.u, .slice h.ap h.ps.length h.cp, .slice h.ad h.ds.length h.cd]
structure SlrM (w : World) (h : HS) : Prop where
  hp : Sl encPpr 2 w h.ap h.bp h.op h.ps
  hpl : h.ps.length ≤ 1000000
  hd : Sl encDty 4 w h.ad h.bd h.od h.ds
  hdl : h.ds.length ≤ 1000000
theorem SlrM.ext {w w' : World} {h : HS} (m : SlrM w h) (u : Ext w w') : SlrM w' h := ⟨m.hp.keep u (fun _ h => h), m.hpl, m.hd.keep u (fun _ h => h), m.hdl⟩
/-- A member: times, papers, times of work. -/
structure Mb where
  f : Int
  u : Int
  ps : List Ppr
  ts : List Sp
instance : Inhabited Mb := ⟨⟨default, default, default, default⟩⟩
def boardP (s : Slr) : Mb := ⟨s.f, s.u, s.ps, srtS (s.ds.map lngS)⟩
/-- A member in memory. -/
structure HM where
  f : Int
  u : Int
  ps : List Ppr
  ap : Option Addr
  bp : Nat
  op : Nat
  cp : Nat
  ad : Option Addr
  nd : Nat
  cd : Nat
  ts : List Sp
  at_ : Option Addr
  gt : Nat
  ct : Nat
instance : Inhabited HM := ⟨⟨default, default, default, default, default, default, default, default, default, default, default, default, default, default⟩⟩
def HM.mb (h : HM) : Mb := ⟨h.f, h.u, h.ps, h.ts⟩
def encHM (h : HM) : List Value := [.int .i64 h.f, .int .i64 h.u, .slice h.ap h.ps.length h.cp, .slice h.ad h.nd h.cd, .slice h.at_ h.ts.length h.ct]
/-- What may turn: blocks of F, and the rows of plans. -/
def TP (F : Nat → Prop) (pb : Nat) (w : World) (i : Nat) : Prop := F i ∨ (pb ≤ i ∧ ∃ cs, Blk w i 38 cs)
theorem TP.back {F : Nat → Prop} {pb : Nat} {w w' : World} (u : Upd (TP F pb w) w w') {i : Nat} (hi : i < w.heap.size) (h : TP F pb w' i) : TP F pb w i := by
  by_cases q : TP F pb w i
  · exact q
  · rcases h with h | ⟨h, cs, hb⟩
    · exact .inl h
    · exact .inr ⟨h, cs, (u.block i hi q).symm.trans hb⟩
theorem TP.backE {F : Nat → Prop} {pb : Nat} {w w' : World} (u : Ext w w') {i : Nat} (hi : i < w.heap.size) (h : TP F pb w' i) : TP F pb w i := TP.back u.to hi h
theorem PU.trans {F : Nat → Prop} {pb : Nat} {a b c : World} (u : Upd (TP F pb a) a b) (v : Upd (TP F pb b) b c) : Upd (TP F pb a) a c := u.next v (fun _ hi h => TP.back u hi h)
theorem TP.not {F : Nat → Prop} {pb b : Nat} {w : World} {t : TypeId} {cs : List Value} (hF : ¬ F b) (h : Blk w b t cs) (ht : t ≠ 38) : ¬ TP F pb w b := by
  rintro (q | ⟨_, cs', q⟩)
  · exact hF q
  · unfold Blk at h q; rw [h] at q; injection q with q; injection q with _ q; exact ht q
theorem Acc.notTP {α : Type} {enc : α → List Value} {k : Nat} {e : TypeId} {base : Nat} {w : World} {ao : Option Addr} {g cap : Nat} {xs : List α} (h : Acc enc k e base w ao g cap xs) {F : Nat → Prop} {pb : Nat} (hF : base ≤ g → ¬ F g) (ht : e ≠ 38) : base ≤ g → ¬ TP F pb w g := fun hb => by
  rcases h.at_ with ⟨_, _, _, h1⟩ | ⟨_, _, cur, h1, _⟩
  · omega
  · exact TP.not (cs := cur.toList) (hF hb) (by simpa [Blk] using h1) ht
theorem Acc.notLoop {α : Type} {enc : α → List Value} {k : Nat} {e : TypeId} {base : Nat} {w : World} {ao : Option Addr} {g cap l : Nat} {xs : List α} (h : Acc enc k e base w ao g cap xs) (hl : ∃ r, w.heap[l]? = some (.loop r)) : base ≤ g → ¬ g = l := fun hb e => by
  subst e; obtain ⟨r, hr⟩ := hl
  rcases h.at_ with ⟨_, _, _, h1⟩ | ⟨_, _, cur, h1, _⟩
  · omega
  · rw [hr] at h1; cases h1
/-- A member lies in memory; its times of work are none of F. -/
structure MbM (F : Nat → Prop) (pb : Nat) (w : World) (m : HM) : Prop where
  hp : Sl encPpr 2 w m.ap m.bp m.op m.ps
  hb : 0 < m.ps.length → m.bp < pb
  hpl : m.ps.length ≤ 10
  ht : Acc encSp 2 180 pb w m.at_ m.gt m.ct m.ts
  hn : pb ≤ m.gt → ¬ F m.gt
  srt : Srt m.ts
  ok : ∀ s ∈ m.ts, OkSp s
/-- The members of a crew lie in memory. -/
structure RowM (F : Nat → Prop) (pb : Nat) (w : World) (am : Option Addr) (mb cm : Nat) (ms : List HM) : Prop where
  acc : Acc encHM 5 269 pb w am mb cm ms
  mem : ∀ m ∈ ms, MbM F pb w m
theorem MbM.ext {F : Nat → Prop} {pb : Nat} {w w' : World} {m : HM} (h : MbM F pb w m) (u : Ext w w') : MbM F pb w' m := ⟨h.hp.keep u (fun _ h => h), h.hb, h.hpl, h.ht.keep u (fun _ h => h), h.hn, h.srt, h.ok⟩
theorem RowM.ext {F : Nat → Prop} {pb : Nat} {w w' : World} {am : Option Addr} {mb cm : Nat} {ms : List HM} (h : RowM F pb w am mb cm ms) (u : Ext w w') : RowM F pb w' am mb cm ms := ⟨h.acc.keep u (fun _ h => h), fun m hm => (h.mem m hm).ext u⟩
theorem MbM.tp {F : Nat → Prop} {pb : Nat} {w w' : World} {m : HM} (h : MbM F pb w m) (hF : ∀ i, F i → pb ≤ i) (u : Upd (TP F pb w) w w') : MbM F pb w' m :=
  ⟨h.hp.keep u (fun hp hq => by have h1 := h.hb hp; exact hq.elim (fun q => by have := hF _ q; omega) (fun q => by omega)), h.hb, h.hpl, h.ht.keep u (h.ht.notTP h.hn (by decide)), h.hn, h.srt, h.ok⟩
theorem MbM.upd {F S : Nat → Prop} {pb : Nat} {w w' : World} {m : HM} (h : MbM F pb w m) (u : Upd S w w') (h1 : 0 < m.ps.length → ¬ S m.bp) (h2 : pb ≤ m.gt → ¬ S m.gt) : MbM F pb w' m := ⟨h.hp.keep u h1, h.hb, h.hpl, h.ht.keep u h2, h.hn, h.srt, h.ok⟩
theorem Acc.neAcc {α β : Type} {enc : α → List Value} {enc' : β → List Value} {k k' : Nat} {e e' : TypeId} {base base' : Nat} {w : World} {ao ao' : Option Addr} {g g' cap cap' : Nat} {xs : List α} {ys : List β} (h : Acc enc k e base w ao g cap xs) (h' : Acc enc' k' e' base' w ao' g' cap' ys) (ht : e ≠ e') : base ≤ g → base' ≤ g' → g ≠ g' := fun hb hb' q => by
  subst q
  rcases h.at_ with ⟨_, _, _, h1⟩ | ⟨_, _, cur, h1, _⟩
  · omega
  · rcases h'.at_ with ⟨_, _, _, h2⟩ | ⟨_, _, cur', h2, _⟩
    · omega
    · rw [h1] at h2; injection h2 with h2; injection h2 with _ h2; exact ht h2
/-- The row itself is turned. -/
theorem MbM.row {F : Nat → Prop} {pb mb : Nat} {w w' : World} {m : HM} (h : MbM F pb w m) (hm : pb ≤ mb → F mb) (u : Upd (fun i => i = mb ∧ pb ≤ i) w w') : MbM F pb w' m :=
  ⟨h.hp.keep u (fun hp hq => by have h1 := h.hb hp; omega), h.hb, h.hpl, h.ht.keep u (fun hb hq => h.hn hb (hq.1 ▸ hm (by omega))), h.hn, h.srt, h.ok⟩
theorem MbM.turned {F : Nat → Prop} {pb : Nat} {l : Nat} : Turned l (fun m W => MbM F pb W m) := fun m W W' h hl u =>
  ⟨h.hp.keep u (fun hp => h.hp.notLoop (fun _ => by simp [encPpr]) hl hp), h.hb, h.hpl, h.ht.keep u (h.ht.notLoop hl), h.hn, h.srt, h.ok⟩
theorem RowM.turned {F : Nat → Prop} {pb : Nat} {am : Option Addr} {mb cm l : Nat} : Turned l (fun ms W => RowM F pb W am mb cm ms) := fun _ms W W' h hl u =>
  ⟨h.acc.keep u (h.acc.notLoop hl), fun m hm => MbM.turned m W W' (h.mem m hm) hl u⟩
theorem RowM.mono {F G : Nat → Prop} {pb : Nat} {w : World} {am : Option Addr} {mb cm : Nat} {ms : List HM} (h : RowM F pb w am mb cm ms) (hG : ∀ m ∈ ms, pb ≤ m.gt → G m.gt → F m.gt) : RowM G pb w am mb cm ms :=
  ⟨h.acc, fun m hm => let q := h.mem m hm; ⟨q.hp, q.hb, q.hpl, q.ht, fun hb hg => q.hn hb (hG m hm hb hg), q.srt, q.ok⟩⟩
theorem RowM.set {F : Nat → Prop} {pb : Nat} {w w' : World} {am : Option Addr} {mb cm i : Nat} {ms : List HM} {m : HM} (h : RowM F pb w am mb cm ms) (hm : pb ≤ mb → F mb) (u : Upd (fun i => i = mb ∧ pb ≤ i) w w') (ha : Acc encHM 5 269 pb w' am mb cm (ms.set i m)) (hn : MbM F pb w m) : RowM F pb w' am mb cm (ms.set i m) :=
  ⟨ha, fun x hx => by
    rcases List.mem_or_eq_of_mem_set hx with q | q
    · exact (h.mem x q).row hm u
    · rw [q]; exact hn.row hm u⟩
/-- The error of rules, sailors and legs. -/
def openE (r : Rul) (ss : List Slr) (xs : List Leg) : Int :=
  if chkR r ≠ 0 then chkR r else if 6 < ss.length then 5 else if (ss.any fun s => !okSlr s) = true then 2 else if 8 < xs.length then 5 else if (xs.any fun x => !okLeg x) = true then 2 else 0
theorem openE_ok {r : Rul} {ss : List Slr} {xs : List Leg} (h : openE r ss xs = 0) : okRul r = true ∧ ss.length ≤ 6 ∧ (∀ s ∈ ss, okSlr s = true) ∧ xs.length ≤ 8 ∧ ∀ x ∈ xs, okLeg x = true := by
  unfold openE at h
  by_cases h1 : okRul r = true
  · have e1 : chkR r = 0 := by unfold chkR; rw [if_pos h1]
    rw [if_neg (by omega)] at h
    by_cases h2 : 6 < ss.length
    · rw [if_pos h2] at h; cases h
    rw [if_neg h2] at h
    by_cases h3 : (ss.any fun s => !okSlr s) = true
    · rw [if_pos h3] at h; cases h
    rw [if_neg h3] at h
    by_cases h4 : 8 < xs.length
    · rw [if_pos h4] at h; cases h
    rw [if_neg h4] at h
    by_cases h5 : (xs.any fun x => !okLeg x) = true
    · rw [if_pos h5] at h; cases h
    refine ⟨h1, by omega, fun s hs => ?_, by omega, fun x hx => ?_⟩
    · cases q : okSlr s with
      | true => rfl
      | false => exact absurd (List.any_eq_true.2 ⟨s, hs, by simp [q]⟩) h3
    · cases q : okLeg x with
      | true => rfl
      | false => exact absurd (List.any_eq_true.2 ⟨x, hx, by simp [q]⟩) h5
  · have e1 : chkR r = 2 := by unfold chkR; rw [if_neg h1]
    rw [if_pos (by omega)] at h; omega
theorem any_slr {hs : List HS} : (hs.any fun h => !okSlr h.slr) = ((hs.map HS.slr).any fun s => !okSlr s) := by rw [List.any_map]; rfl
def MKM (h : HS) (ao : Option Addr) (g c : Nat) : HM := ⟨h.f, h.u, h.ps, h.ap, h.bp, h.op, h.cp, h.ad, h.ds.length, h.cd, srtS (h.ds.map lngS), ao, g, c⟩
theorem MKM.mem {pb : Nat} {w : World} {h : HS} {ao : Option Addr} {g c : Nat} (m : SlrM w h) (hok : okSlr h.slr = true) (hb : 0 < h.ps.length → h.bp < pb) (ha : Acc encSp 2 180 pb w ao g c (srtS (h.ds.map lngS))) : MbM (fun _ => False) pb w (MKM h ao g c) :=
  have q := okSlr_ok hok
  ⟨m.hp, hb, q.2.1, ha, fun _ h => h, srt_srt _, lngs_ok q.2.2.2⟩
theorem own118 : Own Tryz.prog 118 := ⟨Tryz.f118, func118, by kernel_rfl, by kernel_rfl⟩
theorem own121 : Own Tryz.prog 121 := ⟨Tryz.f121, func121, by kernel_rfl, by kernel_rfl⟩
theorem indexS_c {α : Type} [Inhabited α] (enc : α → List Value) (hk : ∀ x, (enc x).length = 4) (p : α → Bool) (fv : FuncId) (caps : List Value) (xs : List α) (ao : Option Addr) (b o cap : Nat) (w0 : World) (ho : Own Tryz.prog fv) (hp : ∀ x ∈ xs, ∀ w, Ext w0 w → CallsV Tryz.prog fv ([.agg (enc x).toArray] ++ caps) w fun v w' => v = .bool (p x) ∧ Ext w w') (hs : Sl enc 4 w0 ao b o xs) (hl : xs.length ≤ 1000000) :
    CallsV Tryz.prog 181 [.slice ao xs.length cap, .func (.func fv) #[] (caps).toArray] w0 (fun v w' => (∃ n : Int, v = .int .i64 n ∧ decide (0 ≤ n) = xs.any p) ∧ Ext w0 w') := by
 refine f_n func181 ?_
 refine go ?_
 refine x_l1 (fun _ => False) [0, 1, 7] (fun (k : Nat) => [(8, .int .i64 (k : Int))]) (fun k w => (k ≤ xs.length) ∧ ((xs.take k).any p = false)) (fun k => xs.length - k) 0 ⟨Nat.zero_le _, (by simp)⟩ ?_
 rintro k w5 ⟨hle, hnot⟩ u6 zu6 K4 hK4
 have E7 := Sc.mk ((Upd.refl (fun _ => False) w0).nx u6)
 refine go ?_
 refine q_p (fun g9 => ?_) fun g9 => ?_
 ·
  refine go ?_
  refine g_i k (hs.keep E7.u (fun _ h => h)) (fun _ => ?_)
  refine t_loadN (vs := enc (nth xs k)) isAgg83 sizeOf83 rfl rfl rfl ((hs.keep E7.u (fun _ h => h)).at_ k (by omega)) (hk _) (t_call (fs := []) (cs := caps) ho rfl rfl rfl rfl (hp (nth xs k) (nth_mem (by omega)) _ E7.u) (fun v14 w15 r17 => ?_))
  obtain ⟨rfl, u16⟩ := r17
  have zu16 := u16.size
  refine go ?_
  refine q_b (fun g16 => ?_) fun g16 => ?_
  ·
   refine go ?_
   refine f_1 results181 ?_
   exact ⟨⟨_, rfl, any_hit (by omega) g16⟩, u_d⟩
  refine go ?_
  exact hK4 (k + 1) ⟨(by omega), (any_snoc (by omega) hnot g16)⟩
 refine go ?_
 refine f_1 results181 ?_
 exact ⟨⟨_, rfl, any_none (by omega) hnot⟩, u_d⟩
theorem containsS_c {α : Type} [Inhabited α] (enc : α → List Value) (hk : ∀ x, (enc x).length = 4) (p : α → Bool) (fv : FuncId) (caps : List Value) (xs : List α) (ao : Option Addr) (b o cap : Nat) (w0 : World) (ho : Own Tryz.prog fv) (hp : ∀ x ∈ xs, ∀ w, Ext w0 w → CallsV Tryz.prog fv ([.agg (enc x).toArray] ++ caps) w fun v w' => v = .bool (p x) ∧ Ext w w') (hs : Sl enc 4 w0 ao b o xs) (hl : xs.length ≤ 1000000) :
    CallsV Tryz.prog 117 [.slice ao xs.length cap, .func (.func fv) #[] (caps).toArray] w0 (fun v w' => v = .bool (xs.any p) ∧ Ext w0 w') := by
 refine f_n func117 ?_
 refine go ?_
 refine x_c func181 rfl rfl (indexS_c enc hk p fv caps xs ao b o cap _ ho hp hs hl) ?_
 rintro _ w4 ⟨⟨n, rfl, hn⟩, u5⟩ zu5
 refine go ?_
 refine f_1 results117 ?_
 exact ⟨by rw [hn], u_d⟩
theorem indexL_cK {α : Type} [Inhabited α] (enc : α → List Value) (hk : ∀ x, (enc x).length = 7) (p : α → Bool) (fv : FuncId) (caps : List Value) (xs : List α) (ao : Option Addr) (b o cap : Nat) (w0 : World) (ho : Own Tryz.prog fv) (hp : ∀ x ∈ xs, ∀ w, Ext w0 w → CallsV Tryz.prog fv ([.agg (enc x).toArray] ++ caps) w fun v w' => v = .bool (p x) ∧ Ext w w') (hs : Sl enc 7 w0 ao b o xs) (hl : xs.length ≤ 1000000) :
    CallsV Tryz.prog 184 [.slice ao xs.length cap, .func (.func fv) #[] (caps).toArray] w0 (fun v w' => (∃ n : Int, v = .int .i64 n ∧ decide (0 ≤ n) = xs.any p) ∧ Ext w0 w') := by
 refine f_n func184 ?_
 refine go ?_
 refine x_l1 (fun _ => False) [0, 1, 7] (fun (k : Nat) => [(8, .int .i64 (k : Int))]) (fun k w => (k ≤ xs.length) ∧ ((xs.take k).any p = false)) (fun k => xs.length - k) 0 ⟨Nat.zero_le _, (by simp)⟩ ?_
 rintro k w5 ⟨hle, hnot⟩ u6 zu6 K4 hK4
 have E7 := Sc.mk ((Upd.refl (fun _ => False) w0).nx u6)
 refine go ?_
 refine q_p (fun g9 => ?_) fun g9 => ?_
 ·
  refine go ?_
  refine g_i k (hs.keep E7.u (fun _ h => h)) (fun _ => ?_)
  refine t_loadN (vs := enc (nth xs k)) isAgg79 sizeOf79 rfl rfl rfl ((hs.keep E7.u (fun _ h => h)).at_ k (by omega)) (hk _) (t_call (fs := []) (cs := caps) ho rfl rfl rfl rfl (hp (nth xs k) (nth_mem (by omega)) _ E7.u) (fun v14 w15 r17 => ?_))
  obtain ⟨rfl, u16⟩ := r17
  have zu16 := u16.size
  refine go ?_
  refine q_b (fun g16 => ?_) fun g16 => ?_
  ·
   refine go ?_
   refine f_1 results184 ?_
   exact ⟨⟨_, rfl, any_hit (by omega) g16⟩, u_d⟩
  refine go ?_
  exact hK4 (k + 1) ⟨(by omega), (any_snoc (by omega) hnot g16)⟩
 refine go ?_
 refine f_1 results184 ?_
 exact ⟨⟨_, rfl, any_none (by omega) hnot⟩, u_d⟩
theorem containsL_cK {α : Type} [Inhabited α] (enc : α → List Value) (hk : ∀ x, (enc x).length = 7) (p : α → Bool) (fv : FuncId) (caps : List Value) (xs : List α) (ao : Option Addr) (b o cap : Nat) (w0 : World) (ho : Own Tryz.prog fv) (hp : ∀ x ∈ xs, ∀ w, Ext w0 w → CallsV Tryz.prog fv ([.agg (enc x).toArray] ++ caps) w fun v w' => v = .bool (p x) ∧ Ext w w') (hs : Sl enc 7 w0 ao b o xs) (hl : xs.length ≤ 1000000) :
    CallsV Tryz.prog 120 [.slice ao xs.length cap, .func (.func fv) #[] (caps).toArray] w0 (fun v w' => v = .bool (xs.any p) ∧ Ext w0 w') := by
 refine f_n func120 ?_
 refine go ?_
 refine x_c func184 rfl rfl (indexL_cK enc hk p fv caps xs ao b o cap _ ho hp hs hl) ?_
 rintro _ w4 ⟨⟨n, rfl, hn⟩, u5⟩ zu5
 refine go ?_
 refine f_1 results120 ?_
 exact ⟨by rw [hn], u_d⟩
theorem badSlr_c (h : HS) (w0 : World) (hm : SlrM w0 h) :
    CallsV Tryz.prog 118 [.agg #[.int .i64 h.f, .int .i64 h.u, .slice h.ap h.ps.length h.cp, .slice h.ad h.ds.length h.cd]] w0 (fun v w' => v = .bool (!okSlr h.slr) ∧ Ext w0 w') := by
 refine f_n func118 ?_
 refine go ?_
 refine x_b fun bk2 w3 ebk2 sbk2 B4 u5 => ?_
 have E6 := Sc.mk ((Upd.refl (fun _ => False) w0).nx u5)
 refine go ?_
 refine x_c func119 rfl rfl (isSailor_c h.f h.u h.ps h.ap h.bp h.op h.cp h.ds h.ad h.bd h.od h.cd _ (hm.hp.keep E6.u (fun _ h => h)) hm.hpl (hm.hd.keep E6.u (fun _ h => h)) hm.hdl) ?_
 rintro _ w9 ⟨rfl, u10⟩ zu10
 refine go ?_
 refine f_1 results118 ?_
 exact ⟨rfl, u_d⟩
theorem badLeg_c (x : Leg) (w0 : World) :
    CallsV Tryz.prog 121 [.agg #[.int .i64 x.r, .int .i64 x.t.bl, .int .i64 x.t.bh, .int .i64 x.t.el, .int .i64 x.t.eh, .int .i64 x.h, .int .i64 x.p]] w0 (fun v w' => v = .bool (!okLeg x) ∧ Ext w0 w') := by
 refine f_n func121 ?_
 refine go ?_
 refine x_b fun bk2 w3 ebk2 sbk2 B4 u5 => ?_
 refine go ?_
 refine x_c func122 rfl rfl (isLeg_c x _) ?_
 rintro _ w9 ⟨rfl, u10⟩ zu10
 refine go ?_
 refine f_1 results121 ?_
 exact ⟨rfl, u_d⟩
set_option maxHeartbeats 4000000 in
theorem open_cK (r : Rul) (hs : List HS) (al : Option Addr) (bl ol cl : Nat) (xs : List Leg) (ax : Option Addr) (bx ox cx : Nat) (w0 : World) (hl : Sl encHS 4 w0 al bl ol hs) (hll : hs.length ≤ 1000000) (hsm : ∀ h ∈ hs, SlrM w0 h) (hxs : Sl encLeg 7 w0 ax bx ox xs) (hxl : xs.length ≤ 1000000) (hpos : 0 < w0.heap.size) :
    CallsV Tryz.prog 56 [.agg #[.int .i64 r.rest, .int .i64 r.span, .int .i64 r.work, .int .i64 r.week, .int .i64 r.ww], .slice al hs.length cl, .slice ax xs.length cx] w0 (fun v w' => (∃ po e, v = .tuple #[.pointer po, .int .i64 e] ∧ e = openE r (hs.map HS.slr) xs ∧ (e = 0 → ∃ c am mb cm ms, po = some ⟨c, 0, none⟩ ∧ w0.heap.size ≤ c ∧ Blk w' c 267 [.int .i64 r.rest, .int .i64 r.span, .int .i64 r.work, .int .i64 r.week, .int .i64 r.ww, .slice am (List.length ms) cm] ∧ RowM (fun _ => False) w0.heap.size w' am mb cm ms ∧ ms.map HM.mb = hs.map (fun h => boardP h.slr))) ∧ Ext w0 w') := by
 refine f_n func56 ?_
 refine go ?_
 refine x_b fun bk2 w3 ebk2 sbk2 B4 u5 => ?_
 refine go ?_
 refine x_c func116 rfl rfl (Check_cK r _) ?_
 rintro _ w10 ⟨rfl, u11⟩ zu11
 have E13 := Sc.mk (((Upd.refl (fun _ => False) w0).nx u5).nx u11)
 refine go ?_
 refine q_p (fun g15 => ?_) fun g15 => ?_
 ·
  refine go ?_
  refine f_ret2 (v1 := .pointer none) (v2 := .int .i64 (chkR r)) results56 rfl rfl ?_
  exact ⟨⟨none, _, rfl, by unfold openE; rw [if_pos g15], fun h => absurd h (g15)⟩, u_d⟩
 refine go ?_
 refine q_p (fun g17 => ?_) fun g17 => ?_
 ·
  refine go ?_
  refine f_ret2 (v1 := .pointer none) (v2 := .int .i64 5) results56 rfl rfl ?_
  exact ⟨⟨none, _, rfl, by unfold openE; rw [if_neg g15, List.length_map, if_pos (by omega)], fun h => absurd h (by decide)⟩, u_d⟩
 refine go ?_
 refine x_c func117 rfl rfl (containsS_c encHS (fun _ => rfl) (fun h => !okSlr h.slr) 118 [] hs al bl ol cl _ own118 (fun h hh w u => badSlr_c h w ((hsm h hh).ext (E13.u.trans u))) (hl.keep E13.u (fun _ h => h)) hll) ?_
 rintro _ w21 ⟨rfl, u22⟩ zu22
 have E24 := Sc.mk (E13.u.nx u22)
 refine go ?_
 refine q_b (fun g21 => ?_) fun g21 => ?_
 ·
  refine go ?_
  refine f_ret2 (v1 := .pointer none) (v2 := .int .i64 2) results56 rfl rfl ?_
  exact ⟨⟨none, _, rfl, by unfold openE; rw [if_neg g15, List.length_map, if_neg (by omega), if_pos (by rw [← any_slr, g21])], fun h => absurd h (by decide)⟩, u_d⟩
 refine go ?_
 refine q_p (fun g24 => ?_) fun g24 => ?_
 ·
  refine go ?_
  refine f_ret2 (v1 := .pointer none) (v2 := .int .i64 5) results56 rfl rfl ?_
  exact ⟨⟨none, _, rfl, by unfold openE; rw [if_neg g15, List.length_map, if_neg (by omega), if_neg (by rw [← any_slr, g21]; decide), if_pos (by omega)], fun h => absurd h (by decide)⟩, u_d⟩
 refine go ?_
 refine x_c func120 rfl rfl (containsL_cK encLeg (fun _ => rfl) (fun x => !okLeg x) 121 [] xs ax bx ox cx _ own121 (fun x _ w _ => badLeg_c x w) (hxs.keep E24.u (fun _ h => h)) hxl) ?_
 rintro _ w30 ⟨rfl, u31⟩ zu31
 refine go ?_
 refine q_b (fun g28 => ?_) fun g28 => ?_
 ·
  refine go ?_
  refine f_ret2 (v1 := .pointer none) (v2 := .int .i64 2) results56 rfl rfl ?_
  exact ⟨⟨none, _, rfl, by unfold openE; rw [if_neg g15, List.length_map, if_neg (by omega), if_neg (by rw [← any_slr, g21]; decide), if_neg (by omega), if_pos (by rw [g28])], fun h => absurd h (by decide)⟩, u_d⟩
 have hoe : openE r (hs.map HS.slr) xs = 0 := by unfold openE; rw [if_neg g15, List.length_map, if_neg (by omega), if_neg (by rw [← any_slr, g21]; decide), if_neg (by omega), if_neg (by rw [g28]; decide)]
 obtain ⟨hor, hon, hos, _, _⟩ := openE_ok hoe
 refine go ?_
 refine x_b fun bk36 w37 ebk36 sbk36 B38 u39 => ?_
 refine go ?_
 refine x_l5 (fun i => w0.heap.size ≤ i) [9, 35, 36] (fun (k : Nat) (am : Option Addr) (gm : Nat) (cm : Nat) (ms : List HM) => [(37, .int .i64 (k : Int))]) (fun k am gm cm ms w => Blk w bk36 267 [.int .i64 r.rest, .int .i64 r.span, .int .i64 r.work, .int .i64 r.week, .int .i64 r.ww, .slice am ms.length cm] ∧ (k ≤ hs.length) ∧ (RowM (fun _ => False) w0.heap.size w am gm cm ms) ∧ (ms.map HM.mb = (hs.take k).map (fun h => boardP h.slr))) (fun k am gm cm ms => hs.length - k) 0 none 0 0 ([]) ⟨B38, (Nat.zero_le _), ⟨Acc.nil _ _ _ _ _ (by omega) (by omega), fun m hm => (by cases hm)⟩, rfl⟩ ?_
 rintro k am gm cm ms w44 ⟨I46, hk, hms, hmm⟩ u45 zu45 K43 hK43
 have E47 := Sc.mk (((E24.u.nx u31).nx u39).next u45 (fun i hi (h : w0.heap.size ≤ i) => show False by first | omega | assumption))
 have lt_gm := hms.acc.lt
 have hml : ms.length = k := by have := congrArg List.length hmm; simpa [List.length_take, Nat.min_eq_left hk] using this
 have hmc := hms.acc.lt
 have hbl := I46.lt
 have hmb : w0.heap.size ≤ gm → gm ≠ bk36 := hms.acc.neBlk I46 (by decide)
 refine go ?_
 refine q_p (fun g38 => ?_) fun g38 => ?_
 ·
  have hsk := hsm (nth hs k) (nth_mem (by omega))
  have hok1 : okSlr (nth hs k).slr = true := hos _ (List.mem_map.2 ⟨_, nth_mem (by omega), rfl⟩)
  have okd : (nth hs k).ds.length ≤ 20 := (okSlr_ok hok1).2.2.1
  refine go ?_
  refine g_i k (hl.keep E47.u (fun _ h => h)) (fun _ => ?_)
  refine go ?_
  refine x_n fun bk53 w54 ebk53 sbk53 B55 u56 => ?_
  refine x_s fun w58 sw58 B60 u59 => ?_
  refine go ?_
  refine c_drawnM follows (fun i => (i = gm ∧ w0.heap.size ≤ i) ∨ i = bk36) (.look 0 (.look 1 (.look 2 (.look 3 (.look 5 (.act 4 (.act 6 (.act 7 (.act 8 (.look 9 (.look 10 (.act 11 .done .stop))) .stop) .stop) .stop) (.act 6 (.act 4 (.act 7 (.act 8 (.look 9 (.look 10 (.act 11 .done .stop))) .stop) .stop) (.act 7 (.act 4 (.act 8 (.look 9 (.look 10 (.act 11 .done .stop))) .stop) .stop) .stop)) .stop))))))) (by kernel_rfl) fun w62 u63 => ?_
  have zu63 := u63.size
  have E64 := Sc.mk (((E47.u.nx u56).next u59 (fun i hi h => by omega)).nx u63)
  refine go ?_
  refine s_or ?_ ?_
  ·
   refine go ?_
   refine x_c func123 rfl rfl (board_c ((nth hs k).f) ((nth hs k).u) ((nth hs k).ap) ((nth hs k).ps.length) ((nth hs k).cp) ((nth hs k).ds) ((nth hs k).ad) (nth hs k).bd ((nth hs k).od) ((nth hs k).cd) _ (((hsm (nth hs k) (nth_mem (by omega))).ext E64.u).hd) (by omega) (by omega)) ?_
   rintro _ w67 ⟨⟨aoM65, gM65, cM65, rfl, haM65⟩, u68⟩ zu68
   have lt_gM65 := haM65.lt
   have D71 := ((((hms.acc.keep u56 (fun _ h => h)).keep u59 (fun hb => show ¬ (gm = bk53) by first | omega | assumption)).keep u63 (fun _ h => h)).keep u68 (fun _ h => h))
   have B72 := ((((I46.kx u56).keep u59 (by omega)).kx u63).kx u68)
   obtain ⟨gL, haL⟩ := Acc.lower (base' := w0.heap.size) haM65 (by omega) (by omega)
   have hLm : w0.heap.size ≤ gL → w0.heap.size ≤ gm → gL ≠ gm := haL.neAcc D71 (by decide)
   have hLb : w0.heap.size ≤ gL → gL ≠ bk36 := haL.neBlk B72 (by decide)
   have lt_gL := haL.lt
   refine go ?_
   refine x_l fun bk73 w74 ebk73 sbk73 B75 u76 => ?_
   refine go ?_
   have D78 := (D71.keep u76 (fun _ h => h))
   refine t_append (z := .agg #[.int .i64 0, .int .i64 0, .slice none 0 0, .slice none 0 0, .slice none 0 0]) (bytes := 88) (k := 5) (base := w0.heap.size) (MKM (nth hs k) aoM65 gL cM65) underlying265 (by kernel_rfl) rfl (by decide) (fun _ => rfl) (by intro x; simp [encHM, Value.oneCell']) rfl rfl rfl rfl D78 B75 (by omega) (by omega) (by decide) (fun ao79 gb80 cp81 w82 A83 u84 gegb80 lngb80 => ?_)
   have zu84 := u84.size
   have lt_gb80 := A83.lt
   refine go ?_
   refine x_s fun w86 sw86 B88 u87 => ?_
   refine go ?_
   have D90 := (A83.keep u87 (fun hb => show ¬ (gb80 = bk36) by first | omega | assumption))
   have D91 := (((haL.keep u76 (fun _ h => h)).keep u84 (fun hb => show ¬ ((gL = gm ∧ w0.heap.size ≤ gL)) by first | omega | assumption)).keep u87 (fun hb => show ¬ (gL = bk36) by first | omega | assumption))
   have uR := ((((((((Upd.refl (fun i => (i = gm ∧ w0.heap.size ≤ i) ∨ i = bk36) _).nx u56).next u59 (fun i hi (h : i = bk53) => show (i = gm ∧ w0.heap.size ≤ i) ∨ i = bk36 by omega)).nx u63).nx u68).nx u76).next u84 (fun i hi (h : (i = gm ∧ w0.heap.size ≤ i)) => show (i = gm ∧ w0.heap.size ≤ i) ∨ i = bk36 by omega)).next u87 (fun i hi (h : i = bk36) => show (i = gm ∧ w0.heap.size ≤ i) ∨ i = bk36 by omega))
   exact hK43 (k + 1) ao79 gb80 cp81 (ms ++ [MKM (nth hs k) aoM65 gL cM65]) ⟨B88, (by omega), ⟨D90, fun m hm => by
     rcases List.mem_append.1 hm with q | q
     · have hq := hms.mem m q
       refine hq.upd uR (fun hp h => ?_) (fun hp h => ?_)
       · have := hq.hb hp; omega
       · rcases h with h | h
         · exact hq.ht.neAcc hms.acc (by decide) hp (by omega) h.1
         · exact hq.ht.neBlk I46 (by decide) hp h
     · rw [List.mem_singleton.1 q]; exact MKM.mem (hsk.ext ((((E64.u.nx u68).nx u76).next u84 (fun i hi h => by omega)).next u87 (fun i hi h => by omega))) hok1 (fun hp => hsk.hp.lt hp) (D91)⟩, (by rw [List.map_append, hmm, take_nth (by omega), List.map_append]; rfl)⟩ (hu := (((((((u45.nx u56).next u59 (fun i hi (h : i = bk53) => show w0.heap.size ≤ i by first | omega | assumption)).nx u63).nx u68).nx u76).next u84 (fun i hi (h : (i = gm ∧ w0.heap.size ≤ i)) => show w0.heap.size ≤ i by first | omega | assumption)).next u87 (fun i hi (h : i = bk36) => show w0.heap.size ≤ i by first | omega | assumption)))
  refine go ?_
  refine x_c func123 rfl rfl (board_c ((nth hs k).f) ((nth hs k).u) ((nth hs k).ap) ((nth hs k).ps.length) ((nth hs k).cp) ((nth hs k).ds) ((nth hs k).ad) (nth hs k).bd ((nth hs k).od) ((nth hs k).cd) _ (((hsm (nth hs k) (nth_mem (by omega))).ext E64.u).hd) (by omega) (by omega)) ?_
  rintro _ w94 ⟨⟨aoM92, gM92, cM92, rfl, haM92⟩, u95⟩ zu95
  have E97 := Sc.mk (E64.u.nx u95)
  have lt_gM92 := haM92.lt
  have D98 := ((((hms.acc.keep u56 (fun _ h => h)).keep u59 (fun hb => show ¬ (gm = bk53) by first | omega | assumption)).keep u63 (fun _ h => h)).keep u95 (fun _ h => h))
  have B99 := ((((I46.kx u56).keep u59 (by omega)).kx u63).kx u95)
  obtain ⟨gL, haL⟩ := Acc.lower (base' := w0.heap.size) haM92 (by omega) (by omega)
  have hLm : w0.heap.size ≤ gL → w0.heap.size ≤ gm → gL ≠ gm := haL.neAcc D98 (by decide)
  have hLb : w0.heap.size ≤ gL → gL ≠ bk36 := haL.neBlk B99 (by decide)
  have lt_gL := haL.lt
  refine go ?_
  refine s_or ?_ ?_
  ·
   refine go ?_
   refine x_l fun bk100 w101 ebk100 sbk100 B102 u103 => ?_
   refine go ?_
   have D105 := (D98.keep u103 (fun _ h => h))
   refine t_append (z := .agg #[.int .i64 0, .int .i64 0, .slice none 0 0, .slice none 0 0, .slice none 0 0]) (bytes := 88) (k := 5) (base := w0.heap.size) (MKM (nth hs k) aoM92 gL cM92) underlying265 (by kernel_rfl) rfl (by decide) (fun _ => rfl) (by intro x; simp [encHM, Value.oneCell']) rfl rfl rfl rfl D105 B102 (by omega) (by omega) (by decide) (fun ao106 gb107 cp108 w109 A110 u111 gegb107 lngb107 => ?_)
   have zu111 := u111.size
   have lt_gb107 := A110.lt
   refine go ?_
   refine x_s fun w113 sw113 B115 u114 => ?_
   refine go ?_
   have D117 := (A110.keep u114 (fun hb => show ¬ (gb107 = bk36) by first | omega | assumption))
   have D118 := (((haL.keep u103 (fun _ h => h)).keep u111 (fun hb => show ¬ ((gL = gm ∧ w0.heap.size ≤ gL)) by first | omega | assumption)).keep u114 (fun hb => show ¬ (gL = bk36) by first | omega | assumption))
   have uR := ((((((((Upd.refl (fun i => (i = gm ∧ w0.heap.size ≤ i) ∨ i = bk36) _).nx u56).next u59 (fun i hi (h : i = bk53) => show (i = gm ∧ w0.heap.size ≤ i) ∨ i = bk36 by omega)).nx u63).nx u95).nx u103).next u111 (fun i hi (h : (i = gm ∧ w0.heap.size ≤ i)) => show (i = gm ∧ w0.heap.size ≤ i) ∨ i = bk36 by omega)).next u114 (fun i hi (h : i = bk36) => show (i = gm ∧ w0.heap.size ≤ i) ∨ i = bk36 by omega))
   exact hK43 (k + 1) ao106 gb107 cp108 (ms ++ [MKM (nth hs k) aoM92 gL cM92]) ⟨B115, (by omega), ⟨D117, fun m hm => by
     rcases List.mem_append.1 hm with q | q
     · have hq := hms.mem m q
       refine hq.upd uR (fun hp h => ?_) (fun hp h => ?_)
       · have := hq.hb hp; omega
       · rcases h with h | h
         · exact hq.ht.neAcc hms.acc (by decide) hp (by omega) h.1
         · exact hq.ht.neBlk I46 (by decide) hp h
     · rw [List.mem_singleton.1 q]; exact MKM.mem (hsk.ext (((E97.u.nx u103).next u111 (fun i hi h => by omega)).next u114 (fun i hi h => by omega))) hok1 (fun hp => hsk.hp.lt hp) (D118)⟩, (by rw [List.map_append, hmm, take_nth (by omega), List.map_append]; rfl)⟩ (hu := (((((((u45.nx u56).next u59 (fun i hi (h : i = bk53) => show w0.heap.size ≤ i by first | omega | assumption)).nx u63).nx u95).nx u103).next u111 (fun i hi (h : (i = gm ∧ w0.heap.size ≤ i)) => show w0.heap.size ≤ i by first | omega | assumption)).next u114 (fun i hi (h : i = bk36) => show w0.heap.size ≤ i by first | omega | assumption)))
  refine go ?_
  refine x_l fun bk119 w120 ebk119 sbk119 B121 u122 => ?_
  refine go ?_
  have D124 := (D98.keep u122 (fun _ h => h))
  refine t_append (z := .agg #[.int .i64 0, .int .i64 0, .slice none 0 0, .slice none 0 0, .slice none 0 0]) (bytes := 88) (k := 5) (base := w0.heap.size) (MKM (nth hs k) aoM92 gL cM92) underlying265 (by kernel_rfl) rfl (by decide) (fun _ => rfl) (by intro x; simp [encHM, Value.oneCell']) rfl rfl rfl rfl D124 B121 (by omega) (by omega) (by decide) (fun ao125 gb126 cp127 w128 A129 u130 gegb126 lngb126 => ?_)
  have zu130 := u130.size
  have lt_gb126 := A129.lt
  refine go ?_
  refine x_s fun w132 sw132 B134 u133 => ?_
  refine go ?_
  have D136 := (A129.keep u133 (fun hb => show ¬ (gb126 = bk36) by first | omega | assumption))
  have D137 := (((haL.keep u122 (fun _ h => h)).keep u130 (fun hb => show ¬ ((gL = gm ∧ w0.heap.size ≤ gL)) by first | omega | assumption)).keep u133 (fun hb => show ¬ (gL = bk36) by first | omega | assumption))
  have uR := ((((((((Upd.refl (fun i => (i = gm ∧ w0.heap.size ≤ i) ∨ i = bk36) _).nx u56).next u59 (fun i hi (h : i = bk53) => show (i = gm ∧ w0.heap.size ≤ i) ∨ i = bk36 by omega)).nx u63).nx u95).nx u122).next u130 (fun i hi (h : (i = gm ∧ w0.heap.size ≤ i)) => show (i = gm ∧ w0.heap.size ≤ i) ∨ i = bk36 by omega)).next u133 (fun i hi (h : i = bk36) => show (i = gm ∧ w0.heap.size ≤ i) ∨ i = bk36 by omega))
  exact hK43 (k + 1) ao125 gb126 cp127 (ms ++ [MKM (nth hs k) aoM92 gL cM92]) ⟨B134, (by omega), ⟨D136, fun m hm => by
    rcases List.mem_append.1 hm with q | q
    · have hq := hms.mem m q
      refine hq.upd uR (fun hp h => ?_) (fun hp h => ?_)
      · have := hq.hb hp; omega
      · rcases h with h | h
        · exact hq.ht.neAcc hms.acc (by decide) hp (by omega) h.1
        · exact hq.ht.neBlk I46 (by decide) hp h
    · rw [List.mem_singleton.1 q]; exact MKM.mem (hsk.ext (((E97.u.nx u122).next u130 (fun i hi h => by omega)).next u133 (fun i hi h => by omega))) hok1 (fun hp => hsk.hp.lt hp) (D137)⟩, (by rw [List.map_append, hmm, take_nth (by omega), List.map_append]; rfl)⟩ (hu := (((((((u45.nx u56).next u59 (fun i hi (h : i = bk53) => show w0.heap.size ≤ i by first | omega | assumption)).nx u63).nx u95).nx u122).next u130 (fun i hi (h : (i = gm ∧ w0.heap.size ≤ i)) => show w0.heap.size ≤ i by first | omega | assumption)).next u133 (fun i hi (h : i = bk36) => show w0.heap.size ≤ i by first | omega | assumption)))
 refine go ?_
 refine f_ret2 (v1 := .pointer (some ⟨bk36, 0, none⟩)) (v2 := .int .i64 0) results56 rfl rfl ?_
 exact ⟨⟨_, 0, rfl, hoe.symm, fun _ => ⟨bk36, am, gm, cm, ms, rfl, by omega, I46, hms.ext (Upd.refl _ _), by rw [hmm, show k = hs.length by omega, List.take_length]⟩⟩, u_d⟩

end Go.Proofs.YtclinbbghnebaaaGreat
namespace Go.Proofs.YtclinbbghnebaaaGreat
open Go Go.RowKit Go.Proofs.Tryz
set_option maxRecDepth 10000

/-- A team: its members' numbers, how many are pilots, and all members behind it. -/
structure Tm where
  nums : List Int
  pl : Int
  ms : List Mb
instance : Inhabited Tm := ⟨⟨default, default, default⟩⟩
def canM (r : Rul) (x : Leg) (m : Mb) : Bool := canB r m.f m.u m.ts x
def aftM (x : Leg) (m : Mb) : Mb := ⟨m.f, m.u, m.ps, canT m.f m.u m.ts x⟩
def pltI (m : Mb) (x : Leg) : Int := if pltP m.ps x = true then 1 else 0
theorem pltI_rng (m : Mb) (x : Leg) : 0 ≤ pltI m x ∧ pltI m x ≤ 1 := by unfold pltI; split <;> decide
/-- The teams for a leg, in the order in which they are handed out. -/
def teamsP (r : Rul) (x : Leg) : Nat → Nat → List Int → Int → List Mb → List Tm
  | 0, _, nums, pl, ms => if x.p ≤ pl then [⟨nums, pl, ms⟩] else []
  | k + 1, i, nums, pl, ms => (List.range' i (ms.length - i)).flatMap fun i => if canM r x (nth ms i) = true then teamsP r x k (i + 1) (nums ++ [(i : Int)]) (pl + pltI (nth ms i) x) (ms.set i (aftM x (nth ms i))) else []
theorem teams_end {r : Rul} {x : Leg} {k i : Nat} {nums : List Int} {pl : Int} {ms : List Mb} (h : ms.length ≤ i) : teamsP r x (k + 1) i nums pl ms = [] := by
  unfold teamsP; rw [Nat.sub_eq_zero_of_le h]; rfl
theorem teams_step {r : Rul} {x : Leg} {k i : Nat} {nums : List Int} {pl : Int} {ms : List Mb} (h : i < ms.length) : teamsP r x (k + 1) i nums pl ms = (if canM r x (nth ms i) = true then teamsP r x k (i + 1) (nums ++ [(i : Int)]) (pl + pltI (nth ms i) x) (ms.set i (aftM x (nth ms i))) else []) ++ teamsP r x (k + 1) (i + 1) nums pl ms := by
  rw [teamsP, show ms.length - i = (ms.length - (i + 1)) + 1 by omega, List.range'_succ, List.flatMap_cons, teamsP]
theorem teams_step' {r : Rul} {x : Leg} {need i : Nat} {nums : List Int} {pl : Int} {ms : List Mb} (hn : 0 < need) (h : i < ms.length) : teamsP r x need i nums pl ms = (if canM r x (nth ms i) = true then teamsP r x (need - 1) (i + 1) (nums ++ [(i : Int)]) (pl + pltI (nth ms i) x) (ms.set i (aftM x (nth ms i))) else []) ++ teamsP r x need (i + 1) nums pl ms := by
  cases need with
  | zero => cases hn
  | succ k => exact teams_step h
theorem teams_end' {r : Rul} {x : Leg} {need i : Nat} {nums : List Int} {pl : Int} {ms : List Mb} (hn : 0 < need) (h : ms.length ≤ i) : teamsP r x need i nums pl ms = [] := by
  cases need with
  | zero => cases hn
  | succ k => exact teams_end h
theorem nth_map' {α β : Type} [Inhabited α] [Inhabited β] (f : α → β) {l : List α} {i : Nat} (h : i < l.length) : nth (l.map f) i = f (nth l i) := by
  rw [nth_eq h, nth_eq (by simpa using h)]; simp
theorem set_self {α : Type} [Inhabited α] {l : List α} {i : Nat} (h : i < l.length) : l.set i (nth l i) = l := by rw [nth_eq h]; exact List.set_getElem_self h
theorem canB_win {r : Rul} {f u : Int} {l : List Sp} {x : Leg} (h : canB r f u l x = true) : winM f u x = true := by unfold canB at h; exact (Bool.and_eq_true_iff.1 h).1
/-- A team that is handed out; those before it; the members in memory. -/
structure HT where
  pre : List Tm
  nums : List Int
  ao : Option Addr
  g : Nat
  cap : Nat
  pl : Int
  hm : List HM
  w : World
def encHT (x : HT) : Value := .agg #[.slice x.ao x.nums.length x.cap, .int .i64 x.pl]
def HT.tm (x : HT) : Tm := ⟨x.nums, x.pl, x.hm.map HM.mb⟩
/-- The crew in memory: its rules and the row of its members. -/
structure RowC (F : Nat → Prop) (pb c : Nat) (r : Rul) (am : Option Addr) (mb cm n : Nat) (ms : List HM) (w : World) : Prop where
  row : RowM F pb w am mb cm ms
  blk : Blk w c 267 [.int .i64 r.rest, .int .i64 r.span, .int .i64 r.work, .int .i64 r.week, .int .i64 r.ww, .slice am n cm]
  len : ms.length = n
theorem RowC.ext {F : Nat → Prop} {pb c : Nat} {r : Rul} {am : Option Addr} {mb cm n : Nat} {ms : List HM} {w w' : World} (h : RowC F pb c r am mb cm n ms w) (u : Ext w w') : RowC F pb c r am mb cm n ms w' := ⟨h.row.ext u, h.blk.kx u, h.len⟩
theorem RowC.turned {F : Nat → Prop} {pb c : Nat} {r : Rul} {am : Option Addr} {mb cm n l : Nat} : Turned l (RowC F pb c r am mb cm n) := fun ms W W' h hl u => ⟨RowM.turned ms W W' h.row hl u, h.blk.keep u (h.blk.notLoop hl), h.len⟩
theorem RowC.mono {F G : Nat → Prop} {pb c : Nat} {r : Rul} {am : Option Addr} {mb cm n : Nat} {ms : List HM} {w : World} (h : RowC F pb c r am mb cm n ms w) (hG : ∀ m ∈ ms, pb ≤ m.gt → G m.gt → F m.gt) : RowC G pb c r am mb cm n ms w := ⟨h.row.mono hG, h.blk, h.len⟩
theorem RowM.pos {F : Nat → Prop} {pb : Nat} {w : World} {am : Option Addr} {mb cm : Nat} {ms : List HM} (h : RowM F pb w am mb cm ms) (hp : 0 < ms.length) : pb ≤ mb := by
  rcases h.acc.at_ with ⟨_, h1, _⟩ | ⟨_, h1, _⟩
  · rw [h1] at hp; cases hp
  · exact h1
theorem Acc.someL {α : Type} {enc : α → List Value} {k : Nat} {e : TypeId} {base base' : Nat} {w : World} {a : Addr} {g cap : Nat} {xs : List α} (h : Acc enc k e base w (some a) g cap xs) (hb : base' ≤ base) : Acc enc k e base' w (some a) g cap xs :=
  ⟨h.lt, h.at_.elim (fun q => by cases q.1) (fun q => .inr ⟨q.1, Nat.le_trans hb q.2.1, q.2.2⟩)⟩
abbrev MB (mb pb : Nat) (i : Nat) : Prop := i = mb ∧ pb ≤ i
theorem RowC.set {F : Nat → Prop} {pb c : Nat} {r : Rul} {am : Option Addr} {mb cm n i : Nat} {ms : List HM} {m : HM} {w w' : World} (h : RowC F pb c r am mb cm n ms w) (hm : pb ≤ mb → F mb) (u : Upd (· = mb) w w') (hpm : pb ≤ mb) (ha : Acc encHM 5 269 pb w' am mb cm (ms.set i m)) (hn : MbM F pb w m) (hc : c ≠ mb) : RowC F pb c r am mb cm n (ms.set i m) w' :=
  ⟨h.row.set hm (u.mono fun i e => ⟨e, by omega⟩) ha hn, h.blk.keep u hc, by rw [List.length_set]; exact h.len⟩
def FX (F : Nat → Prop) (l : Nat) (i : Nat) : Prop := F i ∨ i = l
theorem TP.fx {F : Nat → Prop} {pb l i : Nat} {w : World} (h : TP F pb w i) : TP (FX F l) pb w i := h.elim (fun h => .inl (.inl h)) .inr
theorem TP.unfx {F : Nat → Prop} {pb l i : Nat} {w : World} (h : TP (FX F l) pb w i) (hl : i ≠ l) : TP F pb w i := h.elim (fun h => h.elim .inl (fun e => absurd e hl)) .inr
theorem MbM.fx {F : Nat → Prop} {pb l : Nat} {w : World} {m : HM} (h : MbM F pb w m) (hl : pb ≤ m.gt → m.gt ≠ l) : MbM (FX F l) pb w m := ⟨h.hp, h.hb, h.hpl, h.ht, fun hb hf => hf.elim (h.hn hb) (hl hb), h.srt, h.ok⟩
theorem MbM.unfx {F : Nat → Prop} {pb l : Nat} {w : World} {m : HM} (h : MbM (FX F l) pb w m) : MbM F pb w m := ⟨h.hp, h.hb, h.hpl, h.ht, fun hb hf => h.hn hb (.inl hf), h.srt, h.ok⟩
abbrev F0 : Nat → Prop := fun _ => False
theorem MbM.f0 {F : Nat → Prop} {pb : Nat} {w : World} {m : HM} (h : MbM F pb w m) : MbM F0 pb w m := ⟨h.hp, h.hb, h.hpl, h.ht, fun _ hf => hf, h.srt, h.ok⟩
theorem MbM.rowT {F : Nat → Prop} {pb mb cm : Nat} {am : Option Addr} {ms : List HM} {w w' : World} {m : HM} (h : MbM F pb w m) (ha : Acc encHM 5 269 pb w am mb cm ms) (u : Upd (MB mb pb) w w') : MbM F pb w' m :=
  h.upd u (fun hp hq => by have h1 := h.hb hp; have h2 := hq.2; omega) (fun hb q => h.ht.neAcc ha (by decide) hb (q.1 ▸ q.2) q.1)
theorem RowC.toF {F G : Nat → Prop} {pb c : Nat} {r : Rul} {am am' : Option Addr} {mb cm n mb' cm' : Nat} {ms : List HM} {w w' : World} (h : RowC F pb c r am mb cm n ms w) (g : RowM G pb w' am' mb' cm' ms) : RowC G pb c r am mb cm n ms w :=
  ⟨⟨h.row.acc, fun m hm => let q := h.row.mem m hm; ⟨q.hp, q.hb, q.hpl, q.ht, (g.mem m hm).hn, q.srt, q.ok⟩⟩, h.blk, h.len⟩
structure YT (F : Nat → Prop) (pb c : Nat) (r : Rul) (am : Option Addr) (mb cm n B D : Nat) (C : List Tm → World → Prop) (x : HT) (W : World) : Prop where
  hc : C x.pre W
  row : RowC F pb c r am mb cm n x.hm W
  num : Acc encI 1 3 pb W x.ao x.g x.cap x.nums
  nf : pb ≤ x.g → ¬ F x.g
  len : ∀ m ∈ x.hm, m.ts.length ≤ B
  n3 : x.nums.length ≤ 3
  hD : D + 1 < W.heap.size
  upd : Upd (· = D + 1) x.w W
structure ZT (F : Nat → Prop) (pb c : Nat) (r : Rul) (am : Option Addr) (mb cm n : Nat) (C : List Tm → World → Prop) (x : HT) (W : World) : Prop where
  hc : C (x.pre ++ [x.tm]) W
  row : RowC F pb c r am mb cm n x.hm W
  upd : Upd (TP F pb x.w) x.w W
structure FT (F : Nat → Prop) (pb c : Nat) (r : Rul) (am : Option Addr) (mb cm n : Nat) (Cf : List Tm × Tm → World → Prop) (φ : List HM → List HM) (x : HT) (W : World) : Prop where
  hc : Cf (x.pre, x.tm) W
  row : RowC F0 pb c r am mb cm n (φ x.hm) W
  upd : Upd (TP F pb x.w) x.w W
def EndT (ts : List Tm) (Cf : List Tm × Tm → World → Prop) (W : World) : Prop := ∃ pre v post, ts = pre ++ v :: post ∧ Cf (pre, v) W
theorem YT.turned {F : Nat → Prop} {pb c : Nat} {r : Rul} {am : Option Addr} {mb cm n B D : Nat} {C : List Tm → World → Prop} (hC : Turned (D + 1) C) : Turned (D + 1) (YT F pb c r am mb cm n B D C) := fun _x _W _W' h hl u =>
  ⟨hC _ _ _ h.hc hl u, RowC.turned _ _ _ h.row hl u, h.num.keep u (h.num.notLoop hl), h.nf, h.len, h.n3, Nat.lt_of_lt_of_le h.hD u.size, h.upd.trans u⟩
theorem tp_turn {F : Nat → Prop} {pb l : Nat} {w W W' : World} (h : Upd (TP F pb w) w W) (hl : F l) (u : Upd (· = l) W W') : Upd (TP F pb w) w W' := h.next u (fun _i _ e => .inl (e ▸ hl))
theorem ZT.turned {F : Nat → Prop} {pb c : Nat} {r : Rul} {am : Option Addr} {mb cm n l : Nat} {C : List Tm → World → Prop} (hC : Turned l C) (hT : F l) : Turned l (ZT F pb c r am mb cm n C) := fun _x _W _W' h hl u =>
  ⟨hC _ _ _ h.hc hl u, RowC.turned _ _ _ h.row hl u, tp_turn h.upd hT u⟩
theorem FT.turned {F : Nat → Prop} {pb c : Nat} {r : Rul} {am : Option Addr} {mb cm n l : Nat} {Cf : List Tm × Tm → World → Prop} {φ : List HM → List HM} (hC : Turned l Cf) (hT : F l) : Turned l (FT F pb c r am mb cm n Cf φ) := fun _x _W _W' h hl u =>
  ⟨hC _ _ _ h.hc hl u, RowC.turned _ _ _ h.row hl u, tp_turn h.upd hT u⟩
/-- It stands where blocks that are no cells are turned, from B on. -/
def Bent {β : Type} (B : Nat) (C : β → World → Prop) : Prop := ∀ x W W' (S : Nat → Prop), C x W → Upd S W W' → (∀ i, S i → B ≤ i ∧ ∀ c t f, W.heap[i]? ≠ some (.cells c t f)) → C x W'
theorem Bent.mono {β : Type} {B B' : Nat} {C : β → World → Prop} (h : Bent B C) (hb : B ≤ B') : Bent B' C := fun x W W' S hc u hS => h x W W' S hc u (fun i hi => ⟨Nat.le_trans hb (hS i hi).1, (hS i hi).2⟩)
theorem Bent.turned {β : Type} {B l : Nat} {C : β → World → Prop} (h : Bent B C) (hl : B ≤ l) : Turned l C := fun x W W' hc hr u => h x W W' _ hc u (fun i e => ⟨e ▸ hl, fun c t f q => by obtain ⟨r, hr⟩ := hr; rw [e, hr] at q; cases q⟩)
theorem Marks.bent {base : Nat} {ds : List Deferred} {w : World} (h : Marks base ds w) : ∀ i, (∃ d ∈ ds, d = mark i) → base ≤ i ∧ ∀ c t f, w.heap[i]? ≠ some (.cells c t f) := by
  refine fun i hi => ⟨?_, fun c t f q => h.notCells q hi⟩
  obtain ⟨d, hd, e⟩ := hi
  induction ds with
  | nil => cases hd
  | cons d' ds ih =>
    rcases List.mem_cons.1 hd with q | q
    · obtain ⟨⟨D, h1, h2, _⟩, _⟩ := h
      rw [← q, e] at h1; injection h1 with h1; injection h1 with h1; omega
    · exact ih h.2 q
theorem RowC.bent {F : Nat → Prop} {pb c : Nat} {r : Rul} {am : Option Addr} {mb cm n B : Nat} (hB : pb ≤ B) : Bent B (RowC F pb c r am mb cm n) := fun ms W W' S h u hS => by
  have key : ∀ {α : Type} {enc : α → List Value} {k e : Nat} {ao : Option Addr} {g cap : Nat} {xs : List α}, Acc enc k e pb W ao g cap xs → pb ≤ g → ¬ S g := fun ha hb hs => by
    rcases ha.at_ with ⟨_, _, _, h1⟩ | ⟨_, _, cur, h1, _⟩
    · omega
    · exact (hS _ hs).2 _ _ _ h1
  refine ⟨⟨h.row.acc.keep u (key h.row.acc), fun m hm => ?_⟩, h.blk.keep u (fun hs => (hS _ hs).2 _ _ _ h.blk), h.len⟩
  have q := h.row.mem m hm
  exact q.upd u (fun hp hs => by have h1 := q.hb hp; have h2 := (hS _ hs).1; omega) (key q.ht)
/-- What holds ahead of an iterator over teams. -/
structure TmP (P : Program) (r : Rul) (x : Leg) (pb c : Nat) (am : Option Addr) (mb cm n B : Nat) (F : Nat → Prop) (l D : Nat) (C : List Tm → World → Prop) (Cf : List Tm × Tm → World → Prop) (R Rf : World → Prop) (φ : List HM → List HM) (b7 b5 b6 b4 need i0 : Nat) (nums : List Int) (an : Option Addr) (gn cn : Nat) (pl : Int) (ms : List HM) (w0 : World) : Prop where
  hr : okRul r = true
  hx : okLeg x = true
  hC : ∀ pre W W', C pre W → Upd (MB mb pb) W W' → C pre W'
  hCf : ∀ p W W', Cf p W → Upd (MB mb pb) W W' → Cf p W'
  hCt : Bent w0.heap.size C
  hCft : Bent w0.heap.size Cf
  hH : HandsL P l D encHT (YT F pb c r am mb cm n B D C) (ZT F pb c r am mb cm n C) (FT F pb c r am mb cm n Cf φ) R Rf
  h7 : Blk w0 b7 275 [.slice an nums.length cn, .int .i64 pl]
  h5 : Blk w0 b5 79 (encLeg x)
  h6 : Blk w0 b6 3 [.int .i64 (i0 : Int)]
  h4 : Blk w0 b4 159 [.pointer (some ⟨c, 0, none⟩)]
  row : RowC F pb c r am mb cm n ms w0
  num : Acc encI 1 3 pb w0 an gn cn nums
  hng : pb ≤ gn → ¬ F gn
  hF : ∀ i, F i → pb ≤ i ∧ i < w0.heap.size
  n7 : ¬ F b7
  n5 : ¬ F b5
  n4 : ¬ F b4
  nc : ¬ F c
  hFl : F l
  hFm : pb ≤ mb → F mb
  hl : l = D + 1
  hD : D + 1 < w0.heap.size
  hpb : 0 < pb ∧ pb ≤ D
  hnd : (nums.length : Int) + need = x.h
  hB : ∀ m ∈ ms, m.ts.length + need ≤ B
  hB9 : B ≤ 90
  hn : n ≤ 6
  hpl : 0 ≤ pl ∧ pl ≤ nums.length
  c0 : C [] w0
  r0 : R w0
  hφl : ∀ ms, (φ ms).length = ms.length
  hφ : ∀ ms i m, i0 ≤ i → φ (ms.set i m) = (φ ms).set i m
def TmQ (r : Rul) (x : Leg) (pb c : Nat) (am : Option Addr) (mb cm n : Nat) (F : Nat → Prop) (C : List Tm → World → Prop) (Cf : List Tm × Tm → World → Prop) (R Rf : World → Prop) (φ : List HM → List HM) (need i0 : Nat) (nums : List Int) (pl : Int) (ms : List HM) (w0 w' : World) : Prop :=
  ((C (teamsP r x need i0 nums pl (ms.map HM.mb)) w' ∧ R w' ∧ RowC F pb c r am mb cm n ms w') ∨ (EndT (teamsP r x need i0 nums pl (ms.map HM.mb)) Cf w' ∧ Rf w' ∧ RowC F0 pb c r am mb cm n (φ ms) w')) ∧ Upd (TP F pb w0) w0 w'
def TeamsQ (P : Program) (r : Rul) (x : Leg) (pb c : Nat) (am : Option Addr) (mb cm n B need : Nat) : Prop :=
  ∀ F l D C Cf R Rf φ b7 b5 b6 b4 i0 nums an gn cn pl ms w0, TmP P r x pb c am mb cm n B F l D C Cf R Rf φ b7 b5 b6 b4 need i0 nums an gn cn pl ms w0 →
    CallsV P 186 [.func (.yield l) #[] #[], .pointer (some ⟨b7, 0, none⟩), .pointer (some ⟨b5, 0, none⟩), .pointer (some ⟨b6, 0, none⟩), .pointer (some ⟨b4, 0, none⟩)] w0 (fun _ w' => TmQ r x pb c am mb cm n F C Cf R Rf φ need i0 nums pl ms w0 w')
/-- The inner iterator's consumer. -/
structure CX (F : Nat → Prop) (pb : Nat) (wR : World) (C : List Tm → World → Prop) (R : World → Prop) (ts pre : List Tm) (W : World) : Prop where
  hc : C (ts ++ pre) W
  hr : R W
  hu : Upd (TP F pb wR) wR W
structure CfX (F : Nat → Prop) (pb : Nat) (wR : World) (Cf : List Tm × Tm → World → Prop) (Rf : World → Prop) (ts : List Tm) (p : List Tm × Tm) (W : World) : Prop where
  hc : Cf (ts ++ p.1, p.2) W
  hr : Rf W
  hu : Upd (TP F pb wR) wR W
def PX (φ : List HM → List HM) (i : Nat) (m : HM) (ms : List HM) : List HM := (φ ms).set i m
theorem CX.bent {F : Nat → Prop} {pb B B' : Nat} {wR : World} {C : List Tm → World → Prop} {R : World → Prop} {ts : List Tm} (hC : Bent B C) (hR : Bent B (fun (_ : Unit) W => R W)) (hb : B ≤ B') (hw : wR.heap.size ≤ B') : Bent B' (CX F pb wR C R ts) := fun x W W' S h u hS =>
  ⟨(hC.mono hb) _ _ _ _ h.hc u hS, (hR.mono hb) () _ _ _ h.hr u hS, h.hu.next u (fun i hi hs => by have := (hS i hs).1; omega)⟩
theorem CfX.bent {F : Nat → Prop} {pb B B' : Nat} {wR : World} {C : List Tm × Tm → World → Prop} {R : World → Prop} {ts : List Tm} (hC : Bent B C) (hR : Bent B (fun (_ : Unit) W => R W)) (hb : B ≤ B') (hw : wR.heap.size ≤ B') : Bent B' (CfX F pb wR C R ts) := fun x W W' S h u hS =>
  ⟨(hC.mono hb) _ _ _ _ h.hc u hS, (hR.mono hb) () _ _ _ h.hr u hS, h.hu.next u (fun i hi hs => by have := (hS i hs).1; omega)⟩
theorem bentR {P : Program} {l D B : Nat} {enc : HT → Value} {Y Z Zf : HT → World → Prop} {R Rf : World → Prop} (h : HandsL P l D enc Y Z Zf R Rf) (hl : l < B) (hD : D < B) : Bent B (fun (_ : Unit) W => R W) ∧ Bent B (fun (_ : Unit) W => Rf W) :=
  ⟨fun _ W W' S hr u hS => h.keep hr u (fun q => by have := (hS _ q).1; omega) (fun q => by have := (hS _ q).1; omega), fun _ W W' S hr u hS => h.keepf hr u (fun q => by have := (hS _ q).1; omega) (fun q => by have := (hS _ q).1; omega)⟩
/-- How an inner range over teams ends. -/
structure EX (F G : Nat → Prop) (pb c : Nat) (r : Rul) (am : Option Addr) (mb cm n : Nat) (wR : World) (I : World → Prop) (ms : List HM) (W : World) : Prop where
  hi : I W
  row : RowC G pb c r am mb cm n ms W
  hu : Upd (TP F pb wR) wR W
theorem EX.turned {F G : Nat → Prop} {pb c : Nat} {r : Rul} {am : Option Addr} {mb cm n l : Nat} {wR : World} {I : World → Prop} {ms : List HM} (hI : Turned l (fun (_ : Unit) W => I W)) (hl : F l) : Turned l (fun (_ : Unit) W => EX F G pb c r am mb cm n wR I ms W) := fun _ _W _W' h hr u =>
  ⟨hI () _ _ h.hi hr u, RowC.turned _ _ _ h.row hr u, tp_turn h.hu hl u⟩
theorem EndT.turned {ts : List Tm} {Cf : List Tm × Tm → World → Prop} {l : Nat} (h : Turned l Cf) : Turned l (fun (_ : Unit) W => EndT ts Cf W) := fun _ _W _W' ⟨pre, v, post, e, hc⟩ hr u => ⟨pre, v, post, e, h _ _ _ hc hr u⟩
theorem EndT.bent {ts : List Tm} {Cf : List Tm × Tm → World → Prop} {B : Nat} (h : Bent B Cf) : Bent B (fun (_ : Unit) W => EndT ts Cf W) := fun _ _W _W' _S ⟨pre, v, post, e, hc⟩ u hS => ⟨pre, v, post, e, h _ _ _ _ hc u hS⟩
theorem EndT.mb {ts : List Tm} {Cf : List Tm × Tm → World → Prop} {mb pb : Nat} (h : ∀ p W W', Cf p W → Upd (MB mb pb) W W' → Cf p W') {W W' : World} : EndT ts Cf W → Upd (MB mb pb) W W' → EndT ts Cf W' := fun ⟨pre, v, post, e, hc⟩ u => ⟨pre, v, post, e, h _ _ _ hc u⟩
/-- A member who has a leg. -/
def HM.put (m : HM) (x : Leg) (a : Option Addr) (g c : Nat) : HM := ⟨m.f, m.u, m.ps, m.ap, m.bp, m.op, m.cp, m.ad, m.nd, m.cd, canT m.f m.u m.ts x, a, g, c⟩
theorem map_put {ms : List HM} {x : Leg} {i : Nat} {a : Option Addr} {g c : Nat} (h : i < ms.length) : (ms.set i ((nth ms i).put x a g c)).map HM.mb = (ms.map HM.mb).set i (aftM x (nth (ms.map HM.mb) i)) := by
  rw [List.map_set, nth_map' _ h]; rfl
theorem Sl.clip {α : Type} [Inhabited α] {enc : α → List Value} {k : Nat} {w : World} {ao : Option Addr} {b o : Nat} {xs : List α} (h : Sl enc k w ao b o xs) : Sl enc k w (subAddr ao xs.length 0 k) b o xs := by
  have := h.subTo xs.length xs.length (Nat.le_refl _)
  rwa [List.take_length] at this
theorem phi_at {φ : List HM → List HM} {i0 i : Nat} (_hl : ∀ ms, (φ ms).length = ms.length) (h : ∀ ms i m, i0 ≤ i → φ (ms.set i m) = (φ ms).set i m) {ms : List HM} (hi : i < ms.length) (h0 : i0 ≤ i) : (φ ms).set i (nth ms i) = φ ms := by
  rw [← h _ _ _ h0, set_self hi]
theorem PX.back {φ : List HM → List HM} {i0 i : Nat} (hl : ∀ ms, (φ ms).length = ms.length) (h : ∀ ms i m, i0 ≤ i → φ (ms.set i m) = (φ ms).set i m) {ms : List HM} {m : HM} (hi : i < ms.length) (h0 : i0 ≤ i) : PX φ i (nth ms i) (ms.set i m) = φ ms := by
  unfold PX; rw [h _ _ _ h0, List.set_set, phi_at hl h hi h0]
theorem PX.len {φ : List HM → List HM} {i : Nat} {m : HM} (hl : ∀ ms, (φ ms).length = ms.length) : ∀ ms, (PX φ i m ms).length = ms.length := fun ms => by unfold PX; rw [List.length_set, hl]
theorem PX.comm {φ : List HM → List HM} {i0 i : Nat} {m : HM} (h : ∀ ms i m, i0 ≤ i → φ (ms.set i m) = (φ ms).set i m) (h0 : i0 ≤ i) : ∀ ms j m', i + 1 ≤ j → PX φ i m (ms.set j m') = (PX φ i m ms).set j m' := fun ms j m' hj => by
  unfold PX; rw [h _ _ _ (by omega), List.set_comm _ _ (by omega)]
theorem CellsB.of {S : Nat → Prop} {B : Nat} {w : World} (h : CellsIn S w) : ∀ k, B ≤ k → k < w.heap.size → S k → ∃ cur t f, w.heap[k]? = some (.cells cur t f) := fun k _ hk hs => h k hk hs
theorem TP.cellsB {F : Nat → Prop} {pb B : Nat} {w : World} (hF : ∀ i, F i → i < B) : ∀ k, B ≤ k → k < w.heap.size → TP F pb w k → ∃ cur t f, w.heap[k]? = some (.cells cur t f) := fun k hB _ h => by
  rcases h with h | ⟨_, cs, h⟩
  · have := hF k h; omega
  · exact ⟨_, _, _, h⟩
theorem KeepsFrom.of_updB {S : Nat → Prop} {B : Nat} {w w' : World} (u : Upd S w w') (h : ∀ k, B ≤ k → k < w.heap.size → S k → ∃ cur t f, w.heap[k]? = some (.cells cur t f)) : KeepsFrom B w w' :=
  ⟨u.size, fun k o hB hk ho => (u.block k (Array.getElem?_eq_some_iff.1 hk).1 (fun hs => by
    obtain ⟨c, t, f, hc⟩ := h k hB (Array.getElem?_eq_some_iff.1 hk).1 hs
    rw [hk] at hc
    cases hc
    cases ho)).trans hk⟩
theorem Marks.keepB {base : Nat} {S : Nat → Prop} : ∀ {ds : List Deferred} {w w' : World}, Marks base ds w → Upd S w w' → (∀ k, base ≤ k → k < w.heap.size → S k → ∃ cur t f, w.heap[k]? = some (.cells cur t f)) → Marks base ds w'
  | [], _, _, _, _, _ => trivial
  | d :: ds, w, w', h, u, hc => by
    obtain ⟨⟨D, h1, h2, h3, h4⟩, h5⟩ := h
    refine ⟨⟨D, h1, h2, ?_, h4⟩, h5.keepB u hc⟩
    have hlt := lt_of_block h3
    refine (u.block D hlt (fun hs => ?_)).trans h3
    obtain ⟨c, t, f, hq⟩ := hc D h2 hlt hs
    rw [h3] at hq
    cases hq
theorem own186 : Own Tryz.prog 186 := ⟨Tryz.f186, func186, by kernel_rfl, by kernel_rfl⟩
end Go.Proofs.YtclinbbghnebaaaGreat
