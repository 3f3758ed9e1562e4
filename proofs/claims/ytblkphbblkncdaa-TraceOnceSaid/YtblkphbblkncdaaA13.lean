/-
  The contracts of Replay, Landed, open, Recall. Conditions: none.
-/
import Derived.Test.YtblkphbblkncdaaA12
namespace Go.Proofs.Ytblkphbblkncdaa
open Go Go.RowKit

/-- Layers that were handed out: a slice, and its paths. -/
structure RowL where
  ao : Option Addr
  g : Nat
  cp : Nat
  xs : List HLay
instance : Inhabited RowL := ⟨⟨default, default, default, default⟩⟩
def encRowL (r : RowL) : List Value := [.slice r.ao r.xs.length r.cp]
/-- Layers lie in memory, with their paths. -/
def LaysR (w : World) (ao : Option Addr) (g : Nat) (xs : List HLay) : Prop := Sl encHLay 3 w ao g 0 xs ∧ ∀ x ∈ xs, Sl encI 1 w x.ao x.b 0 x.v.path
theorem LaysR.keep {w w' : World} {S : Nat → Prop} {ao : Option Addr} {g : Nat} {xs : List HLay} (h : LaysR w ao g xs) (u : Upd S w w') (hs : ∀ k, k < w.heap.size → ¬ S k) : LaysR w' ao g xs := ⟨h.1.keep u (fun hp => hs _ (h.1.lt hp)), fun x hx => (h.2 x hx).keep u (fun hp => hs _ ((h.2 x hx).lt hp))⟩
theorem LaysM.row {base : Nat} {w : World} {lb : Nat} {ao : Option Addr} {g cp : Nat} {xs : List HLay} (h : LaysM base w lb ao g cp xs) : LaysR w ao g xs := ⟨h.acc.sl (fun _ => rfl), fun x hx => (h.path x hx).1.sl (fun _ => rfl)⟩
def rowH (h : HG) : RowL := ⟨h.ao, h.g, h.cp, h.xs⟩
def ReplayPost (bs : List Bil) (hs : List Hld) (us : List Ev) (v : Value) (w' : World) : Prop :=
  (∃ at_ e : Int, v = .tuple #[.slice none 0 0, .int .i64 at_, .int .i64 e] ∧ e ≠ 0 ∧ (sailP bs hs us).2 = (at_, e)) ∨
  (∃ ao g cp rows, v = .tuple #[.slice ao (List.length rows) cp, .int .i64 0, .int .i64 0] ∧ (sailP bs hs us).2 = (0, 0) ∧ Sl encRowL 1 w' ao g 0 rows ∧ (∀ r ∈ rows, LaysR w' r.ao r.g r.xs) ∧ rows.map (fun r => r.xs.map HLay.v) = (sailP bs hs us).1.hold ∧ ∀ r ∈ rows, r.xs.length ≤ r.cp)
/-- What the first unload of this number has landed. -/
def findL (l : List Lnd) (ev : Int) : Option (List Lay) := (l.find? fun x => decide (x.ev = ev)).map Lnd.parts
def LandPost (bs : List Bil) (hs : List Hld) (us : List Ev) (ev : Int) (v : Value) (w' : World) : Prop :=
  (∃ at_ e : Int, v = .tuple #[.slice none 0 0, .int .i64 at_, .int .i64 e] ∧ e ≠ 0 ∧ (sailP bs hs us).2 = (at_, e)) ∨
  ((sailP bs hs us).2 = (0, 0) ∧ findL (sailP bs hs us).1.landed ev = none ∧ v = .tuple #[.slice none 0 0, .int .i64 0, .int .i64 7]) ∨
  ((sailP bs hs us).2 = (0, 0) ∧ ∃ ao g cp xs, v = .tuple #[.slice ao (List.length xs) cp, .int .i64 0, .int .i64 0] ∧ findL (sailP bs hs us).1.landed ev = some (xs.map HLay.v) ∧ LaysR w' ao g xs)
/-- Which unloads have landed tons of a bill. -/
def recF (l : List Lnd) (b : Int) : List Int := (l.filter fun x => decide (0 < ofT x.parts b)).map Lnd.ev
/-- What open returns. -/
def OpenPost (bs : List Bil) (hs : List Hld) (us : List Ev) (b : Int) (bb B0 : Nat) (v : Value) (w' : World) : Prop :=
  (∃ at_ e : Int, v = .tuple #[.pointer none, .int .i64 at_, .int .i64 e] ∧ e ≠ 0 ∧ (sailP bs hs us).2 = (at_, e)) ∨
  ((sailP bs hs us).2 = (0, 0) ∧ ¬ (0 ≤ b ∧ b ≤ (bs.length : Int) - 1) ∧ v = .tuple #[.pointer none, .int .i64 0, .int .i64 7]) ∨
  ((0 ≤ b ∧ b ≤ (bs.length : Int) - 1) ∧ ∃ B pv V, v = .tuple #[.pointer (some ⟨pv, 0, none⟩), .int .i64 0, .int .i64 0] ∧ sailP bs hs us = (V.st, 0, 0) ∧ Voy B pv w' V ∧ VOk us.length V ∧ V.bs = bs ∧ V.hl.map HG.cap = hs.map Hld.cap ∧ us.length ≤ 100 ∧ V.bb = bb ∧ B0 ≤ B)
def RecallPost (bs : List Bil) (hs : List Hld) (us : List Ev) (b : Int) (v : Value) (w' : World) : Prop :=
  (∃ at_ e : Int, v = .tuple #[.slice none 0 0, .int .i64 at_, .int .i64 e] ∧ e ≠ 0 ∧ (sailP bs hs us).2 = (at_, e)) ∨
  ((sailP bs hs us).2 = (0, 0) ∧ ¬ (0 ≤ b ∧ b ≤ (bs.length : Int) - 1) ∧ v = .tuple #[.slice none 0 0, .int .i64 0, .int .i64 7]) ∨
  ((sailP bs hs us).2 = (0, 0) ∧ (0 ≤ b ∧ b ≤ (bs.length : Int) - 1) ∧ ∃ ao g cp r, v = .tuple #[.slice ao (List.length r) cp, .int .i64 0, .int .i64 0] ∧ r = recF (sailP bs hs us).1.landed b ∧ Sl encI 1 w' ao g 0 r)
theorem find_take {l : List LG} {k : Nat} {ev : Int} (hk : k < l.length) (h : (l.take k).any (fun x => decide (x.ev = ev)) = false) (hx : decide ((nth l k).ev = ev) = true) : findL (l.map fun l => ⟨l.ev, l.port, l.xs.map HLay.v⟩) ev = some ((nth l k).xs.map HLay.v) := by
  have e : l = l.take k ++ (nth l k :: l.drop (k + 1)) := by rw [← drop_nth hk, List.take_append_drop]
  have h2 : (l.take k).find? (fun x => decide (x.ev = ev)) = none := by
    rw [List.find?_eq_none]
    intro x hx2
    have := List.any_eq_false.1 h x hx2
    simpa using this
  unfold findL
  rw [List.find?_map]
  show Option.map Lnd.parts (Option.map _ (l.find? fun x => decide (x.ev = ev))) = _
  have h3 : l.find? (fun x => decide (x.ev = ev)) = some (nth l k) := calc
    l.find? (fun x => decide (x.ev = ev)) = (l.take k ++ (nth l k :: l.drop (k + 1))).find? (fun x => decide (x.ev = ev)) := by rw [← e]
    _ = some (nth l k) := by rw [List.find?_append, h2, List.find?_cons, hx]; rfl
  rw [h3]; rfl
theorem find_no {l : List LG} {ev : Int} (h : l.any (fun x => decide (x.ev = ev)) = false) : findL (l.map fun l => ⟨l.ev, l.port, l.xs.map HLay.v⟩) ev = none := by
  have h2 : l.find? (fun x => decide (x.ev = ev)) = none := by
    rw [List.find?_eq_none]
    intro x hx2
    have := List.any_eq_false.1 h x hx2
    simpa using this
  unfold findL
  rw [List.find?_map]
  show Option.map Lnd.parts (Option.map _ (l.find? fun x => decide (x.ev = ev))) = _
  rw [h2]; rfl
theorem rec_snoc {l : List LG} {k : Nat} {b : Int} (hk : k < l.length) : recF ((l.take (k + 1)).map fun l => ⟨l.ev, l.port, l.xs.map HLay.v⟩) b = recF ((l.take k).map fun l => ⟨l.ev, l.port, l.xs.map HLay.v⟩) b ++ (if 0 < ofT ((nth l k).xs.map HLay.v) b then [(nth l k).ev] else []) := by
  unfold recF
  rw [take_nth hk, List.map_append, List.filter_append, List.map_append]
  congr 1
  by_cases h : 0 < ofT ((nth l k).xs.map HLay.v) b <;> simp [h]
theorem own15 : Own Try.prog 15 := ⟨Try.f15, Try.func15, by kernel_rfl, by kernel_rfl⟩
theorem own16 : Own Try.prog 16 := ⟨Try.f16, Try.func16, by kernel_rfl, by kernel_rfl⟩
theorem own45 : Own Try.prog 45 := ⟨Try.f45, Try.func45, by kernel_rfl, by kernel_rfl⟩
theorem own51 : Own Try.prog 51 := ⟨Try.f51, Try.func51, by kernel_rfl, by kernel_rfl⟩
theorem own23 : Own Try.prog 23 := ⟨Try.f23, Try.func23, by kernel_rfl, by kernel_rfl⟩
theorem own44 : Own Try.prog 44 := ⟨Try.f44, Try.func44, by kernel_rfl, by kernel_rfl⟩

theorem indexD_c (p : LG → Bool) (fv : FuncId) (caps : List Value) (xs : List LG) (ao : Option Addr) (b o cap : Nat) (w0 : World) (ho : Own Try.prog fv) (hp : ∀ x ∈ xs, ∀ w, Ext w0 w → CallsV Try.prog fv ([.agg (encLG x).toArray] ++ caps) w fun v w' => v = .bool (p x) ∧ Ext w w') (hs : Sl encLG 3 w0 ao b o xs) (hl : xs.length ≤ 1000000) :
    CallsV Try.prog 44 [.slice ao xs.length cap, .func (.func fv) #[] (caps).toArray] w0 (fun v w' => ((v = .int .i64 (-1) ∧ xs.any p = false) ∨ (∃ k : Nat, v = .int .i64 (k : Int) ∧ k < xs.length ∧ p (nth xs k) = true ∧ (xs.take k).any p = false)) ∧ Ext w0 w') := by
 refine f_enter (N := 19) Try.func44 rfl rfl rfl (c_seq fun K1 hK1 => (c_region (t_assign rfl rfl rfl (t_nil' (hK1 _ _ (c_seq fun K2 hK2 => (c_seq fun K3 hK3 => (c_region (t_move rfl rfl rfl (t_len Try.underlying116 rfl rfl rfl rfl (t_move rfl rfl rfl (t_nil' (hK3 _ _ (c_block (c_loop (γ := Nat) (fun k => [(0, .slice ao xs.length cap), (1, .func (.func fv) #[] (caps).toArray), (7, .int .i64 (xs.length : Int)), (8, .int .i64 (k : Int))]) (fun k w => Upd (fun _ => False) w0 w ∧ (k ≤ xs.length) ∧ ((xs.take k).any p = false)) (fun k => xs.length - k) 0 ⟨rfl, rfl, rfl, rfl, trivial⟩ ⟨Upd.refl _ _, Nat.zero_le _, (by simp)⟩ ?_)))))))))))))))
 intro k w5 hW K4 hK4
 obtain ⟨u6, I7, I8⟩ := hW
 have zu6 := u6.size
 have E9 := (Upd.refl (fun _ => False) w0).nx u6
 have hle := I7; clear I7
 have hnot := I8; clear I8
 refine c_seq fun K10 hK10 => (c_region (t_cmp rfl rfl rfl rfl rfl (t_nil' (hK10 _ _ (c_seq fun K11 hK11 => (c_condp rfl (fun g9 => ?_) (fun g9 => ?_)))))))
 ·
  refine c_skip (hK11 _ _ (c_seq fun K12 hK12 => (c_block (c_seq fun K13 hK13 => (c_region (t_move rfl rfl rfl (t_assign rfl rfl rfl (t_nil' (hK13 _ _ (c_seq fun K14 hK14 => (c_region (t_move rfl rfl rfl (t_move rfl rfl rfl (t_move rfl rfl rfl ?_))))))))))))))
  have i15 : k < xs.length := (by omega)
  refine t_index (j := k) Try.underlying116 Try.sizeOf125 rfl rfl rfl rfl ((hs.keep E9 (fun _ h => h)).addr (by omega)) rfl i15 (t_loadN (vs := encLG (nth xs k)) Try.isAgg125 Try.sizeOf125 rfl rfl rfl ((hs.keep E9 (fun _ h => h)).at_ k (by omega)) rfl (t_call (fs := []) (cs := caps) ho rfl rfl rfl rfl (hp (nth xs k) (nth_mem (by omega)) _ E9) (fun v16 w17 r19 => ?_)))
  obtain ⟨rfl, u18⟩ := r19
  have zu18 := u18.size
  refine t_nil' (hK14 _ _ (c_cond rfl (fun g16 => ?_) (fun g16 => ?_)))
  ·
   refine c_seq fun K21 hK21 => (c_region (t_move rfl rfl rfl (t_assign rfl rfl rfl (t_nil' (hK21 _ _ (c_ret (f_ret1 (v := .int .i64 (k : Int)) Try.results44 rfl ?_)))))))
   exact ⟨.inr ⟨k, rfl, by omega, g16, hnot⟩, (E9.nx u18)⟩
  refine c_skip (hK12 _ _ (c_region (t_ari rfl rfl rfl rfl rfl (by omega) (t_move rfl rfl rfl (t_nil' ?_)))))
  exact hK4 (k + 1) _ _ (by omega) ⟨rfl, rfl, rfl, rfl, trivial⟩ ⟨(u6.next u18 (fun _ _ h => h.elim)), (by omega), (any_snoc (by omega) hnot g16)⟩
 refine c_exit (hK2 _ _ (c_seq fun K22 hK22 => (c_region (t_assign rfl rfl rfl (t_nil' (hK22 _ _ (c_ret (f_ret1 (v := .int .i64 (-1)) Try.results44 rfl ?_))))))))
 exact ⟨.inl ⟨rfl, by rwa [List.take_of_length_le (by omega)] at hnot⟩, E9⟩

theorem landed1_c (x : LG) (ev : Int) (bE : Nat) (w0 : World) (hE : Blk w0 bE 3 [.int .i64 ev]) :
    CallsV Try.prog 45 [.agg #[.int .i64 x.ev, .int .i64 x.port, .slice x.ao x.xs.length x.cp], .pointer (some ⟨bE, 0, none⟩)] w0 (fun v w' => v = .bool (decide (x.ev = ev)) ∧ Ext w0 w') := by
 refine f_enter (N := 8) Try.func45 rfl rfl rfl (c_seq fun K1 hK1 => (c_region (t_box (cs := [.int .i64 x.ev, .int .i64 x.port, .slice x.ao x.xs.length x.cp]) rfl rfl rfl rfl (fun bk2 w3 ebk2 sbk2 B4 u5 => ?_))))
 have zu5 := u5.size
 refine t_assign rfl rfl rfl (t_nil' (hK1 _ _ (c_seq fun K7 hK7 => (c_region (t_field Try.underlying125 rfl Try.sizeOf3 (0) rfl rfl rfl rfl (t_load Try.isAgg3 rfl rfl rfl (B4.get rfl) ?_))))))
 have B8 := (hE.kx u5)
 refine t_load Try.isAgg3 rfl rfl rfl (B8.get rfl) (t_cmp rfl rfl rfl rfl rfl (t_assign rfl rfl rfl (t_nil' (hK7 _ _ (c_ret (f_ret1 (v := .bool (decide (x.ev = ev))) Try.results45 rfl ?_))))))
 exact ⟨rfl, ((Upd.refl (fun _ => False) w0).nx u5)⟩

set_option maxHeartbeats 1000000 in
theorem Replay_c (bs : List Bil) (ab : Option Addr) (bb ob cb : Nat) (hs : List Hld) (ah : Option Addr) (bh oh ch : Nat) (us : List Ev) (ae : Option Addr) (be oe ce : Nat) (w0 : World) (hbs : Sl encBil 3 w0 ab bb ob bs) (hhs : Sl encHld 2 w0 ah bh oh hs) (hbl : bs.length ≤ 1000000) (hhl : hs.length ≤ 1000000) (hu : Sl encEv 8 w0 ae be oe us) (hul : us.length ≤ 1000000) (hpos : 0 < w0.heap.size) :
    CallsV Try.prog 15 [.agg #[.slice ab bs.length cb, .slice ah hs.length ch], .slice ae us.length ce] w0 (fun v w' => ReplayPost bs hs us v w' ∧ Ext w0 w') := by
 refine f_enter (N := 39) Try.func15 rfl rfl rfl (c_seq fun K1 hK1 => (c_region (t_box (cs := [.slice ab bs.length cb, .slice ah hs.length ch]) rfl rfl rfl rfl (fun bk2 w3 ebk2 sbk2 B4 u5 => ?_))))
 have zu5 := u5.size
 have E6 := (Upd.refl (fun _ => False) w0).nx u5
 refine t_assign rfl rfl rfl (t_assign rfl rfl rfl (t_assign rfl rfl rfl (t_nil' (hK1 _ _ (c_seq fun K7 hK7 => (c_region (t_loadN (vs := [.slice ab bs.length cb, .slice ah hs.length ch]) Try.isAgg25 Try.sizeOf25 rfl rfl rfl (B4.at.sub 0 2) rfl (t_move rfl rfl rfl (t_call own43 rfl rfl rfl rfl (sail_c bs ab bb ob cb hs ah bh oh ch us ae be oe ce _ (hbs.keep E6 (fun _ h => h)) (hhs.keep E6 (fun _ h => h)) hbl hhl (hu.keep E6 (fun _ h => h)) hul (by omega)) (fun v8 w9 r11 => ?_))))))))))
 rcases r11 with ⟨⟨at1, e1, rfl, he1, hsl⟩ | ⟨pv, V, rfl, hsl, hv, hvo, hVb, hVc, h100, hVB⟩, u10⟩
 ·
  have zu10 := u10.size
  refine t_move rfl rfl rfl (t_extract rfl rfl rfl rfl (t_extract rfl rfl rfl rfl (t_extract rfl rfl rfl rfl (t_assign rfl rfl rfl (t_assign rfl rfl rfl (t_assign rfl rfl rfl (t_nil' (hK7 _ _ (c_seq fun K13 hK13 => (c_seq fun K14 hK14 => (c_region (t_move rfl rfl rfl (t_cmp rfl rfl rfl rfl rfl (t_nil' (hK14 _ _ (c_condp rfl (fun g18 => ?_) (fun g18 => ?_)))))))))))))))))
  ·
   refine c_seq fun K15 hK15 => (c_region (t_move rfl rfl rfl (t_move rfl rfl rfl (t_assign rfl rfl rfl (t_assign rfl rfl rfl (t_assign rfl rfl rfl (t_nil' (hK15 _ _ (c_ret (f_ret3 (v1 := .slice none 0 0) (v2 := .int .i64 at1) (v3 := .int .i64 e1) Try.results15 rfl rfl rfl ?_))))))))))
   exact ⟨.inl ⟨at1, e1, rfl, he1, hsl⟩, (E6.nx u10)⟩
  exact absurd he1 g18
 have zu10 := u10.size
 have hsp := Prod.ext_iff.1 hsl
 have hpb := hv.blk
 have hn20 := hvo.hn
 have hldn := hvo.ok.ldn
 have hldl : V.ld.length ≤ us.length := by have h := hldn; simp only [VG.st, List.length_map] at h; exact h
 refine t_move rfl rfl rfl (t_extract rfl rfl rfl rfl (t_extract rfl rfl rfl rfl (t_extract rfl rfl rfl rfl (t_assign rfl rfl rfl (t_assign rfl rfl rfl (t_assign rfl rfl rfl (t_nil' (hK7 _ _ (c_seq fun K17 hK17 => (c_seq fun K18 hK18 => (c_region (t_move rfl rfl rfl (t_cmp rfl rfl rfl rfl rfl (t_samehd (v := .bool false) rfl (t_nil' (hK18 _ _ (c_cond_f rfl (c_skip (hK17 _ _ (c_seq fun K19 hK19 => (c_seq fun K20 hK20 => (c_region (t_move rfl rfl rfl ?_)))))))))))))))))))))))
 refine t_nilchk rfl rfl rfl (t_field Try.underlying118 rfl Try.sizeOf114 (2) rfl rfl rfl rfl (t_load Try.isAgg114 rfl rfl rfl (hpb.get rfl) (t_len Try.underlying114 rfl rfl rfl rfl (t_move rfl rfl rfl (t_nil' (hK20 _ _ (c_block (c_loop (γ := Nat × Option Addr × Nat × Nat × List RowL) (fun gg => [(4, .slice gg.2.1 gg.2.2.2.2.length gg.2.2.2.1), (24, .slice V.pa V.hl.length V.pc), (25, .int .i64 (V.hl.length : Int)), (26, .int .i64 (gg.1 : Int))]) (fun gg w => Upd (fun _ => False) w9 w ∧ (gg.1 ≤ V.hl.length) ∧ (gg.2.2.2.2 = (V.hl.take gg.1).map rowH) ∧ (Acc encRowL 1 36 w9.heap.size w gg.2.1 gg.2.2.1 gg.2.2.2.1 gg.2.2.2.2)) (fun gg => V.hl.length - gg.1) (0, none, 0, 0, []) ⟨rfl, rfl, rfl, rfl, trivial⟩ ⟨Upd.refl _ _, (Nat.zero_le _), rfl, (Acc.nil _ _ _ _ _ (by omega) (Nat.le_refl _))⟩ ?_))))))))
 intro gg w22 hW K21 hK21
 obtain ⟨k, ao2, g2, c2, rs⟩ := gg
 change WC _ _ _ _ _ _ [(4, .slice ao2 rs.length c2), (24, .slice V.pa V.hl.length V.pc), (25, .int .i64 (V.hl.length : Int)), (26, .int .i64 (k : Int))] _
 change Upd (fun _ => False) w9 w22 ∧ (k ≤ V.hl.length) ∧ (rs = (V.hl.take k).map rowH) ∧ (Acc encRowL 1 36 w9.heap.size w22 ao2 g2 c2 rs) at hW
 obtain ⟨u23, I24, I25, I26⟩ := hW
 have zu23 := u23.size
 have hk := I24; clear I24
 have hrs := I25; clear I25
 have hacc := I26; clear I26
 have lt_g2 := hacc.lt
 refine c_seq fun K28 hK28 => (c_region (t_cmp rfl rfl rfl rfl rfl (t_nil' (hK28 _ _ (c_seq fun K29 hK29 => (c_condp rfl (fun g27 => ?_) (fun g27 => ?_)))))))
 ·
  refine c_skip (hK29 _ _ (c_seq fun K30 hK30 => (c_block (c_seq fun K31 hK31 => (c_region ?_)))))
  have i32 : k < V.hl.length := (by omega)
  refine t_index (j := k) Try.underlying114 Try.sizeOf119 rfl rfl rfl rfl ((((hv.ext ((Upd.refl (fun _ => False) w9).next u23 (fun _ _ h => h.elim)))).pacc.sl (fun _ => rfl)).addr (by omega)) rfl i32 (t_load Try.isAgg119 rfl rfl rfl (((((hv.ext ((Upd.refl (fun _ => False) w9).next u23 (fun _ _ h => h.elim)))).pacc.sl (fun _ => rfl)).at_ k (by omega)) 0 _ rfl) ?_)
  have hkk : k < V.hl.length := by omega
  have hB9 := ((hv.ext ((Upd.refl (fun _ => False) w9).next u23 (fun _ _ h => h.elim))).hold _ (nth_mem hkk)).blk
  have hrl : rs.length = k := by rw [hrs, List.length_map, List.length_take]; omega
  refine t_assign rfl rfl rfl (t_nil' (hK31 _ _ (c_region (t_move rfl rfl rfl (t_move rfl rfl rfl (t_nilchk rfl rfl rfl (t_field Try.underlying122 rfl Try.sizeOf120 (2) rfl rfl rfl rfl (t_load Try.isAgg120 rfl rfl rfl (hB9.get rfl) (t_bslice (ps := [(0, .slice ((nth V.hl k).ao) ((nth V.hl k).xs.length) ((nth V.hl k).cp))]) (cs := [.slice ((nth V.hl k).ao) ((nth V.hl k).xs.length) ((nth V.hl k).cp)]) (e := 36) rfl rfl ⟨rfl, rfl⟩ (fun w => by kernel_rfl) (fun bk33 w34 ebk33 sbk33 B35 u36 => ?_))))))))))
  have zu36 := u36.size
  have D38 := (hacc.keep u36 (fun _ h => h))
  refine t_append (z := .slice none 0 0) (bytes := 24) (k := 1) (base := w9.heap.size) (rowH (nth V.hl k)) Try.underlying33 (by kernel_rfl) rfl (by decide) (fun _ => rfl) (by intro x; simp [encRowL, Value.oneCell']) rfl rfl rfl rfl D38 B35 (by omega) (by omega) (by decide) (fun ao39 gb40 cp41 w42 A43 u44 gegb40 lngb40 => ?_)
  have zu44 := u44.size
  have lt_gb40 := A43.lt
  refine t_assign rfl rfl rfl (t_nil' (hK30 _ _ (c_region (t_ari rfl rfl rfl rfl rfl (by omega) (t_move rfl rfl rfl (t_nil' ?_))))))
  exact hK21 (k + 1, ao39, gb40, cp41, (rs ++ [(rowH (nth V.hl k))])) _ _ (by show V.hl.length - (k + 1) < V.hl.length - k; omega) ⟨rfl, rfl, rfl, rfl, trivial⟩ ⟨((u23.next u36 (fun _ _ h => h.elim)).next u44 (fun i hi h => by omega)), (by omega), (by rw [take_nth (by omega), List.map_append, ← hrs]; rfl), A43⟩
 refine c_exit (hK19 _ _ (c_seq fun K46 hK46 => (c_region (t_move rfl rfl rfl (t_assign rfl rfl rfl (t_assign rfl rfl rfl (t_assign rfl rfl rfl (t_nil' (hK46 _ _ (c_ret (f_ret3 (v1 := .slice ao2 rs.length c2) (v2 := .int .i64 0) (v3 := .int .i64 0) Try.results15 rfl rfl rfl ?_)))))))))))
 have hvF := (hv.ext ((Upd.refl (fun _ => False) w9).next u23 (fun _ _ h => h.elim)))
 have hrF := hacc
 have hk9 : k = V.hl.length := by omega
 have hrs9 : rs = V.hl.map rowH := by rw [hrs, hk9, List.take_length]
 exact ⟨.inr ⟨ao2, g2, c2, rs, rfl, by rw [hsl], hrF.sl (fun _ => rfl), fun r hr => by rw [hrs9] at hr; obtain ⟨h, hh, rfl⟩ := List.mem_map.1 hr; exact (hvF.hold h hh).lays.row, by rw [hsl, hrs9, List.map_map]; rfl, fun r hr => by rw [hrs9] at hr; obtain ⟨h, hh, rfl⟩ := List.mem_map.1 hr; exact (hvF.hold h hh).lays.acc.cap_le⟩, ((E6.nx u10).nx u23)⟩

set_option maxHeartbeats 1000000 in
theorem Landed_c (bs : List Bil) (ab : Option Addr) (bb ob cb : Nat) (hs : List Hld) (ah : Option Addr) (bh oh ch : Nat) (us : List Ev) (ae : Option Addr) (be oe ce : Nat) (ev : Int) (w0 : World) (hbs : Sl encBil 3 w0 ab bb ob bs) (hhs : Sl encHld 2 w0 ah bh oh hs) (hbl : bs.length ≤ 1000000) (hhl : hs.length ≤ 1000000) (hu : Sl encEv 8 w0 ae be oe us) (hul : us.length ≤ 1000000) (hpos : 0 < w0.heap.size) :
    CallsV Try.prog 16 [.agg #[.slice ab bs.length cb, .slice ah hs.length ch], .slice ae us.length ce, .int .i64 ev] w0 (fun v w' => LandPost bs hs us ev v w' ∧ Ext w0 w') := by
 refine f_enter (N := 38) Try.func16 rfl rfl rfl (c_seq fun K1 hK1 => (c_region (t_box (cs := [.slice ab bs.length cb, .slice ah hs.length ch]) rfl rfl rfl rfl (fun bk2 w3 ebk2 sbk2 B4 u5 => ?_))))
 have zu5 := u5.size
 refine t_box (cs := [.int .i64 ev]) rfl rfl rfl rfl (fun bk7 w8 ebk7 sbk7 B9 u10 => ?_)
 have zu10 := u10.size
 have E11 := ((Upd.refl (fun _ => False) w0).nx u5).nx u10
 refine t_assign rfl rfl rfl (t_assign rfl rfl rfl (t_assign rfl rfl rfl (t_nil' (hK1 _ _ (c_seq fun K12 hK12 => (c_region ?_))))))
 have B13 := (B4.kx u10)
 refine t_loadN (vs := [.slice ab bs.length cb, .slice ah hs.length ch]) Try.isAgg25 Try.sizeOf25 rfl rfl rfl (B13.at.sub 0 2) rfl (t_move rfl rfl rfl (t_call own43 rfl rfl rfl rfl (sail_c bs ab bb ob cb hs ah bh oh ch us ae be oe ce _ (hbs.keep E11 (fun _ h => h)) (hhs.keep E11 (fun _ h => h)) hbl hhl (hu.keep E11 (fun _ h => h)) hul (by omega)) (fun v14 w15 r17 => ?_)))
 rcases r17 with ⟨⟨at1, e1, rfl, he1, hsl⟩ | ⟨pv, V, rfl, hsl, hv, hvo, hVb, hVc, h100, hVB⟩, u16⟩
 ·
  have zu16 := u16.size
  refine t_move rfl rfl rfl (t_extract rfl rfl rfl rfl (t_extract rfl rfl rfl rfl (t_extract rfl rfl rfl rfl (t_assign rfl rfl rfl (t_assign rfl rfl rfl (t_assign rfl rfl rfl (t_nil' (hK12 _ _ (c_seq fun K19 hK19 => (c_seq fun K20 hK20 => (c_region (t_move rfl rfl rfl (t_cmp rfl rfl rfl rfl rfl (t_nil' (hK20 _ _ (c_condp rfl (fun g19 => ?_) (fun g19 => ?_)))))))))))))))))
  ·
   refine c_seq fun K21 hK21 => (c_region (t_move rfl rfl rfl (t_move rfl rfl rfl (t_assign rfl rfl rfl (t_assign rfl rfl rfl (t_assign rfl rfl rfl (t_nil' (hK21 _ _ (c_ret (f_ret3 (v1 := .slice none 0 0) (v2 := .int .i64 at1) (v3 := .int .i64 e1) Try.results16 rfl rfl rfl ?_))))))))))
   exact ⟨.inl ⟨at1, e1, rfl, he1, hsl⟩, (E11.nx u16)⟩
  exact absurd he1 g19
 have zu16 := u16.size
 have E22 := E11.nx u16
 have hsp := Prod.ext_iff.1 hsl
 have hpb := hv.blk
 have hn20 := hvo.hn
 have hldn := hvo.ok.ldn
 have hldl : V.ld.length ≤ us.length := by have h := hldn; simp only [VG.st, List.length_map] at h; exact h
 refine t_move rfl rfl rfl (t_extract rfl rfl rfl rfl (t_extract rfl rfl rfl rfl (t_extract rfl rfl rfl rfl (t_assign rfl rfl rfl (t_assign rfl rfl rfl (t_assign rfl rfl rfl (t_nil' (hK12 _ _ (c_seq fun K23 hK23 => (c_seq fun K24 hK24 => (c_region (t_move rfl rfl rfl (t_cmp rfl rfl rfl rfl rfl (t_samehd (v := .bool false) rfl (t_nil' (hK24 _ _ (c_cond_f rfl (c_skip (hK23 _ _ (c_seq fun K25 hK25 => (c_region (t_move rfl rfl rfl (t_nilchk rfl rfl rfl ?_)))))))))))))))))))))))
 refine t_field Try.underlying118 rfl Try.sizeOf116 (5) rfl rfl rfl rfl (t_load Try.isAgg116 rfl rfl rfl (hpb.get rfl) (t_mkfunc (vs := []) (us := [.pointer (some ⟨bk7, 0, none⟩)]) rfl rfl rfl rfl ?_))
 have B26 := (B9.kx u16)
 refine t_call own44 rfl rfl rfl rfl (indexD_c (fun x => decide (x.ev = ev)) 45 [.pointer (some ⟨bk7, 0, none⟩)] V.ld V.da V.dg 0 V.dc _ own45 (fun x _ w u => landed1_c x ev bk7 w (B26.keep u (fun h => h))) ((hv).dacc.sl (fun _ => rfl)) (by omega)) (fun v27 w28 r30 => ?_)
 rcases r30 with ⟨⟨rfl, hno⟩ | ⟨kf, rfl, hkf, hpf, hnf⟩, u29⟩
 ·
  have zu29 := u29.size
  refine t_assign rfl rfl rfl (t_nil' (hK25 _ _ (c_seq fun K32 hK32 => (c_seq fun K33 hK33 => (c_region (t_move rfl rfl rfl (t_cmp rfl rfl rfl rfl rfl (t_samehd (v := .bool true) rfl (t_nil' (hK33 _ _ (c_cond_t rfl (c_seq fun K34 hK34 => (c_region (t_assign rfl rfl rfl (t_assign rfl rfl rfl (t_assign rfl rfl rfl (t_nil' (hK34 _ _ (c_ret (f_ret3 (v1 := .slice none 0 0) (v2 := .int .i64 0) (v3 := .int .i64 7) Try.results16 rfl rfl rfl ?_))))))))))))))))))))
  exact ⟨.inr (.inl ⟨by rw [hsl], by rw [hsl]; exact find_no hno, rfl⟩), (E22.nx u29)⟩
 have zu29 := u29.size
 refine t_assign rfl rfl rfl (t_nil' (hK25 _ _ (c_seq fun K36 hK36 => (c_seq fun K37 hK37 => (c_region (t_move rfl rfl rfl (t_cmp rfl rfl rfl rfl rfl (t_nil' (hK37 _ _ (c_condp rfl (fun g29 => ?_) (fun g29 => ?_)))))))))))
 ·
  exfalso; omega
 refine c_skip (hK36 _ _ (c_seq fun K38 hK38 => (c_region (t_move rfl rfl rfl (t_nilchk rfl rfl rfl (t_field Try.underlying118 rfl Try.sizeOf116 (5) rfl rfl rfl rfl ?_))))))
 have B39 := (hpb.kx u29)
 refine t_load Try.isAgg116 rfl rfl rfl (B39.get rfl) (t_move rfl rfl rfl ?_)
 have i40 : kf < V.ld.length := (by omega)
 refine t_index (j := kf) Try.underlying116 Try.sizeOf125 rfl rfl rfl rfl ((((hv.ext ((Upd.refl (fun _ => False) w15).next u29 (fun _ _ h => h.elim)))).dacc.sl (fun _ => rfl)).addr (by omega)) rfl i40 (t_field Try.underlying125 rfl Try.sizeOf120 (0 + kf * 3 + 2) rfl rfl rfl rfl (t_load Try.isAgg120 rfl rfl rfl (((((hv.ext ((Upd.refl (fun _ => False) w15).next u29 (fun _ _ h => h.elim)))).dacc.sl (fun _ => rfl)).at_ kf (by omega)) 2 _ rfl) (t_assign rfl rfl rfl (t_assign rfl rfl rfl (t_assign rfl rfl rfl (t_nil' (hK38 _ _ (c_ret (f_ret3 (v1 := .slice ((nth V.ld kf).ao) ((nth V.ld kf).xs.length) ((nth V.ld kf).cp)) (v2 := .int .i64 0) (v3 := .int .i64 0) Try.results16 rfl rfl rfl ?_)))))))))
 exact ⟨.inr (.inr ⟨by rw [hsl], (nth V.ld kf).ao, (nth V.ld kf).g, (nth V.ld kf).cp, (nth V.ld kf).xs, rfl, by rw [hsl]; exact find_take hkf hnf hpf, ((hv.ext ((Upd.refl (fun _ => False) w15).next u29 (fun _ _ h => h.elim))).land _ (nth_mem hkf)).row⟩), (E22.nx u29)⟩

set_option maxHeartbeats 1000000 in
theorem open_c (bs : List Bil) (ab : Option Addr) (bb ob cb : Nat) (hs : List Hld) (ah : Option Addr) (bh oh ch : Nat) (us : List Ev) (ae : Option Addr) (be oe ce : Nat) (bl : Int) (w0 : World) (hbs : Sl encBil 3 w0 ab bb ob bs) (hhs : Sl encHld 2 w0 ah bh oh hs) (hbl : bs.length ≤ 1000000) (hhl : hs.length ≤ 1000000) (hu : Sl encEv 8 w0 ae be oe us) (hul : us.length ≤ 1000000) (hpos : 0 < w0.heap.size) :
    CallsV Try.prog 51 [.agg #[.slice ab bs.length cb, .slice ah hs.length ch], .slice ae us.length ce, .int .i64 bl] w0 (fun v w' => OpenPost bs hs us bl bb w0.heap.size v w' ∧ Ext w0 w') := by
 refine f_enter (N := 31) Try.func51 rfl rfl rfl (c_seq fun K1 hK1 => (c_region (t_box (cs := [.slice ab bs.length cb, .slice ah hs.length ch]) rfl rfl rfl rfl (fun bk2 w3 ebk2 sbk2 B4 u5 => ?_))))
 have zu5 := u5.size
 have E6 := (Upd.refl (fun _ => False) w0).nx u5
 refine t_assign rfl rfl rfl (t_assign rfl rfl rfl (t_assign rfl rfl rfl (t_nil' (hK1 _ _ (c_seq fun K7 hK7 => (c_region (t_loadN (vs := [.slice ab bs.length cb, .slice ah hs.length ch]) Try.isAgg25 Try.sizeOf25 rfl rfl rfl (B4.at.sub 0 2) rfl (t_move rfl rfl rfl (t_call own43 rfl rfl rfl rfl (sail_c bs ab bb ob cb hs ah bh oh ch us ae be oe ce _ (hbs.keep E6 (fun _ h => h)) (hhs.keep E6 (fun _ h => h)) hbl hhl (hu.keep E6 (fun _ h => h)) hul (by omega)) (fun v8 w9 r11 => ?_))))))))))
 rcases r11 with ⟨⟨at1, e1, rfl, he1, hsl⟩ | ⟨pv, V, rfl, hsl, hv, hvo, hVb, hVc, h100, hVB⟩, u10⟩
 ·
  have zu10 := u10.size
  refine t_move rfl rfl rfl (t_extract rfl rfl rfl rfl (t_extract rfl rfl rfl rfl (t_extract rfl rfl rfl rfl (t_assign rfl rfl rfl (t_assign rfl rfl rfl (t_assign rfl rfl rfl (t_nil' (hK7 _ _ (c_seq fun K13 hK13 => (c_seq fun K14 hK14 => (c_region (t_move rfl rfl rfl (t_cmp rfl rfl rfl rfl rfl (t_move rfl rfl rfl (t_splitp 18 rfl (fun g18 => ?_) (fun g18 => ?_))))))))))))))))
  ·
   exact absurd g18 he1
  refine t_skip rfl rfl rfl (t_skip rfl rfl rfl (t_skip rfl rfl rfl (t_skip rfl rfl rfl (t_skip rfl rfl rfl (t_skip rfl rfl rfl (t_skip rfl rfl rfl (t_skip rfl rfl rfl (t_pick_f rfl rfl rfl rfl (t_nil' (hK14 _ _ (c_cond_f rfl (c_skip (hK13 _ _ (c_seq fun K15 hK15 => (c_region (t_move rfl rfl rfl (t_move rfl rfl rfl (t_move rfl rfl rfl (t_assign rfl rfl rfl (t_assign rfl rfl rfl (t_assign rfl rfl rfl (t_nil' (hK15 _ _ ?_)))))))))))))))))))))))
  refine c_ret (f_ret3 (v1 := .pointer none) (v2 := .int .i64 at1) (v3 := .int .i64 e1) Try.results51 rfl rfl rfl ?_)
  exact ⟨.inl ⟨at1, e1, rfl, he1, hsl⟩, (E6.nx u10)⟩
 have zu10 := u10.size
 have hsp := Prod.ext_iff.1 hsl
 have hpb := hv.blk
 have hn20 := hvo.hn
 have hldn := hvo.ok.ldn
 have hldl : V.ld.length ≤ us.length := by have h := hldn; simp only [VG.st, List.length_map] at h; exact h
 refine t_move rfl rfl rfl (t_extract rfl rfl rfl rfl (t_extract rfl rfl rfl rfl (t_extract rfl rfl rfl rfl (t_assign rfl rfl rfl (t_assign rfl rfl rfl (t_assign rfl rfl rfl (t_nil' (hK7 _ _ (c_seq fun K17 hK17 => (c_seq fun K18 hK18 => (c_region (t_move rfl rfl rfl (t_cmp rfl rfl rfl rfl rfl (t_samehd (v := .bool true) rfl (t_move rfl rfl rfl (t_field Try.underlying25 rfl Try.sizeOf22 (0) rfl rfl rfl rfl ?_))))))))))))))))
 have B19 := (B4.kx u10)
 refine t_load Try.isAgg22 rfl rfl rfl (B19.get rfl) (t_len Try.underlying22 rfl rfl rfl rfl (t_ari rfl rfl rfl rfl rfl (by omega) (t_move rfl rfl rfl (t_bslice (ps := [(0, .int .i64 bl)]) (cs := [.int .i64 bl]) (e := 3) rfl rfl ⟨rfl, rfl⟩ (fun w => by kernel_rfl) (fun bk20 w21 ebk20 sbk20 B22 u23 => ?_)))))
 have zu23 := u23.size
 refine t_call own40 rfl rfl rfl rfl (within1_v 0 ((bs.length : Int) - 1) bl _ _ _ B22) (fun v25 w26 r28 => ?_)
 obtain ⟨rfl, u27⟩ := r28
 have zu27 := u27.size
 have E29 := ((E6.nx u10).nx u23).nx u27
 refine t_notp rfl rfl rfl (t_pick_t rfl rfl rfl rfl (t_nil' (hK18 _ _ (c_condp rfl (fun g27 => ?_) (fun g27 => ?_)))))
 ·
  refine c_seq fun K30 hK30 => (c_region (t_assign rfl rfl rfl (t_assign rfl rfl rfl (t_assign rfl rfl rfl (t_nil' (hK30 _ _ (c_ret (f_ret3 (v1 := .pointer none) (v2 := .int .i64 0) (v3 := .int .i64 7) Try.results51 rfl rfl rfl ?_))))))))
  exact ⟨.inr (.inl ⟨by rw [hsl], by simpa using g27, rfl⟩), E29⟩
 refine c_skip (hK17 _ _ (c_seq fun K31 hK31 => (c_region (t_move rfl rfl rfl (t_move rfl rfl rfl (t_move rfl rfl rfl (t_assign rfl rfl rfl (t_assign rfl rfl rfl (t_assign rfl rfl rfl (t_nil' (hK31 _ _ (c_ret (f_ret3 (v1 := .pointer (some ⟨pv, 0, none⟩)) (v2 := .int .i64 0) (v3 := .int .i64 0) Try.results51 rfl rfl rfl ?_)))))))))))))
 exact ⟨.inr (.inr ⟨by simpa using g27, _, pv, V, rfl, hsl, (hv.ext (((Upd.refl (fun _ => False) w9).next u23 (fun _ _ h => h.elim)).next u27 (fun _ _ h => h.elim))), hvo, hVb, hVc, h100, hVB, by omega⟩), E29⟩

set_option maxHeartbeats 1000000 in
theorem Recall_c (bs : List Bil) (ab : Option Addr) (bb ob cb : Nat) (hs : List Hld) (ah : Option Addr) (bh oh ch : Nat) (us : List Ev) (ae : Option Addr) (be oe ce : Nat) (bl : Int) (w0 : World) (hbs : Sl encBil 3 w0 ab bb ob bs) (hhs : Sl encHld 2 w0 ah bh oh hs) (hbl : bs.length ≤ 1000000) (hhl : hs.length ≤ 1000000) (hu : Sl encEv 8 w0 ae be oe us) (hul : us.length ≤ 1000000) (hpos : 0 < w0.heap.size) :
    CallsV Try.prog 23 [.agg #[.slice ab bs.length cb, .slice ah hs.length ch], .slice ae us.length ce, .int .i64 bl] w0 (fun v w' => RecallPost bs hs us bl v w' ∧ Ext w0 w') := by
 refine f_enter (N := 45) Try.func23 rfl rfl rfl (c_seq fun K1 hK1 => (c_region (t_box (cs := [.slice ab bs.length cb, .slice ah hs.length ch]) rfl rfl rfl rfl (fun bk2 w3 ebk2 sbk2 B4 u5 => ?_))))
 have zu5 := u5.size
 have E6 := (Upd.refl (fun _ => False) w0).nx u5
 refine t_assign rfl rfl rfl (t_assign rfl rfl rfl (t_assign rfl rfl rfl (t_nil' (hK1 _ _ (c_seq fun K7 hK7 => (c_region (t_loadN (vs := [.slice ab bs.length cb, .slice ah hs.length ch]) Try.isAgg25 Try.sizeOf25 rfl rfl rfl (B4.at.sub 0 2) rfl (t_move rfl rfl rfl (t_move rfl rfl rfl (t_call own51 rfl rfl rfl rfl (open_c bs ab bb ob cb hs ah bh oh ch us ae be oe ce bl _ (hbs.keep E6 (fun _ h => h)) (hhs.keep E6 (fun _ h => h)) hbl hhl (hu.keep E6 (fun _ h => h)) hul (by omega)) (fun v8 w9 r11 => ?_)))))))))))
 rcases r11 with ⟨⟨at1, e1, rfl, he1, hsl⟩ | ⟨hs2, hnb, rfl⟩ | ⟨hb, Bas9, pv, V, rfl, hsl, hv, hvo, hVb, hVc, h100, hVB, hBas⟩, u10⟩
 ·
  have zu10 := u10.size
  refine t_move rfl rfl rfl (t_extract rfl rfl rfl rfl (t_extract rfl rfl rfl rfl (t_extract rfl rfl rfl rfl (t_assign rfl rfl rfl (t_assign rfl rfl rfl (t_assign rfl rfl rfl (t_nil' (hK7 _ _ (c_seq fun K13 hK13 => (c_seq fun K14 hK14 => (c_region (t_move rfl rfl rfl (t_cmp rfl rfl rfl rfl rfl (t_nil' (hK14 _ _ (c_condp rfl (fun g21 => ?_) (fun g21 => ?_)))))))))))))))))
  ·
   refine c_seq fun K15 hK15 => (c_region (t_move rfl rfl rfl (t_move rfl rfl rfl (t_assign rfl rfl rfl (t_assign rfl rfl rfl (t_assign rfl rfl rfl (t_nil' (hK15 _ _ (c_ret (f_ret3 (v1 := .slice none 0 0) (v2 := .int .i64 at1) (v3 := .int .i64 e1) Try.results23 rfl rfl rfl ?_))))))))))
   exact ⟨.inl ⟨at1, e1, rfl, he1, hsl⟩, (E6.nx u10)⟩
  exact absurd he1 g21
 ·
  have zu10 := u10.size
  refine t_move rfl rfl rfl (t_extract rfl rfl rfl rfl (t_extract rfl rfl rfl rfl (t_extract rfl rfl rfl rfl (t_assign rfl rfl rfl (t_assign rfl rfl rfl (t_assign rfl rfl rfl (t_nil' (hK7 _ _ (c_seq fun K17 hK17 => (c_seq fun K18 hK18 => (c_region (t_move rfl rfl rfl (t_cmp rfl rfl rfl rfl rfl (t_samehd (v := .bool true) rfl (t_nil' (hK18 _ _ (c_cond_t rfl (c_seq fun K19 hK19 => (c_region (t_move rfl rfl rfl (t_move rfl rfl rfl (t_assign rfl rfl rfl (t_assign rfl rfl rfl ?_)))))))))))))))))))))))
  refine t_assign rfl rfl rfl (t_nil' (hK19 _ _ (c_ret (f_ret3 (v1 := .slice none 0 0) (v2 := .int .i64 0) (v3 := .int .i64 7) Try.results23 rfl rfl rfl ?_))))
  exact ⟨.inr (.inl ⟨hs2, hnb, rfl⟩), (E6.nx u10)⟩
 have zu10 := u10.size
 have hpb := hv.blk
 have hn20 := hvo.hn
 have hlsn := hvo.lsn
 have hldn := hvo.ok.ldn
 have hldl : V.ld.length ≤ us.length := by have h := hldn; simp only [VG.st, List.length_map] at h; exact h
 have hbl2 := hvo.ok.bn
 rw [hVb] at hlsn hbl2
 refine t_move rfl rfl rfl (t_extract rfl rfl rfl rfl (t_extract rfl rfl rfl rfl (t_extract rfl rfl rfl rfl (t_assign rfl rfl rfl (t_assign rfl rfl rfl (t_assign rfl rfl rfl (t_nil' (hK7 _ _ (c_seq fun K21 hK21 => (c_seq fun K22 hK22 => (c_region (t_move rfl rfl rfl (t_cmp rfl rfl rfl rfl rfl (t_samehd (v := .bool false) rfl (t_nil' (hK22 _ _ (c_cond_f rfl (c_skip (hK21 _ _ (c_seq fun K23 hK23 => (c_seq fun K24 hK24 => (c_region (t_move rfl rfl rfl ?_)))))))))))))))))))))))
 refine t_nilchk rfl rfl rfl (t_field Try.underlying118 rfl Try.sizeOf116 (5) rfl rfl rfl rfl (t_load Try.isAgg116 rfl rfl rfl (hpb.get rfl) (t_len Try.underlying116 rfl rfl rfl rfl (t_move rfl rfl rfl (t_nil' (hK24 _ _ (c_block (c_loop (γ := Nat × Option Addr × Nat × Nat × List Int) (fun gg => [(2, .int .i64 bl), (6, .slice gg.2.1 gg.2.2.2.2.length gg.2.2.2.1), (27, .slice V.da V.ld.length V.dc), (28, .int .i64 (V.ld.length : Int)), (29, .int .i64 (gg.1 : Int))]) (fun gg w => Upd (fun _ => False) w9 w ∧ (gg.1 ≤ V.ld.length) ∧ (gg.2.2.2.2 = recF ((V.ld.take gg.1).map fun l => ⟨l.ev, l.port, l.xs.map HLay.v⟩) bl) ∧ (gg.2.2.2.2.length ≤ gg.1) ∧ (Acc encI 1 3 w9.heap.size w gg.2.1 gg.2.2.1 gg.2.2.2.1 gg.2.2.2.2)) (fun gg => V.ld.length - gg.1) (0, none, 0, 0, []) ⟨rfl, rfl, rfl, rfl, rfl, trivial⟩ ⟨Upd.refl _ _, (Nat.zero_le _), rfl, (Nat.le_refl _), (Acc.nil _ _ _ _ _ (by omega) (Nat.le_refl _))⟩ ?_))))))))
 intro gg w26 hW K25 hK25
 obtain ⟨k, ao2, g2, c2, rs⟩ := gg
 change WC _ _ _ _ _ _ [(2, .int .i64 bl), (6, .slice ao2 rs.length c2), (27, .slice V.da V.ld.length V.dc), (28, .int .i64 (V.ld.length : Int)), (29, .int .i64 (k : Int))] _
 change Upd (fun _ => False) w9 w26 ∧ (k ≤ V.ld.length) ∧ (rs = recF ((V.ld.take k).map fun l => ⟨l.ev, l.port, l.xs.map HLay.v⟩) bl) ∧ (rs.length ≤ k) ∧ (Acc encI 1 3 w9.heap.size w26 ao2 g2 c2 rs) at hW
 obtain ⟨u27, I28, I29, I30, I31⟩ := hW
 have zu27 := u27.size
 have hk := I28; clear I28
 have hrs := I29; clear I29
 have hrl := I30; clear I30
 have hacc := I31; clear I31
 have lt_g2 := hacc.lt
 refine c_seq fun K33 hK33 => (c_region (t_cmp rfl rfl rfl rfl rfl (t_nil' (hK33 _ _ (c_seq fun K34 hK34 => (c_condp rfl (fun g30 => ?_) (fun g30 => ?_)))))))
 ·
  refine c_skip (hK34 _ _ (c_seq fun K35 hK35 => (c_block (c_seq fun K36 hK36 => (c_region ?_)))))
  have i37 : k < V.ld.length := (by omega)
  refine t_index (j := k) Try.underlying116 Try.sizeOf125 rfl rfl rfl rfl ((((hv.ext ((Upd.refl (fun _ => False) w9).next u27 (fun _ _ h => h.elim)))).dacc.sl (fun _ => rfl)).addr (by omega)) rfl i37 (t_loadN (vs := [.int .i64 ((nth V.ld k).ev), .int .i64 ((nth V.ld k).port), .slice ((nth V.ld k).ao) ((nth V.ld k).xs.length) ((nth V.ld k).cp)]) Try.isAgg125 Try.sizeOf125 rfl rfl rfl (((((hv.ext ((Upd.refl (fun _ => False) w9).next u27 (fun _ _ h => h.elim)))).dacc.sl (fun _ => rfl)).at_ k (by omega)).sub 0 3) rfl (t_alloc (cs := [.int .i64 0, .int .i64 0, .slice none 0 0]) Try.zeroValue125 rfl rfl rfl (fun bk38 w39 ebk38 sbk38 B40 u41 => ?_)))
  have zu41 := u41.size
  refine t_st (vs := [.int .i64 ((nth V.ld k).ev), .int .i64 ((nth V.ld k).port), .slice ((nth V.ld k).ao) ((nth V.ld k).xs.length) ((nth V.ld k).cp)]) Try.sizeOf125 rfl rfl rfl B40 rfl rfl rfl rfl (fun w43 sw43 B45 u44 => ?_)
  have zu44 := u44.size
  have B45 : Blk w43 bk38 125 [.int .i64 ((nth V.ld k).ev), .int .i64 ((nth V.ld k).port), .slice ((nth V.ld k).ao) ((nth V.ld k).xs.length) ((nth V.ld k).cp)] := B45
  refine t_nil' (hK36 _ _ (c_seq fun K47 hK47 => (c_region (t_field Try.underlying125 rfl Try.sizeOf120 (2) rfl rfl rfl rfl (t_load Try.isAgg120 rfl rfl rfl (B45.get rfl) (t_move rfl rfl rfl (t_call own53 rfl rfl rfl rfl (of_c ((nth V.ld k).xs) ((nth V.ld k).ao) (nth V.ld k).g 0 ((nth V.ld k).cp) bl _ ((((hv.ext ((((Upd.refl (fun _ => False) w9).next u27 (fun _ _ h => h.elim)).next u41 (fun _ _ h => h.elim)).next u44 (fun i hi h => by omega)))).land (nth V.ld k) (nth_mem (by omega))).acc.sl (fun _ => rfl)) (hvo.fewL (nth_mem (by omega))).1 (hvo.fewL (nth_mem (by omega))).2.1) (fun v48 w49 r51 => ?_))))))))
  obtain ⟨rfl, u50⟩ := r51
  have zu50 := u50.size
  refine t_cmp rfl rfl rfl rfl rfl (t_nil' (hK47 _ _ (c_condp rfl (fun g37 => ?_) (fun g37 => ?_))))
  ·
   refine c_region (t_move rfl rfl rfl (t_field Try.underlying125 rfl Try.sizeOf3 (0) rfl rfl rfl rfl ?_))
   have B53 := (B45.kx u50)
   refine t_load Try.isAgg3 rfl rfl rfl (B53.get rfl) (t_bslice (ps := [(0, .int .i64 ((nth V.ld k).ev))]) (cs := [.int .i64 ((nth V.ld k).ev)]) (e := 3) rfl rfl ⟨rfl, rfl⟩ (fun w => by kernel_rfl) (fun bk54 w55 ebk54 sbk54 B56 u57 => ?_))
   have zu57 := u57.size
   have D59 := ((((hacc.keep u41 (fun _ h => h)).keep u44 (fun hb => show ¬ (g2 = bk38) by first | omega | assumption)).keep u50 (fun _ h => h)).keep u57 (fun _ h => h))
   refine t_append (z := .int .i64 0) (bytes := 8) (k := 1) (base := w9.heap.size) ((nth V.ld k).ev) Try.underlying45 (by kernel_rfl) rfl (by decide) (fun _ => rfl) (by intro x; simp [encI, Value.oneCell']) rfl rfl rfl rfl D59 B56 (by omega) (by omega) (by decide) (fun ao60 gb61 cp62 w63 A64 u65 gegb61 lngb61 => ?_)
   have zu65 := u65.size
   have lt_gb61 := A64.lt
   refine t_assign rfl rfl rfl (t_nil' (hK35 _ _ (c_region (t_ari rfl rfl rfl rfl rfl (by omega) (t_move rfl rfl rfl (t_nil' ?_))))))
   exact hK25 (k + 1, ao60, gb61, cp62, (rs ++ [(nth V.ld k).ev])) _ _ (by show V.ld.length - (k + 1) < V.ld.length - k; omega) ⟨rfl, rfl, rfl, rfl, rfl, trivial⟩ ⟨(((((u27.next u41 (fun _ _ h => h.elim)).next u44 (fun i hi h => by omega)).next u50 (fun _ _ h => h.elim)).next u57 (fun _ _ h => h.elim)).next u65 (fun i hi h => by omega)), (by omega), (by rw [rec_snoc (by omega), ← hrs, if_pos g37]), (by show (rs ++ [(nth V.ld k).ev]).length ≤ k + 1; rw [List.length_append, List.length_singleton]; omega), A64⟩
  refine c_skip (hK35 _ _ (c_region (t_ari rfl rfl rfl rfl rfl (by omega) (t_move rfl rfl rfl (t_nil' ?_)))))
  have D67 := (((hacc.keep u41 (fun _ h => h)).keep u44 (fun hb => show ¬ (g2 = bk38) by first | omega | assumption)).keep u50 (fun _ h => h))
  exact hK25 (k + 1, ao2, g2, c2, rs) _ _ (by show V.ld.length - (k + 1) < V.ld.length - k; omega) ⟨rfl, rfl, rfl, rfl, rfl, trivial⟩ ⟨(((u27.next u41 (fun _ _ h => h.elim)).next u44 (fun i hi h => by omega)).next u50 (fun _ _ h => h.elim)), (by omega), (by rw [rec_snoc (by omega), ← hrs, if_neg g37, List.append_nil]), (by show rs.length ≤ k + 1; omega), D67⟩
 refine c_exit (hK23 _ _ (c_seq fun K68 hK68 => (c_region (t_move rfl rfl rfl (t_assign rfl rfl rfl (t_assign rfl rfl rfl (t_assign rfl rfl rfl (t_nil' (hK68 _ _ (c_ret (f_ret3 (v1 := .slice ao2 rs.length c2) (v2 := .int .i64 0) (v3 := .int .i64 0) Try.results23 rfl rfl rfl ?_)))))))))))
 exact ⟨.inr (.inr ⟨by rw [hsl], hb, ao2, g2, c2, rs, rfl, by rw [hrs, hsl, show k = V.ld.length by omega, List.take_length]; rfl, hacc.sl (fun _ => rfl)⟩), ((E6.nx u10).nx u27)⟩

end Go.Proofs.Ytblkphbblkncdaa
