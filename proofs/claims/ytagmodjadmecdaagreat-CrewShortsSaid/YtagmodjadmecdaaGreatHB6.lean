/-
  The reference: Plan, short, Short; equal. Conditions: none.
-/
import Derived.Test.YtagmodjadmecdaaGreatHB5
import Derived.Test.YtagmodjadmecdaaGreatHA14
import Derived.Test.YtagmodjadmecdaaGreatHMkn
namespace Go.Proofs.YtagmodjadmecdaaGreat
open Go Go.RowKit Tryz

theorem rPlan_two {P : Program} {f : FuncId} {vs : List Value} {w0 : World} {R : Option (List (List Int)) × Nat}
    (h : CallsV P f vs w0 (fun v w' => ((v = .agg #[.bool false, .slice none 0 0, .int .i64 (R.2 : Int)] ∧ R.1 = none) ∨ (∃ ao g c rows, v = .agg #[.bool true, .slice ao (List.length rows) c, .int .i64 (R.2 : Int)] ∧ R.1 = some (rows.map HL.xs) ∧ Sl encHL 1 w' ao g 0 rows ∧ ∀ h ∈ rows, Sl encI 1 w' h.ao h.b h.o h.xs ∧ h.xs.length ≤ 1000000)) ∧ Ext w0 w')) :
    CallsV P f vs w0 (fun v w' => (v = .agg #[.bool false, .slice none 0 0, .int .i64 (R.2 : Int)] ∧ R.1 = none ∧ Ext w0 w') ∨ (∃ ao g c rows, v = .agg #[.bool true, .slice ao (List.length rows) c, .int .i64 (R.2 : Int)] ∧ R.1 = some (rows.map HL.xs) ∧ (Sl encHL 1 w' ao g 0 rows ∧ ∀ h ∈ rows, Sl encI 1 w' h.ao h.b h.o h.xs ∧ h.xs.length ≤ 1000000) ∧ Ext w0 w')) :=
  h.mono fun v w' ⟨h1, u⟩ => by
    rcases h1 with ⟨a, b⟩ | ⟨ao, g, c, rows, a, b, e, f⟩
    · exact .inl ⟨a, b, u⟩
    · exact .inr ⟨ao, g, c, rows, a, b, ⟨e, f⟩, u⟩
structure CrwP (r : Rul) (hs : List HS) (al : Option Addr) (bl ol cl : Nat) (ss : List Slr) (w : World) : Prop where
  hr : okRul r = true
  hl : Sl encHS 4 w al bl ol hs
  hm : ∀ h ∈ hs, SlrM w h
  hss : hs.map HS.slr = ss
  h6 : hs.length ≤ 6
  hds : ∀ s ∈ ss, s.ds.length ≤ 20
  hod : ∀ s ∈ ss, ∀ d ∈ s.ds, okDty d = true
theorem SlrM.keepE {w w' : World} {h : HS} (m : SlrM w h) (u : Ext w w') : SlrM w' h := ⟨m.hp.keep u (fun _ z => z), m.hpl, m.hd.keep u (fun _ z => z), m.hdl⟩
theorem CrwP.ext {r hs al bl ol cl ss} {w w' : World} (h : CrwP r hs al bl ol cl ss w) (u : Ext w w') : CrwP r hs al bl ol cl ss w' := ⟨h.hr, h.hl.keep u (fun _ z => z), fun x hx => (h.hm x hx).keepE u, h.hss, h.h6, h.hds, h.hod⟩
theorem TryP.start {r hs al bl ol cl ss xs ax bx ox cx os ab bb ob cb fb} {w0 w : World} (hc : CrwP r hs al bl ol cl ss w0) (hxs : Sl encLeg 7 w0 ax bx ox xs) (hxl : xs.length ≤ 8) (hox : ∀ x ∈ xs, okLeg x = true) (ho : Sl encB 1 w0 ab bb ob os) (hol : os.length = hs.length) (u : Ext w0 w) (hB : Blk w fb 72 [.bool false, .slice none 0 0, .int .i64 ((0 : Nat) : Int)]) (hfb : w0.heap.size ≤ fb) :
    TryP r fb hs al bl ol cl ss xs ax bx ox cx os ab bb ob cb [] none 0 0 [] none 0 0 0 0 0 0 36 w :=
  { hr := hc.hr, f := hB, hl := hc.hl.keep u (fun _ z => z), hb := fun h => by have := hc.hl.lt h; omega, hm := fun h hh => ⟨(hc.hm h hh).keepE u, fun q => by have := (hc.hm h hh).hp.lt q; omega, fun q => by have := (hc.hm h hh).hd.lt q; omega⟩, hss := hc.hss, h6 := hc.h6, hds := fun s h => by have := hc.hds s h; omega, hod := hc.hod, hxs := hxs.keep u (fun _ z => z), hxb := fun h => by have := hxs.lt h; omega, hxl := hxl, hox := hox, ho := ho.keep u (fun _ z => z), hob := fun h => by have := ho.lt h; omega, hol := hol, hrw := Sl.nil _ _ _ _ _ _, hrb := fun h => absurd h (Nat.lt_irrefl _), hrm := fun h hh => (by cases hh), hk := Nat.zero_le _, hn := Sl.nil _ _ _ _ _ _, hnb := fun h => absurd h (Nat.lt_irrefl _), hnl := fun h => by have := (okLeg_ok (hox _ (nth_mem h))).2.1; show ((0 : Nat) : Int) ≤ _; omega, hn3 := Nat.zero_le _, hi := .inl ⟨rfl, rfl⟩, hi6 := Nat.zero_le _, hpl := ⟨Int.le_refl _, Int.le_refl _⟩, hmu := by show 4 * (xs.length - 0) ≤ 36 + 0; omega }
def fsN (r : Rul) (xs : List Leg) (ms : List Mb) (L : List (List Int)) : Option (List Int) := L.find? fun l => !sfP r (pickL xs l) ms
theorem fs_app {r : Rul} {xs : List Leg} {ms : List Mb} {a b : List (List Int)} : fsN r xs ms (a ++ b) = (match fsN r xs ms a with | some l => some l | none => fsN r xs ms b) := by
  unfold fsN; rw [List.find?_append]; cases List.find? (fun l => !sfP r (pickL xs l) ms) a <;> rfl
theorem ch_all {n m i : Nat} (hm : 0 < m) (hi : i < n) : chP n m i = (chP n (m - 1) (i + 1)).map ((i : Int) :: ·) ++ chP n m (i + 1) := by
  by_cases h : i + m ≤ n
  · exact ch_step hm h
  · rw [ch_end hm (by omega), ch_end hm (i := i + 1) (by omega)]
    by_cases h2 : m = 1
    · omega
    · rw [ch_end (show 0 < m - 1 by omega) (by omega)]; rfl
theorem fs_step {r : Rul} {xs : List Leg} {ms : List Mb} {ns : List Int} {m i : Nat} (hm : 0 < m) (hi : i < xs.length) : fsN r xs ms ((chP xs.length m i).map (ns ++ ·)) = (match fsN r xs ms ((chP xs.length (m - 1) (i + 1)).map ((ns ++ [(i : Int)]) ++ ·)) with | some l => some l | none => fsN r xs ms ((chP xs.length m (i + 1)).map (ns ++ ·))) := by
  rw [ch_all hm hi, List.map_append, fs_app, List.map_map]
  have : ((fun x => ns ++ x) ∘ fun x => (i : Int) :: x) = fun x => (ns ++ [(i : Int)]) ++ x := by funext x; simp
  rw [this]
structure ShtP (r : Rul) (hs : List HS) (al : Option Addr) (bl ol cl : Nat) (ss : List Slr) (xs : List Leg) (ax : Option Addr) (bx ox cx : Nat) (ns : List Int) (an : Option Addr) (bn on cn : Nat) (i0 many n : Nat) (w : World) : Prop where
  hc : CrwP r hs al bl ol cl ss w
  hxs : Sl encLeg 7 w ax bx ox xs
  hxl : xs.length ≤ 8
  hox : ∀ x ∈ xs, okLeg x = true
  hn : Sl encI 1 w an bn on ns
  hns : ∀ i ∈ ns, 0 ≤ i ∧ i < (xs.length : Int)
  hi : (ns.length = 0 ∧ i0 = 0) ∨ (0 < ns.length ∧ nth ns (ns.length - 1) + 1 = (i0 : Int))
  hi8 : i0 ≤ xs.length
  hmn : ns.length + n = many
  hm8 : many ≤ xs.length
  hpos : 0 < w.heap.size
def ShtQ (n : Nat) : Prop := ∀ r hs al bl ol cl ss xs ax bx ox cx ns an bn on cn i0 many w, ShtP r hs al bl ol cl ss xs ax bx ox cx ns an bn on cn i0 many n w →
  CallsV Tryz.prog 73 [.agg #[.int .i64 r.rest, .int .i64 r.span, .int .i64 r.work, .int .i64 r.week, .int .i64 r.ww], .slice al hs.length cl, .slice ax xs.length cx, .slice an ns.length cn, .int .i64 (many : Int)] w
    (fun v w' => (∃ ao k c, v = .tuple #[.slice ao k c, .bool false] ∧ fsN r xs (ss.map boardP) ((chP xs.length n i0).map (ns ++ ·)) = none ∧ Ext w w') ∨
      (∃ ao g o c l, v = .tuple #[.slice ao (List.length l) c, .bool true] ∧ fsN r xs (ss.map boardP) ((chP xs.length n i0).map (ns ++ ·)) = some l ∧ Sl encI 1 w' ao g o l ∧ Ext w w'))
theorem own31 : Own Tryz.prog 31 := ⟨Tryz.f31, func31, by kernel_rfl, by kernel_rfl⟩
theorem own73 : Own Tryz.prog 73 := ⟨Tryz.f73, func73, by kernel_rfl, by kernel_rfl⟩
theorem own39 : Own Tryz.prog 39 := ⟨Tryz.f39, func39, by kernel_rfl, by kernel_rfl⟩

theorem rPlan_c (r : Rul) (hs : List HS) (al : Option Addr) (bl ol cl : Nat) (ss : List Slr) (xs : List Leg) (ax : Option Addr) (bx ox cx : Nat) (os : List Bool) (ab : Option Addr) (bb ob cb : Nat) (w0 : World) (hc : CrwP r hs al bl ol cl ss w0) (hxs : Sl encLeg 7 w0 ax bx ox xs) (hxl : xs.length ≤ 8) (hox : ∀ x ∈ xs, okLeg x = true) (ho : Sl encB 1 w0 ab bb ob os) (hol : os.length = hs.length) :
    CallsV Tryz.prog 31 [.agg #[.int .i64 r.rest, .int .i64 r.span, .int .i64 r.work, .int .i64 r.week, .int .i64 r.ww], .slice al hs.length cl, .slice ax xs.length cx, .slice ab os.length cb] w0 (fun v w' => ((v = .agg #[.bool false, .slice none 0 0, .int .i64 ((asgP r xs (mbO os ss) 0 0).2 : Int)] ∧ (asgP r xs (mbO os ss) 0 0).1 = none) ∨ (∃ ao g c rows, v = .agg #[.bool true, .slice ao (List.length rows) c, .int .i64 ((asgP r xs (mbO os ss) 0 0).2 : Int)] ∧ (asgP r xs (mbO os ss) 0 0).1 = some (rows.map HL.xs) ∧ Sl encHL 1 w' ao g 0 rows ∧ ∀ h ∈ rows, Sl encI 1 w' h.ao h.b h.o h.xs ∧ h.xs.length ≤ 1000000)) ∧ Ext w0 w') := by
 refine f_enter (N := 17) func31 rfl rfl rfl (c_seq fun K1 hK1 => (c_region (t_box (cs := [.int .i64 r.rest, .int .i64 r.span, .int .i64 r.work, .int .i64 r.week, .int .i64 r.ww]) rfl rfl rfl rfl (fun bk2 w3 ebk2 sbk2 B4 u5 => ?_))))
 have zu5 := u5.size
 refine t_alloc (cs := [.bool false, .slice none 0 0, .int .i64 0]) zeroValue72 rfl rfl rfl (fun bk7 w8 ebk7 sbk7 B9 u10 => ?_)
 have zu10 := u10.size
 refine t_nil' (hK1 _ _ (c_seq fun K12 hK12 => (c_region (t_build (ps := []) (v := .agg #[.bool false, .slice none 0 0, .int .i64 0]) rfl rfl ⟨rfl, rfl⟩ (fun w => by kernel_rfl) (t_alloc (cs := [.bool false, .slice none 0 0, .int .i64 0]) zeroValue72 rfl rfl rfl (fun bk13 w14 ebk13 sbk13 B15 u16 => ?_))))))
 have zu16 := u16.size
 refine t_st (vs := [.bool false, .slice none 0 0, .int .i64 0]) sizeOf72 rfl rfl rfl B15 rfl rfl rfl rfl (fun w18 sw18 B20 u19 => ?_)
 have zu19 := u19.size
 have E21 := ((((Upd.refl (fun _ => False) w0).nx u5).nx u10).nx u16).next u19 (fun i hi h => by omega)
 have B20 : Blk w18 bk13 72 [.bool false, .slice none 0 0, .int .i64 0] := B20
 refine t_nil' (hK12 _ _ (c_seq fun K22 hK22 => (c_region ?_)))
 have B23 := (((B4.kx u10).kx u16).keep u19 (by omega))
 refine t_loadN (vs := [.int .i64 r.rest, .int .i64 r.span, .int .i64 r.work, .int .i64 r.week, .int .i64 r.ww]) isAgg23 sizeOf23 rfl rfl rfl (B23.at.sub 0 5) rfl (t_move rfl rfl rfl (t_move rfl rfl rfl (t_move rfl rfl rfl ?_)))
 have B24 : Blk w18 bk13 72 [.bool false, .slice none 0 0, .int .i64 ((0 : Nat) : Int)] := by
   have e : ([.bool false, .slice none 0 0, .int .i64 0] : List Value) = [.bool false, .slice none 0 0, .int .i64 ((0 : Nat) : Int)] := rfl
   rw [← e]; exact B20
 have hT : TryP r bk13 hs al bl ol cl ss xs ax bx ox cx os ab bb ob cb [] none 0 0 [] none 0 0 0 0 0 0 36 w18 := TryP.start hc hxs hxl hox ho hol E21 B24 (by omega)
 refine t_call own62 rfl rfl rfl rfl (TryQ.two (rTry_c 36) hT [] (asgP r xs (mbO os ss) 0 0) rfl (tm_start (Nat.zero_le _))) (fun v26 w27 r29 => ?_)
 rcases r29 with ⟨rfl, hnk25, hBk25, u28⟩ | ⟨qk25, aok25, gk25, ck25, rwk25, rfl, hnk25, hBk25, ⟨hSk25, hgk25, hlk25, hxk25⟩, u28⟩
 ·
  have zu28 := u28.size
  refine t_nil' (hK22 _ _ (c_seq fun K31 hK31 => (c_region (t_loadN (vs := [.bool false, .slice none 0 0, .int .i64 ((asgP r xs (mbO os ss) 0 0).2 : Int)]) isAgg72 sizeOf72 rfl rfl rfl (hBk25.at.sub 0 3) rfl ?_))))
  have B32 := (((B9.kx u16).keep u19 (by omega)).keep u28 (by omega))
  refine t_st (vs := [.bool false, .slice none 0 0, .int .i64 ((asgP r xs (mbO os ss) 0 0).2 : Int)]) sizeOf72 rfl rfl rfl B32 rfl rfl rfl rfl (fun w33 sw33 B35 u34 => ?_)
  have zu34 := u34.size
  have B35 : Blk w33 bk7 72 [.bool false, .slice none 0 0, .int .i64 ((asgP r xs (mbO os ss) 0 0).2 : Int)] := B35
  refine t_nil' (hK31 _ _ (c_ret (f_ret1 (v := .agg #[.bool false, .slice none 0 0, .int .i64 ((asgP r xs (mbO os ss) 0 0).2 : Int)]) results31 ⟨_, _, rfl, run_loadVarN (vs := [.bool false, .slice none 0 0, .int .i64 ((asgP r xs (mbO os ss) 0 0).2 : Int)]) isAgg72 sizeOf72 rfl (B35.at.sub 0 3)⟩ ?_)))
  exact ⟨.inl ⟨rfl, hnk25⟩, ((E21.next u28 (fun i hi h => by omega)).next u34 (fun i hi h => by omega))⟩
 have zu28 := u28.size
 refine t_nil' (hK22 _ _ (c_seq fun K38 hK38 => (c_region (t_loadN (vs := [.bool true, .slice aok25 rwk25.length ck25, .int .i64 ((asgP r xs (mbO os ss) 0 0).2 : Int)]) isAgg72 sizeOf72 rfl rfl rfl (hBk25.at.sub 0 3) rfl ?_))))
 have B39 := (((B9.kx u16).keep u19 (by omega)).keep u28 (by omega))
 refine t_st (vs := [.bool true, .slice aok25 rwk25.length ck25, .int .i64 ((asgP r xs (mbO os ss) 0 0).2 : Int)]) sizeOf72 rfl rfl rfl B39 rfl rfl rfl rfl (fun w40 sw40 B42 u41 => ?_)
 have zu41 := u41.size
 have B42 : Blk w40 bk7 72 [.bool true, .slice aok25 rwk25.length ck25, .int .i64 ((asgP r xs (mbO os ss) 0 0).2 : Int)] := B42
 refine t_nil' (hK38 _ _ (c_ret (f_ret1 (v := .agg #[.bool true, .slice aok25 rwk25.length ck25, .int .i64 ((asgP r xs (mbO os ss) 0 0).2 : Int)]) results31 ⟨_, _, rfl, run_loadVarN (vs := [.bool true, .slice aok25 rwk25.length ck25, .int .i64 ((asgP r xs (mbO os ss) 0 0).2 : Int)]) isAgg72 sizeOf72 rfl (B42.at.sub 0 3)⟩ ?_)))
 have hSz := (hSk25.keep u41 (fun h9 => by have h8 := hgk25 h9; show ¬ (gk25 = bk7); omega))
 have hlz : ∀ h ∈ rwk25, Sl encI 1 w40 h.ao h.b h.o h.xs := fun h hh => ((hlk25 h hh).1.1.keep u41 (fun h9 => by have h8 := (hlk25 h hh).2 h9; show ¬ (h.b = bk7); omega))
 exact ⟨.inr ⟨aok25, gk25, ck25, rwk25, rfl, by rw [hnk25, hxk25]; rfl, hSz, fun h hh => ⟨hlz h hh, (hlk25 h hh).1.2⟩⟩, ((E21.next u28 (fun i hi h => by omega)).next u41 (fun i hi h => by omega))⟩

theorem equal_c (xs : List Int) (ax : Option Addr) (bx ox cx : Nat) (ys : List Int) (ay : Option Addr) (by9 oy cy : Nat) (w0 : World) (hx : Sl encI 1 w0 ax bx ox xs) (hy : Sl encI 1 w0 ay by9 oy ys) (hxl : xs.length ≤ 1000000) :
    CallsV Tryz.prog 40 [.slice ax xs.length cx, .slice ay ys.length cy] w0 (fun v w' => v = .bool (decide (xs = ys)) ∧ Ext w0 w') := by
 have E0 := Upd.refl (fun _ => False) w0
 refine f_enter (N := 26) func40 rfl rfl rfl (c_seq fun K1 hK1 => (c_region (t_assign rfl rfl rfl (t_nil' (hK1 _ _ (c_seq fun K2 hK2 => (c_seq fun K3 hK3 => (c_region (t_move rfl rfl rfl (t_len underlying60 rfl rfl rfl rfl (t_move rfl rfl rfl (t_len underlying60 rfl rfl rfl rfl (t_cmp rfl rfl rfl rfl rfl (t_nil' (hK3 _ _ (c_condp rfl (fun g10 => ?_) (fun g10 => ?_)))))))))))))))))
 ·
  refine c_seq fun K4 hK4 => (c_region (t_assign rfl rfl rfl (t_nil' (hK4 _ _ (c_ret (f_ret1 (v := .bool false) results40 rfl ?_))))))
  exact ⟨congrArg Value.bool (decide_eq_false (fun e => by rw [e] at g10; exact g10 rfl)).symm, E0⟩
 refine c_skip (hK2 _ _ (c_seq fun K5 hK5 => (c_seq fun K6 hK6 => (c_region (t_assign rfl rfl rfl (t_nil' (hK6 _ _ (c_block (c_loop (γ := Nat) (fun k => [(0, .slice ax xs.length cx), (1, .slice ay ys.length cy), (5, .int .i64 (k : Int))]) (fun k w => Upd (fun _ => False) w0 w ∧ (k ≤ xs.length) ∧ (∀ j, j < k → nth xs j = nth ys j)) (fun k => xs.length - k) 0 ⟨rfl, rfl, rfl, trivial⟩ ⟨Upd.refl _ _, (Nat.zero_le _), (fun j hj => absurd hj (Nat.not_lt_zero _))⟩ ?_)))))))))
 intro k w8 hW K7 hK7
 obtain ⟨u9, I10, I11⟩ := hW
 have zu9 := u9.size
 have E12 := E0.nx u9
 have hk := I10; clear I10
 have he := I11; clear I11
 refine c_seq fun K13 hK13 => (c_seq fun K14 hK14 => (c_region (t_move rfl rfl rfl (t_move rfl rfl rfl (t_len underlying60 rfl rfl rfl rfl (t_cmp rfl rfl rfl rfl rfl (t_nil' (hK14 _ _ (c_condp rfl (fun g14 => ?_) (fun g14 => ?_))))))))))
 ·
  refine c_skip (hK13 _ _ (c_seq fun K15 hK15 => (c_block (c_seq fun K16 hK16 => (c_drawnM follows (fun _ => False) (.look 0 (.look 1 (.look 2 (.look 3 (.look 4 (.look 5 (.look 6 (.look 7 (.look 8 .done))))))))) (by kernel_rfl) fun w17 u18 => ?_)))))
  have zu18 := u18.size
  have E19 := E12.nx u18
  refine y_move rfl rfl rfl (y_move rfl rfl rfl ?_)
  have i20 : k < xs.length := (by omega)
  refine y_index (j := k) underlying60 sizeOf3 rfl rfl rfl rfl ((hx.keep E19 (fun _ h => h)).addr (by omega)) rfl i20 (y_load isAgg3 rfl rfl rfl (((hx.keep E19 (fun _ h => h)).at_ k (by omega)) 0 _ rfl) (fun h => h) (y_move rfl rfl rfl (y_move rfl rfl rfl ?_)))
  have i21 : k < ys.length := (by omega)
  refine y_index (j := k) underlying60 sizeOf3 rfl rfl rfl rfl ((hy.keep E19 (fun _ h => h)).addr (by omega)) rfl i21 (y_load isAgg3 rfl rfl rfl (((hy.keep E19 (fun _ h => h)).at_ k (by omega)) 0 _ rfl) (fun h => h) (y_cmp rfl rfl rfl rfl rfl (s_nil (hK16 _ _ (c_condp rfl (fun g25 => ?_) (fun g25 => ?_))))))
  ·
   refine c_seq fun K22 hK22 => (c_region (t_assign rfl rfl rfl (t_nil' (hK22 _ _ (c_ret (f_ret1 (v := .bool false) results40 rfl ?_))))))
   exact ⟨congrArg Value.bool (decide_eq_false (fun e => by rw [e] at g25; exact g25 rfl)).symm, E19⟩
  refine c_skip (hK15 _ _ (c_region (t_move rfl rfl rfl (t_ari rfl rfl rfl rfl rfl (by omega) (t_assign rfl rfl rfl (t_nil' ?_))))))
  exact hK7 (k + 1) _ _ (by omega) ⟨rfl, rfl, rfl, trivial⟩ ⟨(u9.nx u18), (by omega), (fun j hj => by
    rcases Nat.lt_or_ge j k with q | q
    · exact he j q
    · rw [show j = k by omega]; omega)⟩
 refine c_exit (hK5 _ _ (c_seq fun K23 hK23 => (c_region (t_assign rfl rfl rfl (t_nil' (hK23 _ _ (c_ret (f_ret1 (v := .bool true) results40 rfl ?_))))))))
 exact ⟨congrArg Value.bool (decide_eq_true (ext_nth (by omega) (fun j hj => he j (by omega)))).symm, E12⟩

set_option maxHeartbeats 2000000 in
theorem rshort_s (r : Rul) (hs : List HS) (al : Option Addr) (bl ol cl : Nat) (ss : List Slr) (xs : List Leg) (ax : Option Addr) (bx ox cx : Nat) (ns : List Int) (an : Option Addr) (bn on cn : Nat) (i0 many n : Nat) (w0 : World) (hp : ShtP r hs al bl ol cl ss xs ax bx ox cx ns an bn on cn i0 many n w0) (ih : ∀ q, q < n → ShtQ q) :
    CallsV Tryz.prog 73 [.agg #[.int .i64 r.rest, .int .i64 r.span, .int .i64 r.work, .int .i64 r.week, .int .i64 r.ww], .slice al hs.length cl, .slice ax xs.length cx, .slice an ns.length cn, .int .i64 (many : Int)] w0 (fun v w' => (∃ ao k c, v = .tuple #[.slice ao k c, .bool false] ∧ (fsN r xs (ss.map boardP) ((chP xs.length n i0).map (ns ++ ·))) = none ∧ Ext w0 w') ∨ (∃ ao g o c l, v = .tuple #[.slice ao (List.length l) c, .bool true] ∧ (fsN r xs (ss.map boardP) ((chP xs.length n i0).map (ns ++ ·))) = some l ∧ Sl encI 1 w' ao g o l ∧ Ext w0 w')) := by
 have hpos := hp.hpos
 have hm88 := hp.hm8
 have hxl8 := hp.hxl
 have h68 := hp.hc.h6
 have hmn8 := hp.hmn
 refine f_enter (N := 81) func73 rfl rfl rfl (c_seq fun K1 hK1 => (c_region (t_box (cs := [.int .i64 r.rest, .int .i64 r.span, .int .i64 r.work, .int .i64 r.week, .int .i64 r.ww]) rfl rfl rfl rfl (fun bk2 w3 ebk2 sbk2 B4 u5 => ?_))))
 have zu5 := u5.size
 have E6 := (Upd.refl (fun _ => False) w0).nx u5
 refine t_assign rfl rfl rfl (t_assign rfl rfl rfl (t_nil' (hK1 _ _ (c_seq fun K7 hK7 => (c_seq fun K8 hK8 => (c_region (t_move rfl rfl rfl (t_len underlying60 rfl rfl rfl rfl (t_move rfl rfl rfl (t_cmp rfl rfl rfl rfl rfl (t_nil' (hK8 _ _ (c_condp rfl (fun g21 => ?_) (fun g21 => ?_))))))))))))))
 ·
  have hn0 : n = 0 := by have := hp.hmn; omega
  refine c_seq fun K9 hK9 => (c_region (t_bslice (ps := []) (cs := []) (e := 68) rfl rfl ⟨rfl, rfl⟩ (fun w => by kernel_rfl) (fun bk10 w11 ebk10 sbk10 B12 u13 => ?_)))
  have zu13 := u13.size
  refine t_assign rfl rfl rfl (t_nil' (hK9 _ _ (c_seq fun K15 hK15 => (c_seq fun K16 hK16 => (c_region (t_assign rfl rfl rfl (t_nil' (hK16 _ _ (c_block (c_loop (γ := Nat × Option Addr × Nat × Nat × List Leg) (fun gg => [(1, .slice al hs.length cl), (2, .slice ax xs.length cx), (3, .slice an ns.length cn), (4, .int .i64 (many : Int)), (5, .pointer (some ⟨bk2, 0, none⟩)), (12, .slice gg.2.1 gg.2.2.2.2.length gg.2.2.2.1), (13, .int .i64 (gg.1 : Int))]) (fun gg w => Upd (fun i => bk10 ≤ i) w11 w ∧ (gg.1 ≤ ns.length) ∧ (Acc encLeg 7 68 bk10 w gg.2.1 gg.2.2.1 gg.2.2.2.1 gg.2.2.2.2) ∧ (gg.2.2.2.2 = pickL xs (ns.take gg.1))) (fun gg => ns.length - gg.1) (0, some ⟨bk10, 0, none⟩, bk10, 0, []) ⟨rfl, rfl, rfl, rfl, rfl, rfl, rfl, trivial⟩ ⟨Upd.refl _ _, (Nat.zero_le _), (Acc.ofRaw (cs := []) B12 (Nat.le_refl _) (Nat.le_refl _) (Nat.zero_le _) (by rfl) (by rfl)), rfl⟩ ?_))))))))))
  intro gg w18 hW K17 hK17
  obtain ⟨k, ao, go, co, so⟩ := gg
  change WC _ _ _ _ _ _ [(1, .slice al hs.length cl), (2, .slice ax xs.length cx), (3, .slice an ns.length cn), (4, .int .i64 (many : Int)), (5, .pointer (some ⟨bk2, 0, none⟩)), (12, .slice ao so.length co), (13, .int .i64 (k : Int))] _
  change Upd (fun i => bk10 ≤ i) w11 w18 ∧ (k ≤ ns.length) ∧ (Acc encLeg 7 68 bk10 w18 ao go co so) ∧ (so = pickL xs (ns.take k)) at hW
  obtain ⟨u19, I20, I21, I22⟩ := hW
  have zu19 := u19.size
  have E23 := (E6.nx u13).next u19 (fun i hi (h : bk10 ≤ i) => show False by first | omega | assumption)
  have hk := I20; clear I20
  have hso := I21; clear I21
  have hsoe := I22; clear I22
  have lt_go := hso.lt
  have hcapo := hso.cap_le
  refine c_seq fun K24 hK24 => (c_seq fun K25 hK25 => (c_region (t_move rfl rfl rfl (t_move rfl rfl rfl (t_cmp rfl rfl rfl rfl rfl (t_nil' (hK25 _ _ (c_condp rfl (fun g25 => ?_) (fun g25 => ?_)))))))))
  ·
   have hnk := hp.hns _ (nth_mem (xs := ns) (i := k) (by omega))
   have hsol : so.length = k := by rw [hsoe]; simp [pickL]; omega
   refine c_skip (hK24 _ _ (c_seq fun K26 hK26 => (c_block (c_region (t_move rfl rfl rfl (t_move rfl rfl rfl (t_move rfl rfl rfl (t_move rfl rfl rfl ?_))))))))
   have i27 : k < ns.length := (by omega)
   refine t_index (j := k) underlying60 sizeOf3 rfl rfl rfl rfl ((hp.hn.keep E23 (fun _ z => z)).addr (by omega)) rfl i27 (t_load isAgg3 rfl rfl rfl (((hp.hn.keep E23 (fun _ z => z)).at_ k (by omega)) 0 _ rfl) ?_)
   have i28 : (nth ns k).toNat < xs.length := (by omega)
   refine t_index (j := (nth ns k).toNat) underlying55 sizeOf68 rfl rfl rfl rfl ((hp.hxs.keep E23 (fun _ z => z)).addr (by omega)) (by omega) i28 (t_loadN (vs := [.int .i64 ((nth xs ((nth ns k).toNat)).r), .int .i64 ((nth xs ((nth ns k).toNat)).t.bl), .int .i64 ((nth xs ((nth ns k).toNat)).t.bh), .int .i64 ((nth xs ((nth ns k).toNat)).t.el), .int .i64 ((nth xs ((nth ns k).toNat)).t.eh), .int .i64 ((nth xs ((nth ns k).toNat)).h), .int .i64 ((nth xs ((nth ns k).toNat)).p)]) isAgg68 sizeOf68 rfl rfl rfl (((hp.hxs.keep E23 (fun _ z => z)).at_ ((nth ns k).toNat) (by omega)).sub 0 7) rfl (t_bslice (ps := [(0, .agg #[.int .i64 ((nth xs ((nth ns k).toNat)).r), .int .i64 ((nth xs ((nth ns k).toNat)).t.bl), .int .i64 ((nth xs ((nth ns k).toNat)).t.bh), .int .i64 ((nth xs ((nth ns k).toNat)).t.el), .int .i64 ((nth xs ((nth ns k).toNat)).t.eh), .int .i64 ((nth xs ((nth ns k).toNat)).h), .int .i64 ((nth xs ((nth ns k).toNat)).p)])]) (cs := [.int .i64 ((nth xs ((nth ns k).toNat)).r), .int .i64 ((nth xs ((nth ns k).toNat)).t.bl), .int .i64 ((nth xs ((nth ns k).toNat)).t.bh), .int .i64 ((nth xs ((nth ns k).toNat)).t.el), .int .i64 ((nth xs ((nth ns k).toNat)).t.eh), .int .i64 ((nth xs ((nth ns k).toNat)).h), .int .i64 ((nth xs ((nth ns k).toNat)).p)]) (e := 68) rfl rfl ⟨rfl, rfl⟩ (fun w => by kernel_rfl) (fun bk29 w30 ebk29 sbk29 B31 u32 => ?_)))
   have zu32 := u32.size
   have D34 := (hso.kE u32)
   refine t_append (z := .agg #[.int .i64 0, .int .i64 0, .int .i64 0, .int .i64 0, .int .i64 0, .int .i64 0, .int .i64 0]) (bytes := 56) (k := 7) (base := bk10) (nth xs (nth ns k).toNat) underlying55 (by kernel_rfl) rfl (by decide) (fun _ => rfl) (by intro x; simp [encLeg, Value.oneCell']) rfl rfl rfl rfl D34 B31 (by omega) (by omega) (by decide) (fun ao35 gb36 cp37 w38 A39 u40 gegb36 lngb36 => ?_)
   have zu40 := u40.size
   have lt_gb36 := A39.lt
   refine t_assign rfl rfl rfl (t_nil' (hK26 _ _ (c_region (t_move rfl rfl rfl (t_ari rfl rfl rfl rfl rfl (by omega) (t_assign rfl rfl rfl (t_nil' ?_)))))))
   exact hK17 (k + 1, ao35, gb36, cp37, (so ++ [(nth xs (nth ns k).toNat)])) _ _ (by show ns.length - (k + 1) < ns.length - k; omega) ⟨rfl, rfl, rfl, rfl, rfl, rfl, rfl, trivial⟩ ⟨((u19.nx u32).next u40 (fun i hi (h : (i = go ∧ bk10 ≤ i)) => show bk10 ≤ i by first | omega | assumption)), (by omega), A39, (by rw [hsoe, take_nth (by omega)]; simp [pickL])⟩
  have hse : so = pickL xs ns := by rw [hsoe, List.take_of_length_le (by omega)]
  have hsl : so.length ≤ 8 := by rw [hse]; simp [pickL]; have := hp.hmn; have := hp.hm8; have := hp.hxl; omega
  have hoso : ∀ x ∈ so, okLeg x = true := fun x hx9 => by
    rw [hse] at hx9
    obtain ⟨i, hi, rfl⟩ := List.mem_map.1 hx9
    have := hp.hns i hi; exact hp.hox _ (nth_mem (by omega))
  refine c_exit (hK15 _ _ (c_seq fun K42 hK42 => (c_drawnM follows (fun _ => False) (.look 0 (.look 1 (.look 2 (.look 3 (.look 4 (.look 5 (.act 6 (.act 7 (.look 8 (.look 9 (.look 10 (.look 11 .done)))) .stop) .stop))))))) (by kernel_rfl) fun w43 u44 => ?_)))
  have zu44 := u44.size
  refine y_move rfl rfl rfl ?_
  have B46 := (((B4.kx u13).keep u19 (show ¬ (bk10 ≤ bk2) by first | omega | assumption)).kx u44)
  refine y_loadN (vs := [.int .i64 r.rest, .int .i64 r.span, .int .i64 r.work, .int .i64 r.week, .int .i64 r.ww]) isAgg23 sizeOf23 rfl rfl rfl (B46.at.sub 0 5) rfl (fun h => h) (y_move rfl rfl rfl (y_move rfl rfl rfl (y_move rfl rfl rfl (y_len underlying54 rfl rfl rfl rfl (s_do (t_makeN (enc := encB) (k := 1) (z := .bool false) (bytes := 1) (n := hs.length) false underlying74 (by kernel_rfl) rfl (by decide) (fun _ => rfl) (by decide) rfl rfl rfl rfl rfl (by omega) (fun bm47 w48 ebm47 sbm47 A49 u50 => ?_)))))))
  have zu50 := u50.size
  have E51 := (E23.nx u44).nx u50
  refine t_same 44 (v := .slice (some ⟨bm47, 0, none⟩) ((List.replicate hs.length false).length) hs.length) rfl (by rw [List.length_replicate]) (s_next ((Upd.refl _ _).nx u50) (s_do ?_))
  have D52 := ((hso.kE u44).kE u50)
  have hmk : mbO (List.replicate hs.length false) ss = (ss.map boardP) := mbO_no (by rw [List.length_replicate, ← hp.hc.hss, List.length_map]) (fun o ho => (List.mem_replicate.1 ho).2)
  have hlr : (List.replicate hs.length false).length = hs.length := List.length_replicate ..
  refine t_call own31 rfl rfl rfl rfl (rPlan_two (rPlan_c r hs al bl ol cl ss so ao go 0 co (List.replicate hs.length false) (some ⟨bm47, 0, none⟩) bm47 0 hs.length _ (hp.hc.ext E51) (D52.sl (fun _ => rfl)) hsl hoso (A49.sl (fun _ => rfl)) hlr)) (fun v54 w55 r57 => ?_)
  rcases r57 with ⟨rfl, hnk53, u56⟩ | ⟨aok53, gk53, ck53, rwk53, rfl, hnk53, _, u56⟩
  ·
   have zu56 := u56.size
   have E58 := E51.nx u56
   have hsfk53 : sfP r (pickL xs ns) (ss.map boardP) = false := by rw [hmk, hse] at hnk53; unfold sfP; rw [hnk53]; rfl
   refine s_next ((Upd.refl _ _).nx u56) (y_fieldv underlying72 rfl isAgg4 rfl rfl rfl rfl (y_not rfl rfl rfl (y_assign rfl rfl rfl (y_assign rfl rfl rfl (s_nil (hK42 _ _ (c_ret (f_ret2 (v1 := .slice an ns.length cn) (v2 := .bool true) results73 rfl rfl ?_))))))))
   have hch : (fsN r xs (ss.map boardP) ((chP xs.length n i0).map (ns ++ ·))) = (if sfP r (pickL xs ns) (ss.map boardP) = false then some ns else none) := by
     rw [hn0, chP]
     unfold fsN
     simp only [List.map_cons, List.map_nil, List.append_nil, List.find?_cons, List.find?_nil]
     cases sfP r (pickL xs ns) (ss.map boardP) <;> rfl
   rw [hsfk53] at hch
   exact .inr ⟨_, bn, on, _, ns, rfl, by rw [hch]; rfl, hp.hn.keep E58 (fun _ z => z), E58⟩
  have zu56 := u56.size
  have hsfk53 : sfP r (pickL xs ns) (ss.map boardP) = true := by rw [hmk, hse] at hnk53; unfold sfP; rw [hnk53]; rfl
  refine s_next ((Upd.refl _ _).nx u56) (y_fieldv underlying72 rfl isAgg4 rfl rfl rfl rfl (y_not rfl rfl rfl (y_assign rfl rfl rfl (y_assign rfl rfl rfl (s_nil (hK42 _ _ (c_ret (f_ret2 (v1 := .slice an ns.length cn) (v2 := .bool false) results73 rfl rfl ?_))))))))
  have hch : (fsN r xs (ss.map boardP) ((chP xs.length n i0).map (ns ++ ·))) = (if sfP r (pickL xs ns) (ss.map boardP) = false then some ns else none) := by
    rw [hn0, chP]
    unfold fsN
    simp only [List.map_cons, List.map_nil, List.append_nil, List.find?_cons, List.find?_nil]
    cases sfP r (pickL xs ns) (ss.map boardP) <;> rfl
  rw [hsfk53] at hch
  exact .inl ⟨_, _, _, rfl, by rw [hch]; rfl, (E51.nx u56)⟩
 have hn9 : 0 < n := by have := hp.hmn; omega
 have hi9 := hp.hi
 have hmn9 := hp.hmn
 have hi89 := hp.hi8
 refine c_skip (hK7 _ _ (c_seq fun K60 hK60 => (c_region (t_assign rfl rfl rfl (t_nil' (hK60 _ _ (c_cut (γ := Nat) (fun zz => [(1, .slice al hs.length cl), (2, .slice ax xs.length cx), (3, .slice an ns.length cn), (4, .int .i64 (many : Int)), (5, .pointer (some ⟨bk2, 0, none⟩)), (14, .int .i64 (i0 : Int))]) (fun zz w => Upd (fun _ => False) w3 w) (fun K62 hK62 => ?_) ?_)))))))
 ·
  refine c_seq fun K65 hK65 => (c_region (t_move rfl rfl rfl (t_len underlying60 rfl rfl rfl rfl (t_cmp rfl rfl rfl rfl rfl (t_nil' (hK65 _ _ (c_condp rfl (fun g50 => ?_) (fun g50 => ?_))))))))
  ·
   refine c_region (t_move rfl rfl rfl (t_move rfl rfl rfl (t_len underlying60 rfl rfl rfl rfl (t_ari rfl rfl rfl rfl rfl (by omega) ?_))))
   have i66 : (ns.length - 1) < ns.length := (by omega)
   refine t_index (j := (ns.length - 1)) underlying60 sizeOf3 rfl rfl rfl rfl ((hp.hn.keep E6 (fun _ z => z)).addr (by omega)) (by omega) i66 (t_load isAgg3 rfl rfl rfl (((hp.hn.keep E6 (fun _ z => z)).at_ (ns.length - 1) (by omega)) 0 _ rfl) (t_ari rfl rfl rfl rfl rfl (by omega) (t_assign rfl rfl rfl (t_nil' ?_))))
   exact hK62 0 _ _ ⟨rfl, rfl, rfl, rfl, rfl, (congrArg (fun z => some (Value.int .i64 z)) (by omega)), trivial⟩ (Upd.refl _ _)
  refine c_skip ?_
  exact hK62 0 _ _ ⟨rfl, rfl, rfl, rfl, rfl, (congrArg (fun z => some (Value.int .i64 z)) (by omega)), trivial⟩ (Upd.refl _ _)
 intro zz w63 u64
 have zu64 := u64.size
 refine c_seq fun K68 hK68 => (c_seq fun K69 hK69 => (c_region (t_move rfl rfl rfl (t_assign rfl rfl rfl (t_nil' (hK69 _ _ (c_block (c_loop (γ := Nat) (fun k => [(1, .slice al hs.length cl), (2, .slice ax xs.length cx), (3, .slice an ns.length cn), (4, .int .i64 (many : Int)), (5, .pointer (some ⟨bk2, 0, none⟩)), (15, .int .i64 (k : Int))]) (fun k w => Upd (fun _ => False) w63 w ∧ (k ≤ xs.length) ∧ ((fsN r xs (ss.map boardP) ((chP xs.length n i0).map (ns ++ ·))) = (fsN r xs (ss.map boardP) ((chP xs.length n k).map (ns ++ ·))))) (fun k => xs.length - k) i0 ⟨rfl, rfl, rfl, rfl, rfl, rfl, trivial⟩ ⟨Upd.refl _ _, hp.hi8, rfl⟩ ?_))))))))
 intro k w71 hW K70 hK70
 obtain ⟨u72, I73, I74⟩ := hW
 have zu72 := u72.size
 have E75 := (E6.nx u64).nx u72
 have hk := I73; clear I73
 have hfs := I74; clear I74
 refine c_seq fun K76 hK76 => (c_seq fun K77 hK77 => (c_region (t_move rfl rfl rfl (t_move rfl rfl rfl (t_len underlying55 rfl rfl rfl rfl (t_cmp rfl rfl rfl rfl rfl (t_nil' (hK77 _ _ (c_condp rfl (fun g62 => ?_) (fun g62 => ?_))))))))))
 ·
  refine c_skip (hK76 _ _ (c_seq fun K78 hK78 => (c_block (c_seq fun K79 hK79 => (c_drawnM follows (fun _ => False) (.look 0 (.look 1 (.look 2 (.look 4 (.look 6 (.look 9 (.act 3 (.act 5 (.act 7 (.act 8 (.act 10 (.look 11 (.look 12 (.look 13 (.look 14 (.look 15 .done))))) .stop) .stop) .stop) (.act 7 (.act 5 (.act 8 (.act 10 (.look 11 (.look 12 (.look 13 (.look 14 (.look 15 .done))))) .stop) .stop) .stop) .stop)) (.act 7 (.act 3 (.act 5 (.act 8 (.act 10 (.look 11 (.look 12 (.look 13 (.look 14 (.look 15 .done))))) .stop) .stop) .stop) .stop) .stop)))))))) (by kernel_rfl) fun w80 u81 => ?_)))))
  have zu81 := u81.size
  have E82 := E75.nx u81
  have B83 := (((B4.kx u64).kx u72).kx u81)
  refine y_loadN (vs := [.int .i64 r.rest, .int .i64 r.span, .int .i64 r.work, .int .i64 r.week, .int .i64 r.ww]) isAgg23 sizeOf23 rfl rfl rfl (B83.at.sub 0 5) rfl (fun h => h) (y_move rfl rfl rfl (y_move rfl rfl rfl (y_move rfl rfl rfl (y_move rfl rfl rfl (y_move rfl rfl rfl (s_or ?_ ?_))))))
  ·
   refine s_do (t_bslice (ps := []) (cs := []) (e := 3) rfl rfl ⟨rfl, rfl⟩ (fun w => by kernel_rfl) (fun bk84 w85 ebk84 sbk84 B86 u87 => ?_))
   have zu87 := u87.size
   have E88 := E82.nx u87
   refine s_next ((Upd.refl _ _).nx u87) (s_or ?_ ?_)
   ·
    refine s_do (t_copy (enc := encI) (z := .int .i64 0) (bytes := 8) (k := 1) (ys := ns) underlying60 (by kernel_rfl) rfl (by decide) (fun _ => rfl) (by intro x; simp [encI, Value.oneCell']) rfl rfl rfl rfl B86 (hp.hn.keep E88 (fun _ z => z)) (by omega) (by decide) (fun ao89 gb90 cp91 w92 A93 u94 gegb90 => ?_))
    have zu94 := u94.size
    have lt_gb90 := A93.lt
    refine s_next ((Upd.refl _ _).next u94 (fun i hi (h : (i = bk84 ∧ bk84 ≤ i)) => show w80.heap.size ≤ i ∨ (False) by first | omega | exact .inr h)) (s_do (t_bslice (ps := [(0, .int .i64 (k : Int))]) (cs := [.int .i64 (k : Int)]) (e := 3) rfl rfl ⟨rfl, rfl⟩ (fun w => by kernel_rfl) (fun bk96 w97 ebk96 sbk96 B98 u99 => ?_)))
    have zu99 := u99.size
    refine s_next ((Upd.refl _ _).nx u99) (s_do ?_)
    have D101 := (A93.kE u99)
    refine t_append (z := .int .i64 0) (bytes := 8) (k := 1) (base := bk84) (k : Int) underlying60 (by kernel_rfl) rfl (by decide) (fun _ => rfl) (by intro x; simp [encI, Value.oneCell']) rfl rfl rfl rfl D101 B98 (by omega) (by omega) (by decide) (fun ao102 gb103 cp104 w105 A106 u107 gegb103 lngb103 => ?_)
    have zu107 := u107.size
    have E108 := ((E88.next u94 (fun i hi h => by omega)).nx u99).next u107 (fun i hi h => by omega)
    have lt_gb103 := A106.lt
    refine s_next ((Upd.refl _ _).next u107 (fun i hi (h : (i = gb90 ∧ bk84 ≤ i)) => show w80.heap.size ≤ i ∨ (False) by first | omega | exact .inr h)) (s_do ?_)
    have hTk109 : ShtP r hs al bl ol cl ss xs ax bx ox cx (ns ++ [(k : Int)]) ao102 gb103 0 cp104 (k + 1) many (n - 1) w105 := { hc := hp.hc.ext E108, hxs := hp.hxs.keep E108 (fun _ z => z), hxl := hp.hxl, hox := hp.hox, hn := (A106).sl (fun _ => rfl), hns := fun i hi => (List.mem_append.1 hi).elim (hp.hns i) (fun e => by rw [List.mem_singleton.1 e]; omega), hi := .inr ⟨by rw [List.length_append, List.length_singleton]; omega, by rw [List.length_append, List.length_singleton, Nat.add_sub_cancel, nth_snE' rfl]; omega⟩, hi8 := by omega, hmn := by rw [List.length_append, List.length_singleton]; omega, hm8 := hp.hm8, hpos := by omega }
    refine t_call own73 rfl rfl rfl rfl (ih (n - 1) (by omega) _ _ _ _ _ _ _ _ _ _ _ _ _ _ _ _ _ _ _ _ hTk109) (fun v110 w111 r113 => ?_)
    rcases r113 with ⟨aok109, kk109, ck109, rfl, hnkk109, u112⟩ | ⟨aok109, gk109, ok109, ck109, lk109, rfl, hnkk109, hSk109, u112⟩
    ·
     have zu112 := u112.size
     refine s_next ((Upd.refl _ _).nx u112) (y_move rfl rfl rfl (y_extract rfl rfl rfl rfl (y_extract rfl rfl rfl rfl (y_assign rfl rfl rfl (y_assign rfl rfl rfl (s_nil (hK79 _ _ (c_seq fun K115 hK115 => (c_region (t_move rfl rfl rfl (t_nil' (hK115 _ _ (c_cond_f rfl (c_skip (hK78 _ _ (c_region (t_move rfl rfl rfl (t_ari rfl rfl rfl rfl rfl (by omega) (t_assign rfl rfl rfl (t_nil' ?_))))))))))))))))))))
     exact hK70 (k + 1) _ _ (by omega) ⟨rfl, rfl, rfl, rfl, rfl, rfl, trivial⟩ ⟨((((((u72.nx u81).nx u87).next u94 (fun i hi h => by omega)).nx u99).next u107 (fun i hi h => by omega)).nx u112), (by omega), (by rw [hfs, fs_step hn9 (by omega), hnkk109])⟩
    have zu112 := u112.size
    refine s_next ((Upd.refl _ _).nx u112) (y_move rfl rfl rfl (y_extract rfl rfl rfl rfl (y_extract rfl rfl rfl rfl (y_assign rfl rfl rfl (y_assign rfl rfl rfl (s_nil (hK79 _ _ (c_seq fun K117 hK117 => (c_region (t_move rfl rfl rfl (t_nil' (hK117 _ _ (c_cond_t rfl (c_seq fun K118 hK118 => (c_region (t_move rfl rfl rfl (t_assign rfl rfl rfl (t_assign rfl rfl rfl (t_nil' (hK118 _ _ (c_ret (f_ret2 (v1 := .slice aok109 lk109.length ck109) (v2 := .bool true) results73 rfl rfl ?_))))))))))))))))))))))
    exact .inr ⟨_, _, _, _, lk109, rfl, by rw [hfs, fs_step hn9 (by omega), hnkk109], hSk109, (E108.nx u112)⟩
   refine s_do (t_bslice (ps := [(0, .int .i64 (k : Int))]) (cs := [.int .i64 (k : Int)]) (e := 3) rfl rfl ⟨rfl, rfl⟩ (fun w => by kernel_rfl) (fun bk119 w120 ebk119 sbk119 B121 u122 => ?_))
   have zu122 := u122.size
   have E123 := E88.nx u122
   refine s_next ((Upd.refl _ _).nx u122) (s_do ?_)
   have B124 := (B86.kx u122)
   refine t_copy (enc := encI) (z := .int .i64 0) (bytes := 8) (k := 1) (ys := ns) underlying60 (by kernel_rfl) rfl (by decide) (fun _ => rfl) (by intro x; simp [encI, Value.oneCell']) rfl rfl rfl rfl B124 (hp.hn.keep E123 (fun _ z => z)) (by omega) (by decide) (fun ao125 gb126 cp127 w128 A129 u130 gegb126 => ?_)
   have zu130 := u130.size
   have lt_gb126 := A129.lt
   refine s_next ((Upd.refl _ _).next u130 (fun i hi (h : (i = bk84 ∧ bk84 ≤ i)) => show w80.heap.size ≤ i ∨ (False) by first | omega | exact .inr h)) (s_do ?_)
   have B132 := (B121.keep u130 (by omega))
   refine t_append (z := .int .i64 0) (bytes := 8) (k := 1) (base := bk84) (k : Int) underlying60 (by kernel_rfl) rfl (by decide) (fun _ => rfl) (by intro x; simp [encI, Value.oneCell']) rfl rfl rfl rfl A129 B132 (by omega) (by omega) (by decide) (fun ao133 gb134 cp135 w136 A137 u138 gegb134 lngb134 => ?_)
   have zu138 := u138.size
   have E139 := (E123.next u130 (fun i hi h => by omega)).next u138 (fun i hi h => by omega)
   have lt_gb134 := A137.lt
   refine s_next ((Upd.refl _ _).next u138 (fun i hi (h : (i = gb126 ∧ bk84 ≤ i)) => show w80.heap.size ≤ i ∨ (False) by first | omega | exact .inr h)) (s_do ?_)
   have hTk140 : ShtP r hs al bl ol cl ss xs ax bx ox cx (ns ++ [(k : Int)]) ao133 gb134 0 cp135 (k + 1) many (n - 1) w136 := { hc := hp.hc.ext E139, hxs := hp.hxs.keep E139 (fun _ z => z), hxl := hp.hxl, hox := hp.hox, hn := (A137).sl (fun _ => rfl), hns := fun i hi => (List.mem_append.1 hi).elim (hp.hns i) (fun e => by rw [List.mem_singleton.1 e]; omega), hi := .inr ⟨by rw [List.length_append, List.length_singleton]; omega, by rw [List.length_append, List.length_singleton, Nat.add_sub_cancel, nth_snE' rfl]; omega⟩, hi8 := by omega, hmn := by rw [List.length_append, List.length_singleton]; omega, hm8 := hp.hm8, hpos := by omega }
   refine t_call own73 rfl rfl rfl rfl (ih (n - 1) (by omega) _ _ _ _ _ _ _ _ _ _ _ _ _ _ _ _ _ _ _ _ hTk140) (fun v141 w142 r144 => ?_)
   rcases r144 with ⟨aok140, kk140, ck140, rfl, hnkk140, u143⟩ | ⟨aok140, gk140, ok140, ck140, lk140, rfl, hnkk140, hSk140, u143⟩
   ·
    have zu143 := u143.size
    refine s_next ((Upd.refl _ _).nx u143) (y_move rfl rfl rfl (y_extract rfl rfl rfl rfl (y_extract rfl rfl rfl rfl (y_assign rfl rfl rfl (y_assign rfl rfl rfl (s_nil (hK79 _ _ (c_seq fun K146 hK146 => (c_region (t_move rfl rfl rfl (t_nil' (hK146 _ _ (c_cond_f rfl (c_skip (hK78 _ _ (c_region (t_move rfl rfl rfl (t_ari rfl rfl rfl rfl rfl (by omega) (t_assign rfl rfl rfl (t_nil' ?_))))))))))))))))))))
    exact hK70 (k + 1) _ _ (by omega) ⟨rfl, rfl, rfl, rfl, rfl, rfl, trivial⟩ ⟨((((((u72.nx u81).nx u87).nx u122).next u130 (fun i hi h => by omega)).next u138 (fun i hi h => by omega)).nx u143), (by omega), (by rw [hfs, fs_step hn9 (by omega), hnkk140])⟩
   have zu143 := u143.size
   refine s_next ((Upd.refl _ _).nx u143) (y_move rfl rfl rfl (y_extract rfl rfl rfl rfl (y_extract rfl rfl rfl rfl (y_assign rfl rfl rfl (y_assign rfl rfl rfl (s_nil (hK79 _ _ (c_seq fun K148 hK148 => (c_region (t_move rfl rfl rfl (t_nil' (hK148 _ _ (c_cond_t rfl (c_seq fun K149 hK149 => (c_region (t_move rfl rfl rfl (t_assign rfl rfl rfl (t_assign rfl rfl rfl (t_nil' (hK149 _ _ (c_ret (f_ret2 (v1 := .slice aok140 lk140.length ck140) (v2 := .bool true) results73 rfl rfl ?_))))))))))))))))))))))
   exact .inr ⟨_, _, _, _, lk140, rfl, by rw [hfs, fs_step hn9 (by omega), hnkk140], hSk140, (E139.nx u143)⟩
  refine s_do (t_bslice (ps := [(0, .int .i64 (k : Int))]) (cs := [.int .i64 (k : Int)]) (e := 3) rfl rfl ⟨rfl, rfl⟩ (fun w => by kernel_rfl) (fun bk150 w151 ebk150 sbk150 B152 u153 => ?_))
  have zu153 := u153.size
  refine s_next ((Upd.refl _ _).nx u153) (s_do (t_bslice (ps := []) (cs := []) (e := 3) rfl rfl ⟨rfl, rfl⟩ (fun w => by kernel_rfl) (fun bk155 w156 ebk155 sbk155 B157 u158 => ?_)))
  have zu158 := u158.size
  have E159 := (E82.nx u153).nx u158
  refine s_next ((Upd.refl _ _).nx u158) (s_do (t_copy (enc := encI) (z := .int .i64 0) (bytes := 8) (k := 1) (ys := ns) underlying60 (by kernel_rfl) rfl (by decide) (fun _ => rfl) (by intro x; simp [encI, Value.oneCell']) rfl rfl rfl rfl B157 (hp.hn.keep E159 (fun _ z => z)) (by omega) (by decide) (fun ao160 gb161 cp162 w163 A164 u165 gegb161 => ?_)))
  have zu165 := u165.size
  have lt_gb161 := A164.lt
  refine s_next ((Upd.refl _ _).next u165 (fun i hi (h : (i = bk155 ∧ bk155 ≤ i)) => show w80.heap.size ≤ i ∨ (False) by first | omega | exact .inr h)) (s_do ?_)
  have B167 := ((B152.kx u158).keep u165 (by omega))
  refine t_append (z := .int .i64 0) (bytes := 8) (k := 1) (base := bk155) (k : Int) underlying60 (by kernel_rfl) rfl (by decide) (fun _ => rfl) (by intro x; simp [encI, Value.oneCell']) rfl rfl rfl rfl A164 B167 (by omega) (by omega) (by decide) (fun ao168 gb169 cp170 w171 A172 u173 gegb169 lngb169 => ?_)
  have zu173 := u173.size
  have E174 := (E159.next u165 (fun i hi h => by omega)).next u173 (fun i hi h => by omega)
  have lt_gb169 := A172.lt
  refine s_next ((Upd.refl _ _).next u173 (fun i hi (h : (i = gb161 ∧ bk155 ≤ i)) => show w80.heap.size ≤ i ∨ (False) by first | omega | exact .inr h)) (s_do ?_)
  have hTk175 : ShtP r hs al bl ol cl ss xs ax bx ox cx (ns ++ [(k : Int)]) ao168 gb169 0 cp170 (k + 1) many (n - 1) w171 := { hc := hp.hc.ext E174, hxs := hp.hxs.keep E174 (fun _ z => z), hxl := hp.hxl, hox := hp.hox, hn := (A172).sl (fun _ => rfl), hns := fun i hi => (List.mem_append.1 hi).elim (hp.hns i) (fun e => by rw [List.mem_singleton.1 e]; omega), hi := .inr ⟨by rw [List.length_append, List.length_singleton]; omega, by rw [List.length_append, List.length_singleton, Nat.add_sub_cancel, nth_snE' rfl]; omega⟩, hi8 := by omega, hmn := by rw [List.length_append, List.length_singleton]; omega, hm8 := hp.hm8, hpos := by omega }
  refine t_call own73 rfl rfl rfl rfl (ih (n - 1) (by omega) _ _ _ _ _ _ _ _ _ _ _ _ _ _ _ _ _ _ _ _ hTk175) (fun v176 w177 r179 => ?_)
  rcases r179 with ⟨aok175, kk175, ck175, rfl, hnkk175, u178⟩ | ⟨aok175, gk175, ok175, ck175, lk175, rfl, hnkk175, hSk175, u178⟩
  ·
   have zu178 := u178.size
   refine s_next ((Upd.refl _ _).nx u178) (y_move rfl rfl rfl (y_extract rfl rfl rfl rfl (y_extract rfl rfl rfl rfl (y_assign rfl rfl rfl (y_assign rfl rfl rfl (s_nil (hK79 _ _ (c_seq fun K181 hK181 => (c_region (t_move rfl rfl rfl (t_nil' (hK181 _ _ (c_cond_f rfl (c_skip (hK78 _ _ (c_region (t_move rfl rfl rfl (t_ari rfl rfl rfl rfl rfl (by omega) (t_assign rfl rfl rfl (t_nil' ?_))))))))))))))))))))
   exact hK70 (k + 1) _ _ (by omega) ⟨rfl, rfl, rfl, rfl, rfl, rfl, trivial⟩ ⟨((((((u72.nx u81).nx u153).nx u158).next u165 (fun i hi h => by omega)).next u173 (fun i hi h => by omega)).nx u178), (by omega), (by rw [hfs, fs_step hn9 (by omega), hnkk175])⟩
  have zu178 := u178.size
  refine s_next ((Upd.refl _ _).nx u178) (y_move rfl rfl rfl (y_extract rfl rfl rfl rfl (y_extract rfl rfl rfl rfl (y_assign rfl rfl rfl (y_assign rfl rfl rfl (s_nil (hK79 _ _ (c_seq fun K183 hK183 => (c_region (t_move rfl rfl rfl (t_nil' (hK183 _ _ (c_cond_t rfl (c_seq fun K184 hK184 => (c_region (t_move rfl rfl rfl (t_assign rfl rfl rfl (t_assign rfl rfl rfl (t_nil' (hK184 _ _ (c_ret (f_ret2 (v1 := .slice aok175 lk175.length ck175) (v2 := .bool true) results73 rfl rfl ?_))))))))))))))))))))))
  exact .inr ⟨_, _, _, _, lk175, rfl, by rw [hfs, fs_step hn9 (by omega), hnkk175], hSk175, (E174.nx u178)⟩
 refine c_exit (hK68 _ _ (c_seq fun K185 hK185 => (c_region (t_assign rfl rfl rfl (t_assign rfl rfl rfl (t_nil' (hK185 _ _ (c_ret (f_ret2 (v1 := .slice none 0 0) (v2 := .bool false) results73 rfl rfl ?_)))))))))
 exact .inl ⟨_, _, _, rfl, by rw [hfs, ch_end hn9 (by omega)]; rfl, E75⟩


theorem rshort_c (n : Nat) : ShtQ n := by
  induction n using Nat.strongRecOn with
  | _ n ih => exact fun r hs al bl ol cl ss xs ax bx ox cx ns an bn on cn i0 many w hp => rshort_s r hs al bl ol cl ss xs ax bx ox cx ns an bn on cn i0 many n w hp ih

end Go.Proofs.YtagmodjadmecdaaGreat
