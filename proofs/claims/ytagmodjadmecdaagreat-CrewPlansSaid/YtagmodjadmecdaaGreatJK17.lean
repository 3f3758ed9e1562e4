/-
  Part 17 of the proof: contracts and plain laws. Conditions: none.
-/
import Derived.Test.YtagmodjadmecdaaGreatJK16
namespace Go.Proofs.YtagmodjadmecdaaGreat
open Go Go.RowKit
theorem made_flat {α : Type} [Inhabited α] {enc : α → List Value} {k : Nat} (hk0 : 0 < k) (hk : ∀ x, (enc x).length = k) (x0 : α) (n : Nat) : madeCells (enc x0).toArray (n * k) = ((List.replicate n x0).flatMap enc).toArray := by
  apply Array.ext
  · have := flatMap_len hk (List.replicate n x0)
    simp only [List.size_toArray, this, List.length_replicate]; simp [madeCells]
  · intro i h1 h2
    have hi : i < n * k := by simpa [madeCells] using h1
    have hq : i / k < n := (Nat.div_lt_iff_lt_mul hk0).2 hi
    have hm : i % k < k := Nat.mod_lt _ hk0
    have hlt : i % k < (enc x0).length := by rw [hk]; exact hm
    have h3 := flatMap_at hk (List.replicate n x0) (i / k) (i % k) ((enc x0)[i % k]) (by simpa using hq) (by
      rw [show nth (List.replicate n x0) (i / k) = x0 by simp [nth, List.getD_eq_getElem?_getD, hq]]
      exact List.getElem?_eq_getElem hlt)
    rw [show i / k * k + i % k = i from Nat.div_add_mod' i k] at h3
    have h4 : (madeCells (enc x0).toArray (n * k))[i] = (enc x0)[i % k] := by
      simp only [madeCells, Array.getElem_map, Array.getElem_range, List.size_toArray, hk]
      rw [getElem!_pos _ _ (by rw [List.size_toArray]; exact hlt)]
      simp
    rw [h4]
    have h5 : ((List.replicate n x0).flatMap enc)[i]'(by simpa using h2) = (enc x0)[i % k] := by
      rw [List.getElem_eq_iff]; exact h3
    simpa using h5.symm
section
variable {rd : Option Nat} {P : Program} {ops : Array Oper} {Q : Exit → Act → World → Prop} {N : Nat} {ds : List Deferred} {rest : List Oper} {L : Slots} {w : World}
variable {d : Nat} {ty : TypeId} {pos : String} {aft : Array Edge} {g : Option (Nat × Bool)}
theorem t_makeN {α : Type} [Inhabited α] {enc : α → List Value} {k : Nat} {t e : TypeId} {x y : Operand} {n bytes : Nat} {m : Int} {z : Value} (x0 : α) (hu : P.underlying t = some (.slice e)) (hi : (P.info? e).map (fun i => (i.zero, i.size, i.bytes)) = some (some z, k, bytes)) (hz : z.cells = (enc x0).toArray) (hk0 : 0 < k) (hk : ∀ x, (enc x).length = k) (hb : bytes ≤ 1000)
    (hg : grd ops L g = true) (hN : Nat.blt d N = true) (hx : ev L x = some (.int .i64 m)) (hy : ev L y = some (.int .i64 m)) (em : m = (n : Int)) (hn : n ≤ 1000000)
    (h : ∀ b w', b = w.heap.size → w'.heap.size = w.heap.size + 1 → Acc enc k e b w' (some ⟨b, 0, none⟩) b n (List.replicate n x0) → Ext w w' → WL rd P ops Q N ds rest ((d, .slice (some ⟨b, 0, none⟩) n n) :: L) w') :
    WL rd P ops Q N ds (⟨some d, .makeSlice t x y, ty, pos, aft, g⟩ :: rest) L w := by
  subst em
  obtain ⟨i, hi0, hi1, hi2, hi3⟩ := info_parts' hi
  have hbn : (bytes : Int) * (n : Int) ≤ 1000 * 1000000 := by
    have := Nat.mul_le_mul hb hn
    have h2 : ((bytes * n : Nat) : Int) ≤ ((1000 * 1000000 : Nat) : Int) := by omega
    rw [Int.natCast_mul] at h2
    omega
  have hr := run_make (P := P) w t e i z hu hi0 hi1 .i64 .i64 (n : Int) (n : Int) (by omega) (Int.le_refl _) (by rw [hi3]; omega) (by omega)
  rw [hi2, Int.toNat_natCast, hz, made_flat hk0 hk x0 n] at hr
  have hB := Blk.new w e ((List.replicate n x0).flatMap enc)
  have hA := Acc.ofBlk enc k hk hB (Nat.le_refl _) (by simpa using hn)
  rw [List.length_replicate] at hA
  exact WL.value (w' := w.alloc (.cells ((List.replicate n x0).flatMap enc).toArray e)) hg rfl hN (fun a hk => by simp [execOp, hk.ev hx, hk.ev hy, hr]) (h _ _ rfl (by simp) hA (Upd.alloc _ _))
end
end Go.Proofs.YtagmodjadmecdaaGreat
namespace Go.Proofs.YtagmodjadmecdaaGreat
open Go Go.RowKit Tryz

structure CrwP (r : Rul) (hs : List HS) (al : Option Addr) (bl ol cl : Nat) (ss : List Slr) (w : World) : Prop where
  hr : okRul r = true
  hl : Sl encHS 4 w al bl ol hs
  hm : ∀ h ∈ hs, SlrM w h
  hss : hs.map HS.slr = ss
  h6 : hs.length ≤ 6
  hds : ∀ s ∈ ss, s.ds.length ≤ 20
  hod : ∀ s ∈ ss, ∀ d ∈ s.ds, okDty d = true
theorem SlrM.keepE {w w' : World} {h : HS} (m : SlrM w h) (u : Ext w w') : SlrM w' h := ⟨m.hp.keep u (fun _ z => z), m.hpl, m.hd.keep u (fun _ z => z), m.hdl⟩
theorem CrwP.ext {r hs al bl ol cl ss} {w w' : World} (h : CrwP r hs al bl ol cl ss w) (u : Ext w w') : CrwP r hs al bl ol cl ss w' := ⟨h.hr, h.hl.keep u (fun _ z => z), fun x hx => (h.hm x hx).keepE u, h.hss, h.h6, h.hds, h.hod⟩
theorem TryP.start {r hs al bl ol cl ss xs ax bx ox cx os ab bb ob cb fb} {w0 w : World} (hc : CrwP r hs al bl ol cl ss w0) (hxs : Sl encLeg 7 w0 ax bx ox xs) (hxl : xs.length ≤ 8) (hox : ∀ x ∈ xs, okLeg x = true) (ho : Sl encB 1 w0 ab bb ob os) (hol : os.length = hs.length) (u : Ext w0 w) (hB : Blk w fb 72 [.bool false, .slice none 0 0, .int .i64 ((0 : Nat) : Int)]) (hfb : w0.heap.size ≤ fb) :
    TryP r fb hs al bl ol cl ss xs ax bx ox cx os ab bb ob cb [] none 0 0 [] none 0 0 0 0 0 0 36 w :=
  { hr := hc.hr, f := hB, hl := hc.hl.keep u (fun _ z => z), hb := fun h => by have := hc.hl.lt h; omega, hm := fun h hh => ⟨(hc.hm h hh).keepE u, fun q => by have := (hc.hm h hh).hp.lt q; omega, fun q => by have := (hc.hm h hh).hd.lt q; omega⟩, hss := hc.hss, h6 := hc.h6, hds := fun s h => by have := hc.hds s h; omega, hod := hc.hod, hxs := hxs.keep u (fun _ z => z), hxb := fun h => by have := hxs.lt h; omega, hxl := hxl, hox := hox, ho := ho.keep u (fun _ z => z), hob := fun h => by have := ho.lt h; omega, hol := hol, hrw := Sl.nil _ _ _ _ _ _, hrb := fun h => absurd h (Nat.lt_irrefl _), hrm := fun h hh => (by cases hh), hk := Nat.zero_le _, hn := Sl.nil _ _ _ _ _ _, hnb := fun h => absurd h (Nat.lt_irrefl _), hnl := fun h => by have := (okLeg_ok (hox _ (nth_mem h))).2.1; show ((0 : Nat) : Int) ≤ _; omega, hn3 := Nat.zero_le _, hi := .inl ⟨rfl, rfl⟩, hi6 := Nat.zero_le _, hpl := ⟨Int.le_refl _, Int.le_refl _⟩, hmu := by show 4 * (xs.length - 0) ≤ 36 + 0; omega }
structure ShtP (r : Rul) (hs : List HS) (al : Option Addr) (bl ol cl : Nat) (ss : List Slr) (xs : List Leg) (ax : Option Addr) (bx ox cx : Nat) (ns : List Int) (an : Option Addr) (bn on cn : Nat) (i0 many n : Nat) (w : World) : Prop where
  hc : CrwP r hs al bl ol cl ss w
  hxs : Sl encLeg 7 w ax bx ox xs
  hxl : xs.length ≤ 8
  hox : ∀ x ∈ xs, okLeg x = true
  hn : Sl encI 1 w an bn on ns
  hns : ∀ i ∈ ns, 0 ≤ i ∧ i < (xs.length : Int)
  hi : (ns.length = 0 ∧ i0 = 0) ∨ (0 < ns.length ∧ nth ns (ns.length - 1) + 1 = (i0 : Int))
  hi8 : i0 ≤ xs.length
  hmn : ns.length + n = many
  hm8 : many ≤ xs.length
  hpos : 0 < w.heap.size
theorem own31 : Own Tryz.prog 31 := ⟨Tryz.f31, func31, by kernel_rfl, by kernel_rfl⟩
theorem rPlan_d (r : Rul) (hs : List HS) (al : Option Addr) (bl ol cl : Nat) (ss : List Slr) (xs : List Leg) (ax : Option Addr) (bx ox cx : Nat) (os : List Bool) (ab : Option Addr) (bb ob cb : Nat) (w0 : World) (hc : CrwP r hs al bl ol cl ss w0) (hxs : Sl encLeg 7 w0 ax bx ox xs) (hxl : xs.length ≤ 8) (hox : ∀ x ∈ xs, okLeg x = true) (ho : Sl encB 1 w0 ab bb ob os) (hol : os.length = hs.length) :
    CallsV Tryz.prog 31 [.agg #[.int .i64 r.rest, .int .i64 r.span, .int .i64 r.work, .int .i64 r.week, .int .i64 r.ww], .slice al hs.length cl, .slice ax xs.length cx, .slice ab os.length cb] w0 (fun v w' => ((v = .agg #[.bool false, .slice none 0 0, .int .i64 ((asgP r xs (mbO os ss) 0 0).2 : Int)] ∧ (asgP r xs (mbO os ss) 0 0).1 = none) ∨ (∃ ao g c rows, v = .agg #[.bool true, .slice ao (List.length rows) c, .int .i64 ((asgP r xs (mbO os ss) 0 0).2 : Int)] ∧ (asgP r xs (mbO os ss) 0 0).1 = some (rows.map HL.xs) ∧ Sl encHL 1 w' ao g 0 rows ∧ (∀ h ∈ rows, Sl encI 1 w' h.ao h.b h.o h.xs ∧ h.xs.length ≤ 1000000) ∧ (0 < rows.length → w0.heap.size ≤ g) ∧ ∀ h ∈ rows, 0 < h.xs.length → w0.heap.size ≤ h.b)) ∧ Ext w0 w') := by
 refine f_enter (N := 17) func31 rfl rfl rfl (c_seq fun K1 hK1 => (c_region (t_box (cs := [.int .i64 r.rest, .int .i64 r.span, .int .i64 r.work, .int .i64 r.week, .int .i64 r.ww]) rfl rfl rfl rfl (fun bk2 w3 ebk2 sbk2 B4 u5 => ?_))))
 have zu5 := u5.size
 refine t_alloc (cs := [.bool false, .slice none 0 0, .int .i64 0]) zeroValue72 rfl rfl rfl (fun bk7 w8 ebk7 sbk7 B9 u10 => ?_)
 have zu10 := u10.size
 refine t_nil' (hK1 _ _ (c_seq fun K12 hK12 => (c_region (t_build (ps := []) (v := .agg #[.bool false, .slice none 0 0, .int .i64 0]) rfl rfl ⟨rfl, rfl⟩ (fun w => by kernel_rfl) (t_alloc (cs := [.bool false, .slice none 0 0, .int .i64 0]) zeroValue72 rfl rfl rfl (fun bk13 w14 ebk13 sbk13 B15 u16 => ?_))))))
 have zu16 := u16.size
 refine t_st (vs := [.bool false, .slice none 0 0, .int .i64 0]) sizeOf72 rfl rfl rfl B15 rfl rfl rfl rfl (fun w18 sw18 B20 u19 => ?_)
 have zu19 := u19.size
 have E21 := ((((Upd.refl (fun _ => False) w0).nx u5).nx u10).nx u16).next u19 (fun i hi h => by omega)
 have B20 : Blk w18 bk13 72 [.bool false, .slice none 0 0, .int .i64 0] := B20
 refine t_nil' (hK12 _ _ (c_seq fun K22 hK22 => (c_region ?_)))
 have B23 := (((B4.kx u10).kx u16).keep u19 (by omega))
 refine t_loadN (vs := [.int .i64 r.rest, .int .i64 r.span, .int .i64 r.work, .int .i64 r.week, .int .i64 r.ww]) isAgg23 sizeOf23 rfl rfl rfl (B23.at.sub 0 5) rfl (t_move rfl rfl rfl (t_move rfl rfl rfl (t_move rfl rfl rfl ?_)))
 have B24 : Blk w18 bk13 72 [.bool false, .slice none 0 0, .int .i64 ((0 : Nat) : Int)] := by
   have e : ([.bool false, .slice none 0 0, .int .i64 0] : List Value) = [.bool false, .slice none 0 0, .int .i64 ((0 : Nat) : Int)] := rfl
   rw [← e]; exact B20
 have hT : TryP r bk13 hs al bl ol cl ss xs ax bx ox cx os ab bb ob cb [] none 0 0 [] none 0 0 0 0 0 0 36 w18 := TryP.start hc hxs hxl hox ho hol E21 B24 (by omega)
 refine t_call own62 rfl rfl rfl rfl (TryQ.two (rTry_c 36) hT [] (asgP r xs (mbO os ss) 0 0) rfl (tm_start (Nat.zero_le _))) (fun v26 w27 r29 => ?_)
 rcases r29 with ⟨rfl, hnk25, hBk25, u28⟩ | ⟨qk25, aok25, gk25, ck25, rwk25, rfl, hnk25, hBk25, ⟨hSk25, hgk25, hlk25, hxk25⟩, u28⟩
 ·
  have zu28 := u28.size
  refine t_nil' (hK22 _ _ (c_seq fun K31 hK31 => (c_region (t_loadN (vs := [.bool false, .slice none 0 0, .int .i64 ((asgP r xs (mbO os ss) 0 0).2 : Int)]) isAgg72 sizeOf72 rfl rfl rfl (hBk25.at.sub 0 3) rfl ?_))))
  have B32 := (((B9.kx u16).keep u19 (by omega)).keep u28 (by omega))
  refine t_st (vs := [.bool false, .slice none 0 0, .int .i64 ((asgP r xs (mbO os ss) 0 0).2 : Int)]) sizeOf72 rfl rfl rfl B32 rfl rfl rfl rfl (fun w33 sw33 B35 u34 => ?_)
  have zu34 := u34.size
  have B35 : Blk w33 bk7 72 [.bool false, .slice none 0 0, .int .i64 ((asgP r xs (mbO os ss) 0 0).2 : Int)] := B35
  refine t_nil' (hK31 _ _ (c_ret (f_ret1 (v := .agg #[.bool false, .slice none 0 0, .int .i64 ((asgP r xs (mbO os ss) 0 0).2 : Int)]) results31 ⟨_, _, rfl, run_loadVarN (vs := [.bool false, .slice none 0 0, .int .i64 ((asgP r xs (mbO os ss) 0 0).2 : Int)]) isAgg72 sizeOf72 rfl (B35.at.sub 0 3)⟩ ?_)))
  exact ⟨.inl ⟨rfl, hnk25⟩, ((E21.next u28 (fun i hi h => by omega)).next u34 (fun i hi h => by omega))⟩
 have zu28 := u28.size
 refine t_nil' (hK22 _ _ (c_seq fun K38 hK38 => (c_region (t_loadN (vs := [.bool true, .slice aok25 rwk25.length ck25, .int .i64 ((asgP r xs (mbO os ss) 0 0).2 : Int)]) isAgg72 sizeOf72 rfl rfl rfl (hBk25.at.sub 0 3) rfl ?_))))
 have B39 := (((B9.kx u16).keep u19 (by omega)).keep u28 (by omega))
 refine t_st (vs := [.bool true, .slice aok25 rwk25.length ck25, .int .i64 ((asgP r xs (mbO os ss) 0 0).2 : Int)]) sizeOf72 rfl rfl rfl B39 rfl rfl rfl rfl (fun w40 sw40 B42 u41 => ?_)
 have zu41 := u41.size
 have B42 : Blk w40 bk7 72 [.bool true, .slice aok25 rwk25.length ck25, .int .i64 ((asgP r xs (mbO os ss) 0 0).2 : Int)] := B42
 refine t_nil' (hK38 _ _ (c_ret (f_ret1 (v := .agg #[.bool true, .slice aok25 rwk25.length ck25, .int .i64 ((asgP r xs (mbO os ss) 0 0).2 : Int)]) results31 ⟨_, _, rfl, run_loadVarN (vs := [.bool true, .slice aok25 rwk25.length ck25, .int .i64 ((asgP r xs (mbO os ss) 0 0).2 : Int)]) isAgg72 sizeOf72 rfl (B42.at.sub 0 3)⟩ ?_)))
 have hSz := (hSk25.keep u41 (fun h9 => by have h8 := hgk25 h9; show ¬ (gk25 = bk7); omega))
 have hlz : ∀ h ∈ rwk25, Sl encI 1 w40 h.ao h.b h.o h.xs := fun h hh => ((hlk25 h hh).1.1.keep u41 (fun h9 => by have h8 := (hlk25 h hh).2 h9; show ¬ (h.b = bk7); omega))
 exact ⟨.inr ⟨aok25, gk25, ck25, rwk25, rfl, by rw [hnk25, hxk25]; rfl, hSz, fun h hh => ⟨hlz h hh, (hlk25 h hh).1.2⟩, fun h9 => by have := hgk25 h9; omega, fun h hh h9 => by have := (hlk25 h hh).2 h9; omega⟩, ((E21.next u28 (fun i hi h => by omega)).next u41 (fun i hi h => by omega))⟩

theorem equal_c (xs : List Int) (ax : Option Addr) (bx ox cx : Nat) (ys : List Int) (ay : Option Addr) (by9 oy cy : Nat) (w0 : World) (hx : Sl encI 1 w0 ax bx ox xs) (hy : Sl encI 1 w0 ay by9 oy ys) (hxl : xs.length ≤ 1000000) :
    CallsV Tryz.prog 40 [.slice ax xs.length cx, .slice ay ys.length cy] w0 (fun v w' => v = .bool (decide (xs = ys)) ∧ Ext w0 w') := by
 have E0 := Upd.refl (fun _ => False) w0
 refine f_enter (N := 26) func40 rfl rfl rfl (c_seq fun K1 hK1 => (c_region (t_assign rfl rfl rfl (t_nil' (hK1 _ _ (c_seq fun K2 hK2 => (c_seq fun K3 hK3 => (c_region (t_move rfl rfl rfl (t_len underlying60 rfl rfl rfl rfl (t_move rfl rfl rfl (t_len underlying60 rfl rfl rfl rfl (t_cmp rfl rfl rfl rfl rfl (t_nil' (hK3 _ _ (c_condp rfl (fun g10 => ?_) (fun g10 => ?_)))))))))))))))))
 ·
  refine c_seq fun K4 hK4 => (c_region (t_assign rfl rfl rfl (t_nil' (hK4 _ _ (c_ret (f_ret1 (v := .bool false) results40 rfl ?_))))))
  exact ⟨congrArg Value.bool (decide_eq_false (fun e => by rw [e] at g10; exact g10 rfl)).symm, E0⟩
 refine c_skip (hK2 _ _ (c_seq fun K5 hK5 => (c_seq fun K6 hK6 => (c_region (t_assign rfl rfl rfl (t_nil' (hK6 _ _ (c_block (c_loop (γ := Nat) (fun k => [(0, .slice ax xs.length cx), (1, .slice ay ys.length cy), (5, .int .i64 (k : Int))]) (fun k w => Upd (fun _ => False) w0 w ∧ (k ≤ xs.length) ∧ (∀ j, j < k → nth xs j = nth ys j)) (fun k => xs.length - k) 0 ⟨rfl, rfl, rfl, trivial⟩ ⟨Upd.refl _ _, (Nat.zero_le _), (fun j hj => absurd hj (Nat.not_lt_zero _))⟩ ?_)))))))))
 intro k w8 hW K7 hK7
 obtain ⟨u9, I10, I11⟩ := hW
 have zu9 := u9.size
 have E12 := E0.nx u9
 have hk := I10; clear I10
 have he := I11; clear I11
 refine c_seq fun K13 hK13 => (c_seq fun K14 hK14 => (c_region (t_move rfl rfl rfl (t_move rfl rfl rfl (t_len underlying60 rfl rfl rfl rfl (t_cmp rfl rfl rfl rfl rfl (t_nil' (hK14 _ _ (c_condp rfl (fun g14 => ?_) (fun g14 => ?_))))))))))
 ·
  refine c_skip (hK13 _ _ (c_seq fun K15 hK15 => (c_block (c_seq fun K16 hK16 => (c_drawnM follows (fun _ => False) (.look 0 (.look 1 (.look 2 (.look 3 (.look 4 (.look 5 (.look 6 (.look 7 (.look 8 .done))))))))) (by kernel_rfl) fun w17 u18 => ?_)))))
  have zu18 := u18.size
  have E19 := E12.nx u18
  refine y_move rfl rfl rfl (y_move rfl rfl rfl ?_)
  have i20 : k < xs.length := (by omega)
  refine y_index (j := k) underlying60 sizeOf3 rfl rfl rfl rfl ((hx.keep E19 (fun _ h => h)).addr (by omega)) rfl i20 (y_load isAgg3 rfl rfl rfl (((hx.keep E19 (fun _ h => h)).at_ k (by omega)) 0 _ rfl) (fun h => h) (y_move rfl rfl rfl (y_move rfl rfl rfl ?_)))
  have i21 : k < ys.length := (by omega)
  refine y_index (j := k) underlying60 sizeOf3 rfl rfl rfl rfl ((hy.keep E19 (fun _ h => h)).addr (by omega)) rfl i21 (y_load isAgg3 rfl rfl rfl (((hy.keep E19 (fun _ h => h)).at_ k (by omega)) 0 _ rfl) (fun h => h) (y_cmp rfl rfl rfl rfl rfl (s_nil (hK16 _ _ (c_condp rfl (fun g25 => ?_) (fun g25 => ?_))))))
  ·
   refine c_seq fun K22 hK22 => (c_region (t_assign rfl rfl rfl (t_nil' (hK22 _ _ (c_ret (f_ret1 (v := .bool false) results40 rfl ?_))))))
   exact ⟨congrArg Value.bool (decide_eq_false (fun e => by rw [e] at g25; exact g25 rfl)).symm, E19⟩
  refine c_skip (hK15 _ _ (c_region (t_move rfl rfl rfl (t_ari rfl rfl rfl rfl rfl (by omega) (t_assign rfl rfl rfl (t_nil' ?_))))))
  exact hK7 (k + 1) _ _ (by omega) ⟨rfl, rfl, rfl, trivial⟩ ⟨(u9.nx u18), (by omega), (fun j hj => by
    rcases Nat.lt_or_ge j k with q | q
    · exact he j q
    · rw [show j = k by omega]; omega)⟩
 refine c_exit (hK5 _ _ (c_seq fun K23 hK23 => (c_region (t_assign rfl rfl rfl (t_nil' (hK23 _ _ (c_ret (f_ret1 (v := .bool true) results40 rfl ?_))))))))
 exact ⟨congrArg Value.bool (decide_eq_true (ext_nth (by omega) (fun j hj => he j (by omega)))).symm, E12⟩

end Go.Proofs.YtagmodjadmecdaaGreat
namespace Go.Proofs.YtagmodjadmecdaaGreat
open Go Go.RowKit Tryz

def runP (r : Rul) : List Leg → List (List Int) → List Mb → Option (List Mb)
  | x :: xs, l :: ls, ms => match giveP r x l ms with
    | some ms' => runP r xs ls ms'
    | none => none
  | _, _, ms => some ms
theorem ver_run {r : Rul} : ∀ {xs : List Leg} {ls : List (List Int)} {ms : List Mb} {k j : Nat}, ls.length = xs.length → j < xs.length → runP r (xs.take j) (ls.take j) ms ≠ none → runP r (xs.take (j + 1)) (ls.take (j + 1)) ms = none → verGo r xs ls ms k = ((k + j : Nat) : Int)
  | [], _, _, _, _, _, h, _, _ => absurd h (Nat.not_lt_zero _)
  | _ :: _, [], _, _, _, h, _, _, _ => by simp at h
  | x :: xs, l :: ls, ms, k, 0, hl, hj, h1, h2 => by
    rw [List.take_succ_cons, List.take_succ_cons, List.take_zero, List.take_zero, runP] at h2
    rw [verGo]
    cases e : giveP r x l ms with
    | none => rfl
    | some m => rw [e] at h2; cases h2
  | x :: xs, l :: ls, ms, k, j + 1, hl, hj, h1, h2 => by
    rw [List.take_succ_cons, List.take_succ_cons, runP] at h1 h2
    rw [verGo]
    cases e : giveP r x l ms with
    | none => rw [e] at h1; exact absurd rfl h1
    | some m =>
      rw [e] at h1 h2
      show verGo r xs ls m (k + 1) = _
      rw [ver_run (j := j) (by simpa using hl) (by simpa using hj) h1 h2, show k + 1 + j = k + (j + 1) by omega]
theorem ver_all {r : Rul} : ∀ {xs : List Leg} {ls : List (List Int)} {ms : List Mb} {k : Nat}, runP r xs ls ms ≠ none → verGo r xs ls ms k = -1
  | [], _, _, _, _ => by rw [verGo]; simp
  | _ :: _, [], _, _, _ => by rw [verGo]; simp
  | x :: xs, l :: ls, ms, k, h => by
    rw [runP] at h
    rw [verGo]
    cases e : giveP r x l ms with
    | none => rw [e] at h; exact absurd rfl h
    | some m => rw [e] at h; exact ver_all h
structure NowP (n B : Nat) (hs : List HS) (al : Option Addr) (bl : Nat) (ms : List Mb) (w : World) : Prop where
  hl : Sl encHS 4 w al bl 0 hs
  hm : ∀ h ∈ hs, SlrM w h
  hb : (hs.map HS.slr).map boardP = ms
  hn : hs.length = n
  hd : ∀ h ∈ hs, h.ds.length ≤ B
  hok : ∀ h ∈ hs, ∀ d ∈ h.ds, okDty d = true
theorem NowP.ext {n B hs al bl ms} {w w' : World} (h : NowP n B hs al bl ms w) (u : Ext w w') : NowP n B hs al bl ms w' := ⟨h.hl.keep u (fun _ z => z), fun x hx => (h.hm x hx).keepE u, h.hb, h.hn, h.hd, h.hok⟩
theorem NowP.up {n B B' hs al bl ms} {w : World} (h : NowP n B hs al bl ms w) (hb : B ≤ B') : NowP n B' hs al bl ms w := ⟨h.hl, h.hm, h.hb, h.hn, fun x hx => Nat.le_trans (h.hd x hx) hb, h.hok⟩
theorem NowP.start {r hs al bl ol cl ss a b} {w0 w : World} (hc : CrwP r hs al bl ol cl ss w0) (u : Ext w0 w) (hl : Sl encHS 4 w a b 0 hs) : NowP hs.length 20 hs a b (ss.map boardP) w :=
  ⟨hl, fun x hx => (hc.hm x hx).keepE u, by rw [hc.hss], rfl, fun x hx => hc.hds x.slr (by rw [← hc.hss]; exact List.mem_map.2 ⟨x, hx, rfl⟩), fun x hx => hc.hod x.slr (by rw [← hc.hss]; exact List.mem_map.2 ⟨x, hx, rfl⟩)⟩
theorem NowP.at_ {n B hs al bl ms i} {w : World} (h : NowP n B hs al bl ms w) (hi : i < n) : nth ms i = boardP (nth hs i).slr := by rw [← h.hb, nth_map2 _ (by rw [List.length_map]; have := h.hn; omega), nth_map2 _ (by have := h.hn; omega)]
theorem board_add {x : Leg} {s : Slr} (hw : winM s.f s.u x = true) : boardP (addD s x.t) = aftM x (boardP s) := by
  unfold aftM canT addD boardP
  simp only []
  rw [if_pos hw, lng_snoc]
theorem NowP.add {r n B hs al bl ms i x} {w w' : World} (h : NowP n B hs al bl ms w) (u : Ext w w') (hi : i < n) (hx : okLeg x = true) (hc : canM r x (nth ms i) = true) (hB : B ≤ 900) {ao ad : Option Addr} {g c gd cd e base e3 base3 : Nat} (hA : Acc encHS 4 e base w' ao g c (setHS hs i x.t ad gd cd)) (hD : Acc encDty 4 e3 base3 w' ad gd cd ((nth hs i).ds ++ [x.t])) :
    NowP n (B + 1) (setHS hs i x.t ad gd cd) ao g (ms.set i (aftM x (nth ms i))) w' := by
  have hn := h.hn
  have hm := h.at_ hi
  have hdi := h.hd _ (nth_mem (show i < hs.length by omega))
  rw [hm] at hc
  refine ⟨hA.sl (fun _ => rfl), fun y hy => ?_, ?_, by unfold setHS; rw [List.length_set]; exact hn, fun y hy => ?_, fun y hy => ?_⟩
  · rcases List.mem_or_eq_of_mem_set hy with q | q
    · exact (h.hm y q).keepE u
    · have h8 := (h.hm _ (nth_mem (show i < hs.length by omega))).keepE u
      rw [q]
      exact ⟨h8.hp, h8.hpl, hD.sl (fun _ => rfl), by show ((nth hs i).ds ++ [_]).length ≤ 1000000; rw [List.length_append, List.length_singleton]; omega⟩
  · rw [setHS_map (by omega), List.map_set, h.hb, nth_map2 _ (by omega), hm, board_add (canB_win hc)]
  · rcases List.mem_or_eq_of_mem_set hy with q | q
    · have := h.hd y q; omega
    · rw [q]; show ((nth hs i).ds ++ [_]).length ≤ _; rw [List.length_append, List.length_singleton]; omega
  · rcases List.mem_or_eq_of_mem_set hy with q | q
    · exact h.hok y q
    · rw [q]; exact ok_snoc (h.hok _ (nth_mem (show i < hs.length by omega))) (okLeg_ok hx).1
theorem run_step {r : Rul} {xs : List Leg} {ls : List (List Int)} {ms : List Mb} {i : Nat} (hx : i < xs.length) (hl : i < ls.length) : runP r (xs.drop i) (ls.drop i) ms = (match giveP r (nth xs i) (nth ls i) ms with | some ms' => runP r (xs.drop (i + 1)) (ls.drop (i + 1)) ms' | none => none) := by rw [drop_nth hx, drop_nth hl, runP]
theorem run_nil {r : Rul} {ls : List (List Int)} {ms : List Mb} : runP r [] ls ms = some ms := by cases ls <;> rfl
theorem run_no {r : Rul} {xs : List Leg} {ls : List (List Int)} {ms : List Mb} {i : Nat} (hx : i < xs.length) (hl : i < ls.length) (h : giveP r (nth xs i) (nth ls i) ms = none) : (runP r (xs.drop i) (ls.drop i) ms).isSome = false := by rw [run_step hx hl, h]; rfl
theorem own63 : Own Tryz.prog 63 := ⟨Tryz.f63, func63, by kernel_rfl, by kernel_rfl⟩
theorem own32 : Own Tryz.prog 32 := ⟨Tryz.f32, func32, by kernel_rfl, by kernel_rfl⟩

set_option maxHeartbeats 2000000 in
theorem rSafe_c (r : Rul) (hs : List HS) (al : Option Addr) (bl ol cl : Nat) (ss : List Slr) (xs : List Leg) (ax : Option Addr) (bx ox cx : Nat) (rows : List HL) (ar : Option Addr) (br or_ cr : Nat) (w0 : World) (hc : CrwP r hs al bl ol cl ss w0) (hxs : Sl encLeg 7 w0 ax bx ox xs) (hxl : xs.length ≤ 8) (hox : ∀ x ∈ xs, okLeg x = true) (hr9 : Sl encHL 1 w0 ar br or_ rows) (hrl : rows.length = xs.length) (hrm : ∀ h ∈ rows, Sl encI 1 w0 h.ao h.b h.o h.xs ∧ h.xs.length ≤ 1000000) (hin : ∀ h ∈ rows, ∀ i ∈ h.xs, 0 ≤ i ∧ i < (hs.length : Int)) (hpos : 0 < w0.heap.size) :
    CallsV Tryz.prog 63 [.agg #[.int .i64 r.rest, .int .i64 r.span, .int .i64 r.work, .int .i64 r.week, .int .i64 r.ww], .slice al hs.length cl, .slice ax xs.length cx, .slice ar rows.length cr] w0 (fun v w' => v = .bool (runP r xs (rows.map HL.xs) (ss.map boardP)).isSome ∧ Ext w0 w') := by
 have h68 := hc.h6
 refine f_enter (N := 110) func63 rfl rfl rfl (c_seq fun K1 hK1 => (c_region (t_box (cs := [.int .i64 r.rest, .int .i64 r.span, .int .i64 r.work, .int .i64 r.week, .int .i64 r.ww]) rfl rfl rfl rfl (fun bk2 w3 ebk2 sbk2 B4 u5 => ?_))))
 have zu5 := u5.size
 refine t_assign rfl rfl rfl (t_nil' (hK1 _ _ (c_seq fun K7 hK7 => (c_region (t_bslice (ps := []) (cs := []) (e := 79) rfl rfl ⟨rfl, rfl⟩ (fun w => by kernel_rfl) (fun bk8 w9 ebk8 sbk8 B10 u11 => ?_))))))
 have zu11 := u11.size
 have E12 := ((Upd.refl (fun _ => False) w0).nx u5).nx u11
 refine t_move rfl rfl rfl (t_copy (enc := encHS) (z := .agg #[.int .i64 0, .int .i64 0, .slice none 0 0, .slice none 0 0]) (bytes := 64) (k := 4) (ys := hs) underlying54 (by kernel_rfl) rfl (by decide) (fun _ => rfl) (by intro x; simp [encHS, Value.oneCell']) rfl rfl rfl rfl B10 (hc.hl.keep E12 (fun _ z => z)) (by omega) (by decide) (fun ao13 gb14 cp15 w16 A17 u18 gegb14 => ?_))
 have zu18 := u18.size
 have E19 := E12.next u18 (fun i hi h => by omega)
 have lt_gb14 := A17.lt
 refine t_assign rfl rfl rfl (t_nil' (hK7 _ _ (c_seq fun K20 hK20 => (c_seq fun K21 hK21 => (c_region (t_assign rfl rfl rfl (t_nil' (hK21 _ _ (c_block ?_)))))))))
 have hNow0 := NowP.start hc E19 (A17.sl (fun _ => rfl))
 refine c_loop (γ := Nat × List HS × Option Addr × Nat × Nat × List Mb) (fun gg => [(2, .slice ax xs.length cx), (3, .slice ar rows.length cr), (4, .pointer (some ⟨bk2, 0, none⟩)), (9, .slice gg.2.2.1 gg.2.1.length gg.2.2.2.2.1), (10, .int .i64 (gg.1 : Int))]) (fun gg w => Upd (fun _ => False) w16 w ∧ (gg.1 ≤ xs.length) ∧ (NowP hs.length (20 + 3 * gg.1) gg.2.1 gg.2.2.1 gg.2.2.2.1 gg.2.2.2.2.2 w) ∧ (runP r xs (rows.map HL.xs) (ss.map boardP) = runP r (xs.drop gg.1) ((rows.map HL.xs).drop gg.1) gg.2.2.2.2.2)) (fun gg => xs.length - gg.1) (0, hs, ao13, gb14, cp15, (ss.map boardP)) ⟨rfl, rfl, rfl, rfl, rfl, trivial⟩ ⟨Upd.refl _ _, (Nat.zero_le _), hNow0, rfl⟩ ?_
 intro gg w23 hW K22 hK22
 obtain ⟨i9, hs2, a2, b2, c2, ms⟩ := gg
 change WC _ _ _ _ _ _ [(2, .slice ax xs.length cx), (3, .slice ar rows.length cr), (4, .pointer (some ⟨bk2, 0, none⟩)), (9, .slice a2 hs2.length c2), (10, .int .i64 (i9 : Int))] _
 change Upd (fun _ => False) w16 w23 ∧ (i9 ≤ xs.length) ∧ (NowP hs.length (20 + 3 * i9) hs2 a2 b2 ms w23) ∧ (runP r xs (rows.map HL.xs) (ss.map boardP) = runP r (xs.drop i9) ((rows.map HL.xs).drop i9) ms) at hW
 obtain ⟨u24, I25, I26, I27⟩ := hW
 have zu24 := u24.size
 have E28 := E19.nx u24
 have hk := I25; clear I25
 have hnow := I26; clear I26
 have hrun := I27; clear I27
 have hnl2 := hnow.hn
 have h68 := hc.h6
 have hpl9 : (rows.map HL.xs).length = xs.length := by rw [List.length_map]; exact hrl
 refine c_seq fun K29 hK29 => (c_seq fun K30 hK30 => (c_region (t_move rfl rfl rfl (t_move rfl rfl rfl (t_len underlying55 rfl rfl rfl rfl (t_cmp rfl rfl rfl rfl rfl (t_nil' (hK30 _ _ (c_condp rfl (fun g22 => ?_) (fun g22 => ?_))))))))))
 ·
  have hxo := okLeg_ok (hox _ (nth_mem (xs := xs) (i := i9) (by omega)))
  have hh3 := hxo.2.1
  have hrk := (hrm (nth rows i9) (nth_mem (by omega))).2
  refine c_skip (hK29 _ _ (c_seq fun K31 hK31 => (c_block (c_seq fun K32 hK32 => (c_region (t_assign rfl rfl rfl (t_nil' (hK32 _ _ (c_seq fun K33 hK33 => (c_seq fun K34 hK34 => (c_drawnM follows (fun _ => False) (.look 0 (.look 1 (.look 2 (.look 3 (.look 4 (.look 5 (.look 6 (.look 7 (.look 8 (.look 9 (.look 10 .done))))))))))) (by kernel_rfl) fun w35 u36 => ?_)))))))))))
  have zu36 := u36.size
  have E37 := E28.nx u36
  refine y_move rfl rfl rfl (y_move rfl rfl rfl ?_)
  have i38 : i9 < rows.length := (by omega)
  refine y_index (j := i9) underlying56 sizeOf60 rfl rfl rfl rfl ((hr9.keep E37 (fun _ z => z)).addr (by omega)) rfl i38 (y_load isAgg60 rfl rfl rfl (((hr9.keep E37 (fun _ z => z)).at_ i9 (by omega)) 0 _ rfl) (fun h => h) (y_len underlying60 rfl rfl rfl rfl (y_move rfl rfl rfl (y_move rfl rfl rfl ?_))))
  have i39 : i9 < xs.length := (by omega)
  refine y_index (j := i9) underlying55 sizeOf68 rfl rfl rfl rfl ((hxs.keep E37 (fun _ z => z)).addr (by omega)) rfl i39 (y_field underlying68 rfl sizeOf3 (ox + i9 * 7 + 5) rfl rfl rfl rfl (y_load isAgg3 rfl rfl rfl (((hxs.keep E37 (fun _ z => z)).at_ i9 (by omega)) 5 _ rfl) (fun h => h) (y_cmp rfl rfl rfl rfl rfl (s_nil (hK34 _ _ (c_condp rfl (fun g35 => ?_) (fun g35 => ?_)))))))
  ·
   have hgP : giveP r (nth xs i9) (nth rows i9).xs ms = none := giveP_len (by omega)
   refine c_seq fun K40 hK40 => (c_region (t_assign rfl rfl rfl (t_nil' (hK40 _ _ (c_ret (f_ret1 (v := .bool false) results63 rfl ?_))))))
   exact ⟨congrArg Value.bool (by rw [hrun]; exact (run_no (by omega) (by omega) (by rw [nth_map2 _ (by omega)]; exact hgP)).symm), E37⟩
  refine c_skip (hK33 _ _ (c_seq fun K41 hK41 => (c_seq fun K42 hK42 => (c_region (t_assign rfl rfl rfl (t_nil' (hK42 _ _ (c_block ?_))))))))
  have hnow2 := hnow.ext ((Upd.refl (fun _ => False) _).nx u36)
  refine c_loop (γ := Nat × List HS × Option Addr × Nat × Nat × List Mb × Int) (fun gg => [(2, .slice ax xs.length cx), (3, .slice ar rows.length cr), (4, .pointer (some ⟨bk2, 0, none⟩)), (9, .slice gg.2.2.1 gg.2.1.length gg.2.2.2.2.1), (10, .int .i64 (i9 : Int)), (11, .int .i64 gg.2.2.2.2.2.2), (12, .int .i64 (gg.1 : Int))]) (fun gg w => Upd (fun _ => False) w35 w ∧ (gg.1 ≤ (nth rows i9).xs.length) ∧ (NowP hs.length (20 + 3 * i9 + gg.1) gg.2.1 gg.2.2.1 gg.2.2.2.1 gg.2.2.2.2.2.1 w) ∧ (giveGo r (nth xs i9) (nth rows i9).xs ms [] 0 = giveGo r (nth xs i9) ((nth rows i9).xs.drop gg.1) gg.2.2.2.2.2.1 ((nth rows i9).xs.take gg.1) gg.2.2.2.2.2.2) ∧ (0 ≤ gg.2.2.2.2.2.2 ∧ gg.2.2.2.2.2.2 ≤ (gg.1 : Int))) (fun gg => (nth rows i9).xs.length - gg.1) (0, hs2, a2, b2, c2, ms, 0) ⟨rfl, rfl, rfl, rfl, rfl, rfl, rfl, trivial⟩ ⟨Upd.refl _ _, (Nat.zero_le _), hnow2, rfl, ⟨(by show (0 : Int) ≤ 0; omega), (by show (0 : Int) ≤ ((0 : Nat) : Int); omega)⟩⟩ ?_
  intro gg w44 hW K43 hK43
  obtain ⟨k, hs3, a3, b3, c3, ms3, pl⟩ := gg
  change WC _ _ _ _ _ _ [(2, .slice ax xs.length cx), (3, .slice ar rows.length cr), (4, .pointer (some ⟨bk2, 0, none⟩)), (9, .slice a3 hs3.length c3), (10, .int .i64 (i9 : Int)), (11, .int .i64 pl), (12, .int .i64 (k : Int))] _
  change Upd (fun _ => False) w35 w44 ∧ (k ≤ (nth rows i9).xs.length) ∧ (NowP hs.length (20 + 3 * i9 + k) hs3 a3 b3 ms3 w44) ∧ (giveGo r (nth xs i9) (nth rows i9).xs ms [] 0 = giveGo r (nth xs i9) ((nth rows i9).xs.drop k) ms3 ((nth rows i9).xs.take k) pl) ∧ (0 ≤ pl ∧ pl ≤ (k : Int)) at hW
  obtain ⟨u45, I46, I47, I48, I49⟩ := hW
  have zu45 := u45.size
  have E50 := E37.nx u45
  have hkk := I46; clear I46
  have hnow := I47; clear I47
  have hgo := I48; clear I48
  have hplk := I49; clear I49
  have hnl3 := hnow.hn
  refine c_seq fun K51 hK51 => (c_seq fun K52 hK52 => (c_region (t_move rfl rfl rfl (t_move rfl rfl rfl (t_move rfl rfl rfl ?_)))))
  have i53 : i9 < rows.length := (by omega)
  refine t_index (j := i9) underlying56 sizeOf60 rfl rfl rfl rfl ((hr9.keep E50 (fun _ z => z)).addr (by omega)) rfl i53 (t_load isAgg60 rfl rfl rfl (((hr9.keep E50 (fun _ z => z)).at_ i9 (by omega)) 0 _ rfl) (t_len underlying60 rfl rfl rfl rfl (t_cmp rfl rfl rfl rfl rfl (t_nil' (hK52 _ _ (c_condp rfl (fun g42 => ?_) (fun g42 => ?_)))))))
  ·
   obtain ⟨hia, hib⟩ := hin (nth rows i9) (nth_mem (by omega)) _ (nth_mem (xs := (nth rows i9).xs) (i := k) (by omega))
   refine c_skip (hK51 _ _ (c_seq fun K54 hK54 => (c_block (c_seq fun K55 hK55 => (c_seq fun K56 hK56 => (c_region (t_assign rfl rfl rfl (t_nil' (hK56 _ _ (c_block (c_loop (γ := Nat) (fun n9 => [(2, .slice ax xs.length cx), (3, .slice ar rows.length cr), (4, .pointer (some ⟨bk2, 0, none⟩)), (9, .slice a3 hs3.length c3), (10, .int .i64 (i9 : Int)), (11, .int .i64 pl), (12, .int .i64 (k : Int)), (13, .int .i64 (n9 : Int))]) (fun n9 w => Upd (fun _ => False) w44 w ∧ (n9 ≤ k) ∧ (∀ j, j < n9 → nth (nth rows i9).xs j ≠ nth (nth rows i9).xs k)) (fun n9 => k - n9) 0 ⟨rfl, rfl, rfl, rfl, rfl, rfl, rfl, rfl, trivial⟩ ⟨Upd.refl _ _, (Nat.zero_le _), (fun j hj => absurd hj (Nat.not_lt_zero _))⟩ ?_)))))))))))
   intro n9 w58 hW K57 hK57
   obtain ⟨u59, I60, I61⟩ := hW
   have zu59 := u59.size
   have E62 := E50.nx u59
   have hn9 := I60; clear I60
   have hne := I61; clear I61
   refine c_seq fun K63 hK63 => (c_seq fun K64 hK64 => (c_region (t_move rfl rfl rfl (t_move rfl rfl rfl (t_cmp rfl rfl rfl rfl rfl (t_nil' (hK64 _ _ (c_condp rfl (fun g47 => ?_) (fun g47 => ?_)))))))))
   ·
    refine c_skip (hK63 _ _ (c_seq fun K65 hK65 => (c_block (c_seq fun K66 hK66 => (c_drawnM follows (fun _ => False) (.look 0 (.look 1 (.look 2 (.look 3 (.look 4 (.look 5 (.look 6 (.look 7 (.look 8 (.look 9 (.look 10 (.look 11 (.look 12 (.look 13 (.look 14 .done))))))))))))))) (by kernel_rfl) fun w67 u68 => ?_)))))
    have zu68 := u68.size
    have E69 := E62.nx u68
    refine y_move rfl rfl rfl (y_move rfl rfl rfl ?_)
    have i70 : i9 < rows.length := (by omega)
    refine y_index (j := i9) underlying56 sizeOf60 rfl rfl rfl rfl ((hr9.keep E69 (fun _ z => z)).addr (by omega)) rfl i70 (y_load isAgg60 rfl rfl rfl (((hr9.keep E69 (fun _ z => z)).at_ i9 (by omega)) 0 _ rfl) (fun h => h) (y_move rfl rfl rfl ?_))
    have i71 : n9 < (nth rows i9).xs.length := (by omega)
    refine y_index (j := n9) underlying60 sizeOf3 rfl rfl rfl rfl (((hrm (nth rows i9) (nth_mem (by omega))).1.keep E69 (fun _ z => z)).addr (by omega)) rfl i71 (y_load isAgg3 rfl rfl rfl ((((hrm (nth rows i9) (nth_mem (by omega))).1.keep E69 (fun _ z => z)).at_ n9 (by omega)) 0 _ rfl) (fun h => h) (y_move rfl rfl rfl (y_move rfl rfl rfl ?_)))
    have i72 : i9 < rows.length := (by omega)
    refine y_index (j := i9) underlying56 sizeOf60 rfl rfl rfl rfl ((hr9.keep E69 (fun _ z => z)).addr (by omega)) rfl i72 (y_load isAgg60 rfl rfl rfl (((hr9.keep E69 (fun _ z => z)).at_ i9 (by omega)) 0 _ rfl) (fun h => h) (y_move rfl rfl rfl ?_))
    have i73 : k < (nth rows i9).xs.length := (by omega)
    refine y_index (j := k) underlying60 sizeOf3 rfl rfl rfl rfl (((hrm (nth rows i9) (nth_mem (by omega))).1.keep E69 (fun _ z => z)).addr (by omega)) rfl i73 (y_load isAgg3 rfl rfl rfl ((((hrm (nth rows i9) (nth_mem (by omega))).1.keep E69 (fun _ z => z)).at_ k (by omega)) 0 _ rfl) (fun h => h) (y_cmp rfl rfl rfl rfl rfl (s_nil (hK66 _ _ (c_condp rfl (fun g64 => ?_) (fun g64 => ?_))))))
    ·
     have hgP : giveP r (nth xs i9) (nth rows i9).xs ms = none := by
       unfold giveP
       rw [hgo, drop_nth (by omega), giveGo, if_neg (fun h => h.2 (by rw [← g64]; exact List.mem_iff_getElem.2 ⟨n9, by rw [List.length_take]; omega, by rw [List.getElem_take]; exact (nth_eq (by omega)).symm⟩))]
     refine c_seq fun K74 hK74 => (c_region (t_assign rfl rfl rfl (t_nil' (hK74 _ _ (c_ret (f_ret1 (v := .bool false) results63 rfl ?_))))))
     exact ⟨congrArg Value.bool (by rw [hrun]; exact (run_no (by omega) (by omega) (by rw [nth_map2 _ (by omega)]; exact hgP)).symm), E69⟩
    refine c_skip (hK65 _ _ (c_region (t_move rfl rfl rfl (t_ari rfl rfl rfl rfl rfl (by omega) (t_assign rfl rfl rfl (t_nil' ?_))))))
    exact hK57 (n9 + 1) _ _ (by omega) ⟨rfl, rfl, rfl, rfl, rfl, rfl, rfl, rfl, trivial⟩ ⟨(u59.nx u68), (by omega), (fun j hj => by
      rcases Nat.lt_or_ge j n9 with q | q
      · exact hne j q
      · rw [show j = n9 by omega]; exact g64)⟩
   have hnin : nth (nth rows i9).xs k ∉ (nth rows i9).xs.take k := fun h => by
     obtain ⟨j, hj, e9⟩ := List.mem_iff_getElem.1 h
     rw [List.length_take] at hj
     rw [List.getElem_take, ← nth_eq] at e9
     exact hne j (by omega) e9
   have hdl9 := hnow.hd (nth hs3 (nth (nth rows i9).xs k).toNat) (nth_mem (by omega))
   have hcm := hnow.at_ (i := (nth (nth rows i9).xs k).toNat) (by omega)
   refine c_exit (hK55 _ _ (c_seq fun K75 hK75 => (c_drawnM follows (fun _ => False) (.look 0 (.look 1 (.look 2 (.look 3 (.look 4 (.look 5 (.look 6 (.look 7 (.look 8 (.look 9 (.look 10 (.look 11 (.look 12 (.look 13 (.look 14 (.act 15 (.look 16 (.look 17 (.look 18 (.look 19 (.look 20 .done))))) .stop)))))))))))))))) (by kernel_rfl) fun w76 u77 => ?_)))
   have zu77 := u77.size
   have E78 := E62.nx u77
   have B79 := (((((((B4.kx u11).keep u18 (by omega)).kx u24).kx u36).kx u45).kx u59).kx u77)
   refine y_loadN (vs := [.int .i64 r.rest, .int .i64 r.span, .int .i64 r.work, .int .i64 r.week, .int .i64 r.ww]) isAgg23 sizeOf23 rfl rfl rfl (B79.at.sub 0 5) rfl (fun h => h) (y_move rfl rfl rfl (y_move rfl rfl rfl (y_move rfl rfl rfl ?_)))
   have i80 : i9 < rows.length := (by omega)
   refine y_index (j := i9) underlying56 sizeOf60 rfl rfl rfl rfl ((hr9.keep E78 (fun _ z => z)).addr (by omega)) rfl i80 (y_load isAgg60 rfl rfl rfl (((hr9.keep E78 (fun _ z => z)).at_ i9 (by omega)) 0 _ rfl) (fun h => h) (y_move rfl rfl rfl ?_))
   have i81 : k < (nth rows i9).xs.length := (by omega)
   refine y_index (j := k) underlying60 sizeOf3 rfl rfl rfl rfl (((hrm (nth rows i9) (nth_mem (by omega))).1.keep E78 (fun _ z => z)).addr (by omega)) rfl i81 (y_load isAgg3 rfl rfl rfl ((((hrm (nth rows i9) (nth_mem (by omega))).1.keep E78 (fun _ z => z)).at_ k (by omega)) 0 _ rfl) (fun h => h) ?_)
   have D82 := ((hnow.hl.kE u59).kE u77)
   have i83 : (nth (nth rows i9).xs k).toNat < hs3.length := (by omega)
   refine y_index (j := (nth (nth rows i9).xs k).toNat) underlying54 sizeOf79 rfl rfl rfl rfl (D82.addr (by omega)) (by omega) i83 ?_
   have D84 := ((hnow.hl.kE u59).kE u77)
   refine y_loadN (vs := [.int .i64 ((nth hs3 ((nth (nth rows i9).xs k).toNat)).f), .int .i64 ((nth hs3 ((nth (nth rows i9).xs k).toNat)).u), .slice ((nth hs3 ((nth (nth rows i9).xs k).toNat)).ap) ((nth hs3 ((nth (nth rows i9).xs k).toNat)).ps.length) ((nth hs3 ((nth (nth rows i9).xs k).toNat)).cp), .slice ((nth hs3 ((nth (nth rows i9).xs k).toNat)).ad) ((nth hs3 ((nth (nth rows i9).xs k).toNat)).ds.length) ((nth hs3 ((nth (nth rows i9).xs k).toNat)).cd)]) isAgg79 sizeOf79 rfl rfl rfl ((D84.at_ ((nth (nth rows i9).xs k).toNat) (by omega)).sub 0 4) rfl (fun h => h) (y_move rfl rfl rfl (y_move rfl rfl rfl ?_))
   have i85 : i9 < xs.length := (by omega)
   refine y_index (j := i9) underlying55 sizeOf68 rfl rfl rfl rfl ((hxs.keep E78 (fun _ z => z)).addr (by omega)) rfl i85 (y_loadN (vs := [.int .i64 ((nth xs i9).r), .int .i64 ((nth xs i9).t.bl), .int .i64 ((nth xs i9).t.bh), .int .i64 ((nth xs i9).t.el), .int .i64 ((nth xs i9).t.eh), .int .i64 ((nth xs i9).h), .int .i64 ((nth xs i9).p)]) isAgg68 sizeOf68 rfl rfl rfl (((hxs.keep E78 (fun _ z => z)).at_ i9 (by omega)).sub 0 7) rfl (fun h => h) (s_do (t_call own36 rfl rfl rfl rfl (rMay_c r (nth hs3 ((nth (nth rows i9).xs k).toNat)) (nth xs i9) _ ((hnow.hm (nth hs3 ((nth (nth rows i9).xs k).toNat)) (nth_mem (by omega))).keepE (((Upd.refl (fun _ => False) _).nx u59).nx u77)) (hnow.hm (nth hs3 ((nth (nth rows i9).xs k).toNat)) (nth_mem (by omega))).hpl hc.hr (by omega) (hnow.hok (nth hs3 ((nth (nth rows i9).xs k).toNat)) (nth_mem (by omega))) hxo.1 (by omega)) (fun v86 w87 r89 => ?_))))
   obtain ⟨rfl, u88⟩ := r89
   have zu88 := u88.size
   have E90 := E78.nx u88
   refine s_next ((Upd.refl _ _).nx u88) (y_move rfl rfl rfl (y_extract rfl rfl rfl rfl (y_extract rfl rfl rfl rfl (y_assign rfl rfl rfl (y_assign rfl rfl rfl (s_nil (hK75 _ _ (c_seq fun K91 hK91 => (c_seq fun K92 hK92 => (c_region (t_move rfl rfl rfl (t_not rfl rfl rfl (t_nil' (hK92 _ _ (c_cond rfl (fun g85 => ?_) (fun g85 => ?_))))))))))))))))
   ·
    have hgP : giveP r (nth xs i9) (nth rows i9).xs ms = none := by
      unfold giveP
      rw [hgo, drop_nth (by omega), giveGo, if_neg (fun h => by have h9 := h.1; rw [hcm] at h9; have h8 : MayR r (nth hs3 (nth (nth rows i9).xs k).toNat).slr (nth xs i9) = true := h9; rw [h8] at g85; cases g85)]
    refine c_seq fun K93 hK93 => (c_region (t_assign rfl rfl rfl (t_nil' (hK93 _ _ (c_ret (f_ret1 (v := .bool false) results63 rfl ?_))))))
    exact ⟨congrArg Value.bool (by rw [hrun]; exact (run_no (by omega) (by omega) (by rw [nth_map2 _ (by omega)]; exact hgP)).symm), E90⟩
   have hcan : canM r (nth xs i9) (nth ms3 (nth (nth rows i9).xs k).toNat) = true := by rw [hcm]; show MayR r (nth hs3 (nth (nth rows i9).xs k).toNat).slr (nth xs i9) = true; simpa using g85
   refine c_skip (hK91 _ _ (c_cut (γ := Int) (fun pl2 => [(2, .slice ax xs.length cx), (3, .slice ar rows.length cr), (4, .pointer (some ⟨bk2, 0, none⟩)), (9, .slice a3 hs3.length c3), (10, .int .i64 (i9 : Int)), (11, .int .i64 pl2), (12, .int .i64 (k : Int))]) (fun pl2 w => Upd (fun _ => False) w87 w ∧ (pl2 = pl + pltI (nth ms3 (nth (nth rows i9).xs k).toNat) (nth xs i9))) (fun K95 hK95 => ?_) ?_))
   ·
    refine c_seq fun K98 hK98 => (c_region (t_move rfl rfl rfl (t_nil' (hK98 _ _ (c_cond rfl (fun g86 => ?_) (fun g86 => ?_))))))
    ·
     refine c_region (t_move rfl rfl rfl (t_ari rfl rfl rfl rfl rfl (by omega) (t_assign rfl rfl rfl (t_nil' ?_))))
     exact hK95 (pl + 1) _ _ ⟨rfl, rfl, rfl, rfl, rfl, rfl, rfl, trivial⟩ ⟨(Upd.refl _ _), (by rw [hcm]; show _ = pl + (if pltP (nth hs3 (nth (nth rows i9).xs k).toNat).ps (nth xs i9) = true then 1 else 0); rw [if_pos g86])⟩
    refine c_skip ?_
    exact hK95 pl _ _ ⟨rfl, rfl, rfl, rfl, rfl, rfl, rfl, trivial⟩ ⟨(Upd.refl _ _), (by rw [hcm]; show _ = pl + (if pltP (nth hs3 (nth (nth rows i9).xs k).toNat).ps (nth xs i9) = true then 1 else 0); rw [if_neg (by simp [g86])]; omega)⟩
   intro pl2 w96 hW
   obtain ⟨u97, I99⟩ := hW
   have zu97 := u97.size
   have hpl2 := I99; clear I99
   refine c_drawnM follows (fun _ => False) (.look 0 (.look 1 (.look 2 (.look 3 (.look 4 (.look 5 (.look 6 (.look 7 (.look 8 (.look 9 (.look 10 (.look 11 (.look 12 (.act 13 (.look 14 .done) .stop)))))))))))))) (by kernel_rfl) fun w101 u102 => ?_
   have zu102 := u102.size
   have E103 := (E90.nx u97).nx u102
   refine y_move rfl rfl rfl (y_move rfl rfl rfl (y_move rfl rfl rfl ?_))
   have i104 : i9 < rows.length := (by omega)
   refine y_index (j := i9) underlying56 sizeOf60 rfl rfl rfl rfl ((hr9.keep E103 (fun _ z => z)).addr (by omega)) rfl i104 (y_load isAgg60 rfl rfl rfl (((hr9.keep E103 (fun _ z => z)).at_ i9 (by omega)) 0 _ rfl) (fun h => h) (y_move rfl rfl rfl ?_))
   have i105 : k < (nth rows i9).xs.length := (by omega)
   refine y_index (j := k) underlying60 sizeOf3 rfl rfl rfl rfl (((hrm (nth rows i9) (nth_mem (by omega))).1.keep E103 (fun _ z => z)).addr (by omega)) rfl i105 (y_load isAgg3 rfl rfl rfl ((((hrm (nth rows i9) (nth_mem (by omega))).1.keep E103 (fun _ z => z)).at_ k (by omega)) 0 _ rfl) (fun h => h) (y_same 96 (v := .int .i64 ((nth (nth rows i9).xs k).toNat : Int)) rfl (congrArg (Value.int .i64) (by omega)) (y_move rfl rfl rfl (y_move rfl rfl rfl ?_))))
   have i106 : i9 < xs.length := (by omega)
   refine y_index (j := i9) underlying55 sizeOf68 rfl rfl rfl rfl ((hxs.keep E103 (fun _ z => z)).addr (by omega)) rfl i106 (y_field underlying68 rfl sizeOf37 (ox + i9 * 7 + 1) rfl rfl rfl rfl (y_loadN (vs := [.int .i64 ((nth xs i9).t.bl), .int .i64 ((nth xs i9).t.bh), .int .i64 ((nth xs i9).t.el), .int .i64 ((nth xs i9).t.eh)]) isAgg37 sizeOf37 rfl rfl rfl (((hxs.keep E103 (fun _ z => z)).at_ i9 (by omega)).sub 1 4) rfl (fun h => h) (s_do ?_)))
   have D108 := (((D82.kE u88).kE u97).kE u102)
   refine t_call own92 rfl rfl rfl rfl (rWith_c hs3 a3 b3 0 c3 (nth (nth rows i9).xs k).toNat (nth xs i9).t _ D108 (by omega) (by omega) (fun h hh => (hnow.hm h hh).keepE ((((((Upd.refl (fun _ => False) _).nx u59).nx u77).nx u88).nx u97).nx u102)) (by omega) (by omega)) (fun v109 w110 r112 => ?_)
   obtain ⟨⟨aoWW107, gWW107, cWW107, adW107, gdW107, cdW107, rfl, haWW107, hdWW107, hbWW107, hbDW107⟩, u111⟩ := r112
   have zu111 := u111.size
   have lt_gWW107 := haWW107.lt
   refine s_next ((Upd.refl _ _).nx u111) (y_assign rfl rfl rfl (s_nil (hK54 _ _ (c_region (t_move rfl rfl rfl (t_ari rfl rfl rfl rfl rfl (by omega) (t_assign rfl rfl rfl (t_nil' ?_))))))))
   exact hK43 (k + 1, setHS hs3 (nth (nth rows i9).xs k).toNat (nth xs i9).t adW107 gdW107 cdW107, aoWW107, gWW107, cWW107, ms3.set (nth (nth rows i9).xs k).toNat (aftM (nth xs i9) (nth ms3 (nth (nth rows i9).xs k).toNat)), pl2) _ _ (by show (nth rows i9).xs.length - (k + 1) < (nth rows i9).xs.length - k; omega) ⟨rfl, rfl, rfl, rfl, rfl, rfl, rfl, trivial⟩ ⟨((((((u45.nx u59).nx u77).nx u88).nx u97).nx u102).nx u111), (by omega), ((hnow.add (((((((Upd.refl (fun _ => False) _).nx u59).nx u77).nx u88).nx u97).nx u102).nx u111) (by omega) (hox _ (nth_mem (by omega))) hcan (by omega) haWW107 hdWW107).ext (Upd.refl (fun _ => False) _)), (by rw [hgo, drop_nth (by omega), giveGo, if_pos ⟨hcan, hnin⟩, hpl2, take_nth (by omega)]), (by have := pltI_rng (nth ms3 (nth (nth rows i9).xs k).toNat) (nth xs i9); show 0 ≤ pl2 ∧ pl2 ≤ ((k + 1 : Nat) : Int); omega)⟩
  have hgoe : giveGo r (nth xs i9) (nth rows i9).xs ms [] 0 = some (ms3, pl) := by rw [hgo, List.drop_of_length_le (by omega), giveGo]
  refine c_exit (hK41 _ _ (c_seq fun K114 hK114 => (c_region (t_move rfl rfl rfl (t_move rfl rfl rfl (t_move rfl rfl rfl ?_))))))
  have i115 : i9 < xs.length := (by omega)
  refine t_index (j := i9) underlying55 sizeOf68 rfl rfl rfl rfl ((hxs.keep E50 (fun _ z => z)).addr (by omega)) rfl i115 (t_field underlying68 rfl sizeOf3 (ox + i9 * 7 + 6) rfl rfl rfl rfl (t_load isAgg3 rfl rfl rfl (((hxs.keep E50 (fun _ z => z)).at_ i9 (by omega)) 6 _ rfl) (t_cmp rfl rfl rfl rfl rfl (t_nil' (hK114 _ _ (c_condp rfl (fun g109 => ?_) (fun g109 => ?_)))))))
  ·
   have hgP : giveP r (nth xs i9) (nth rows i9).xs ms = none := by unfold giveP; rw [hgoe]; exact if_neg (fun h => by have := h.2; omega)
   refine c_seq fun K116 hK116 => (c_region (t_assign rfl rfl rfl (t_nil' (hK116 _ _ (c_ret (f_ret1 (v := .bool false) results63 rfl ?_))))))
   exact ⟨congrArg Value.bool (by rw [hrun]; exact (run_no (by omega) (by omega) (by rw [nth_map2 _ (by omega)]; exact hgP)).symm), E50⟩
  have hgP : giveP r (nth xs i9) (nth rows i9).xs ms = some ms3 := by unfold giveP; rw [hgoe]; exact if_pos ⟨by omega, by omega⟩
  refine c_skip (hK31 _ _ (c_region (t_move rfl rfl rfl (t_ari rfl rfl rfl rfl rfl (by omega) (t_assign rfl rfl rfl (t_nil' ?_))))))
  exact hK22 (i9 + 1, hs3, a3, b3, c3, ms3) _ _ (by show xs.length - (i9 + 1) < xs.length - i9; omega) ⟨rfl, rfl, rfl, rfl, rfl, trivial⟩ ⟨((u24.nx u36).nx u45), (by omega), ((hnow.ext (Upd.refl (fun _ => False) _)).up (by omega)), (by rw [hrun, run_step (by omega) (by omega), nth_map2 _ (by omega), hgP])⟩
 refine c_exit (hK20 _ _ (c_seq fun K117 hK117 => (c_region (t_assign rfl rfl rfl (t_nil' (hK117 _ _ (c_ret (f_ret1 (v := .bool true) results63 rfl ?_))))))))
 exact ⟨congrArg Value.bool (by rw [hrun, List.drop_of_length_le (by omega), run_nil]; rfl), E28⟩

set_option maxHeartbeats 1000000 in
theorem rVerify_c (r : Rul) (hs : List HS) (al : Option Addr) (bl ol cl : Nat) (ss : List Slr) (xs : List Leg) (ax : Option Addr) (bx ox cx : Nat) (rows : List HL) (ar : Option Addr) (br or_ cr : Nat) (w0 : World) (hc : CrwP r hs al bl ol cl ss w0) (hxs : Sl encLeg 7 w0 ax bx ox xs) (hxl : xs.length ≤ 8) (hox : ∀ x ∈ xs, okLeg x = true) (hr9 : Sl encHL 1 w0 ar br or_ rows) (hrl : rows.length = xs.length) (hrm : ∀ h ∈ rows, Sl encI 1 w0 h.ao h.b h.o h.xs ∧ h.xs.length ≤ 1000000) (hin : ∀ h ∈ rows, ∀ i ∈ h.xs, 0 ≤ i ∧ i < (hs.length : Int)) (hpos : 0 < w0.heap.size) (hcx : xs.length ≤ cx) (hcr : rows.length ≤ cr) :
    CallsV Tryz.prog 32 [.agg #[.int .i64 r.rest, .int .i64 r.span, .int .i64 r.work, .int .i64 r.week, .int .i64 r.ww], .slice al hs.length cl, .slice ax xs.length cx, .slice ar rows.length cr] w0 (fun v w' => v = .int .i64 (verGo r xs (rows.map HL.xs) (ss.map boardP) 0) ∧ Ext w0 w') := by
 refine f_enter (N := 29) func32 rfl rfl rfl (c_seq fun K1 hK1 => (c_region (t_box (cs := [.int .i64 r.rest, .int .i64 r.span, .int .i64 r.work, .int .i64 r.week, .int .i64 r.ww]) rfl rfl rfl rfl (fun bk2 w3 ebk2 sbk2 B4 u5 => ?_))))
 have zu5 := u5.size
 refine t_assign rfl rfl rfl (t_nil' (hK1 _ _ (c_seq fun K7 hK7 => (c_seq fun K8 hK8 => (c_region (t_assign rfl rfl rfl (t_nil' (hK8 _ _ (c_block (c_loop (γ := Nat) (fun k => [(1, .slice al hs.length cl), (2, .slice ax xs.length cx), (3, .slice ar rows.length cr), (4, .pointer (some ⟨bk2, 0, none⟩)), (9, .int .i64 (k : Int))]) (fun k w => Upd (fun _ => False) w3 w ∧ (k ≤ xs.length) ∧ (runP r (xs.take k) ((rows.take k).map HL.xs) (ss.map boardP) ≠ none)) (fun k => xs.length - k) 0 ⟨rfl, rfl, rfl, rfl, rfl, trivial⟩ ⟨Upd.refl _ _, (Nat.zero_le _), (fun h => by cases h)⟩ ?_))))))))))
 intro k w10 hW K9 hK9
 obtain ⟨u11, I12, I13⟩ := hW
 have zu11 := u11.size
 have E14 := ((Upd.refl (fun _ => False) w0).nx u5).nx u11
 have hk := I12; clear I12
 have hok := I13; clear I13
 refine c_seq fun K15 hK15 => (c_seq fun K16 hK16 => (c_region (t_move rfl rfl rfl (t_move rfl rfl rfl (t_len underlying55 rfl rfl rfl rfl (t_cmp rfl rfl rfl rfl rfl (t_nil' (hK16 _ _ (c_condp rfl (fun g13 => ?_) (fun g13 => ?_))))))))))
 ·
  refine c_skip (hK15 _ _ (c_seq fun K17 hK17 => (c_block (c_seq fun K18 hK18 => (c_drawnM follows (fun _ => False) (.look 0 (.look 1 (.look 2 (.look 3 (.look 4 (.look 5 (.look 6 (.look 7 (.look 8 (.look 9 (.act 10 (.look 11 .done) .stop))))))))))) (by kernel_rfl) fun w19 u20 => ?_)))))
  have zu20 := u20.size
  have E21 := E14.nx u20
  have B22 := ((B4.kx u11).kx u20)
  refine y_loadN (vs := [.int .i64 r.rest, .int .i64 r.span, .int .i64 r.work, .int .i64 r.week, .int .i64 r.ww]) isAgg23 sizeOf23 rfl rfl rfl (B22.at.sub 0 5) rfl (fun h => h) (y_move rfl rfl rfl (y_move rfl rfl rfl (y_move rfl rfl rfl (y_ari rfl rfl rfl rfl rfl (by omega) (y_sliceTo (k + 1) underlying55 sizeOf68 rfl rfl rfl rfl (by omega) (by omega) (y_same 21 (v := .slice (subAddr ax cx 0 7) ((xs.take (k + 1)).length) cx) rfl (by rw [List.length_take, Nat.min_eq_left (by omega)]) (y_move rfl rfl rfl (y_move rfl rfl rfl (y_ari rfl rfl rfl rfl rfl (by omega) (y_sliceTo (k + 1) underlying56 sizeOf60 rfl rfl rfl rfl (by omega) (by omega) (y_same 25 (v := .slice (subAddr ar cr 0 1) ((rows.take (k + 1)).length) cr) rfl (by rw [List.length_take, Nat.min_eq_left (by omega)]) (s_do (t_call own63 rfl rfl rfl rfl (rSafe_c r hs al bl ol cl ss (xs.take (k + 1)) (subAddr ax cx 0 7) bx ox cx (rows.take (k + 1)) (subAddr ar cr 0 1) br or_ cr _ (hc.ext E21) (Sl.subTo (hxs.keep E21 (fun _ z => z)) cx (k + 1) hcx) (by rw [List.length_take]; omega) (fun x hx9 => hox x (List.mem_of_mem_take hx9)) (Sl.subTo (hr9.keep E21 (fun _ z => z)) cr (k + 1) hcr) (by rw [List.length_take, List.length_take, hrl]) (fun h hh => ⟨(hrm h (List.mem_of_mem_take hh)).1.keep E21 (fun _ z => z), (hrm h (List.mem_of_mem_take hh)).2⟩) (fun h hh => hin h (List.mem_of_mem_take hh)) (by omega)) (fun v23 w24 r26 => ?_))))))))))))))
  obtain ⟨rfl, u25⟩ := r26
  have zu25 := u25.size
  refine s_next ((Upd.refl _ _).nx u25) (y_not rfl rfl rfl (s_nil (hK18 _ _ (c_cond rfl (fun g27 => ?_) (fun g27 => ?_)))))
  ·
   refine c_seq fun K28 hK28 => (c_region (t_move rfl rfl rfl (t_assign rfl rfl rfl (t_nil' (hK28 _ _ (c_ret (f_ret1 (v := .int .i64 (k : Int)) results32 rfl ?_)))))))
   exact ⟨congrArg (Value.int .i64) (by
     have h9 : runP r (xs.take (k + 1)) ((rows.take (k + 1)).map HL.xs) (ss.map boardP) = none := by
       cases h : runP r (xs.take (k + 1)) ((rows.take (k + 1)).map HL.xs) (ss.map boardP) with
       | none => rfl
       | some m => rw [h] at g27; cases g27
     rw [List.map_take] at h9 hok
     rw [ver_run (k := 0) (by rw [List.length_map]; exact hrl) (by omega) hok h9, Nat.zero_add]), (E21.nx u25)⟩
  refine c_skip (hK17 _ _ (c_region (t_move rfl rfl rfl (t_ari rfl rfl rfl rfl rfl (by omega) (t_assign rfl rfl rfl (t_nil' ?_))))))
  exact hK9 (k + 1) _ _ (by omega) ⟨rfl, rfl, rfl, rfl, rfl, trivial⟩ ⟨((u11.nx u20).nx u25), (by omega), (fun h => by rw [h] at g27; cases g27)⟩
 refine c_exit (hK7 _ _ (c_seq fun K29 hK29 => (c_region (t_assign rfl rfl rfl (t_nil' (hK29 _ _ (c_ret (f_ret1 (v := .int .i64 (-1)) results32 rfl ?_))))))))
 exact ⟨congrArg (Value.int .i64) (by
   rw [List.take_of_length_le (by omega), List.take_of_length_le (by omega)] at hok
   exact (ver_all hok).symm), E14⟩

end Go.Proofs.YtagmodjadmecdaaGreat
