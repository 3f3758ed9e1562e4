/-
  Part 20 of the proof: contracts and plain laws. Conditions: none.
-/
import Derived.Test.YtjdcpnaocjddoaaGreatDoorIK19
namespace Go.Proofs.YtjdcpnaocjddoaaGreatDoor
open Go Go.RowKit Go.Proofs.Tryz
end Go.Proofs.YtjdcpnaocjddoaaGreatDoor
namespace Go.Proofs.YtjdcpnaocjddoaaGreatDoor
open Go Go.RowKit Go.Proofs.Tryz
theorem eqI_c (xs : List Int) (aa : Option Addr) (ba oa ca : Nat) (ab : Option Addr) (bb ob cb : Nat) (w0 : World) (ha : Sl encI 1 w0 aa ba oa xs) (hb : Sl encI 1 w0 ab bb ob xs) (hxl : xs.length ≤ 17592186044416) :
    CallsV Tryz.prog 33 [.slice aa xs.length ca, .slice ab xs.length cb] w0 (fun v w' => v = .bool true ∧ Ext w0 w') := by
 refine f_n func33 ?_
 iterate 13 refine st1 ?_
 refine t_samehd (v := .bool false) (by simp) ?_
 refine go ?_
 refine x_l1 (fun _ => False) [0, 1] (fun (j : Nat) => [(5, .int .i64 (j : Int))]) (fun j w => (j ≤ xs.length)) (fun j => xs.length - j) 0 (Nat.zero_le _) ?_
 rintro j w7 hj u8 zu8 K6 hK6
 refine go ?_
 refine q_p (fun g14 => ?_) fun g14 => ?_
 ·
  refine go ?_
  refine c_drawnM follows (fun _ => False) (OTl [0, 2, 4, 6, 8, 10, 12, 14, 16]) (by kernel_rfl) fun w14 u15 => ?_
  have zu15 := u15.size
  have E16 := Sc.mk (((Upd.refl (fun _ => False) w0).nx u8).nx u15)
  refine go ?_
  refine y_i j (ha.keep E16.u (fun _ h => h)) (fun _ => ?_)
  refine go ?_
  refine y_i j (hb.keep E16.u (fun _ h => h)) (fun _ => ?_)
  iterate 2 refine st1 ?_
  refine y_samehd (v := .bool false) (by simp) ?_
  refine go ?_
  exact hK6 (j + 1) (by omega)
 refine go ?_
 refine f_1 results33 ?_
 exact ⟨rfl, u_d⟩

theorem WriteV_c (l : List Ent) (al : Option Addr) (bl ol cl : Nat) (w0 : World) (hl : Sl encEnt 6 w0 al bl ol l) (hll : l.length ≤ 1000000000) (hpos : 0 < w0.heap.size) :
    CallsV Tryz.prog 15 [.slice al l.length cl] w0 fun v w' => (∃ (u : List Bk) (a9 : Option Addr) (g9 c9 : Nat), v = .tuple #[.slice a9 (bytesP u).length c9, .int .i64 (chkE l)] ∧ Acc encY 1 5 w0.heap.size w' a9 g9 c9 (bytesP u) ∧ u = if chkE l = 0 then writeP l else []) ∧ Ext w0 w' :=
  CallsV.mono (WriteLog_c l al bl ol cl w0 hl hll hpos) (by
    rintro v w' ⟨⟨a, g, c, rfl, h⟩, u⟩
    have e : logP l = bytesP (if chkE l = 0 then writeP l else []) := by
      unfold logP
      split <;> rfl
    rw [e] at h ⊢
    exact ⟨⟨_, a, g, c, rfl, h, rfl⟩, u⟩)
theorem RepairE_c (xs : List UInt8) (ab : Option Addr) (bb ob cb : Nat) (w0 : World) (hs : Sl encY 1 w0 ab bb ob xs) (hcb : xs.length ≤ cb) (hxl : xs.length ≤ 1000000) (hpos : 0 < w0.heap.size) (r1 : List UInt8) (r2 : List Int) (r3 : Int) (hr : repR xs = (r1, r2, r3)) :
    CallsV Tryz.prog 32 [.slice ab xs.length cb] w0 fun v w' => (∃ a9 g9 c9 a8 g8 c8, v = .tuple #[.slice a9 (List.length r1) c9, .slice a8 (List.length r2) c8, .int .i64 r3] ∧ Acc encY 1 5 w0.heap.size w' a9 g9 c9 r1 ∧ Acc encI 1 3 w0.heap.size w' a8 g8 c8 r2) ∧ Ext w0 w' := by
  have h := Repair_c xs ab bb ob cb w0 hs hcb hxl hpos
  rw [hr] at h
  exact h

end Go.Proofs.YtjdcpnaocjddoaaGreatDoor
namespace Go.Proofs.YtjdcpnaocjddoaaGreatDoor
open Go Go.RowKit Go.Proofs.Tryz
section
variable {rd : Option Nat} {P : Program} {ops : Array Oper} {Q : Exit → Act → World → Prop} {N : Nat} {ds : List Deferred} {rest : List Oper} {L : Slots} {w : World}
variable {d : Nat} {ty : TypeId} {pos : String} {aft : Array Edge} {g : Option (Nat × Bool)}
/-- append of a whole slice, as long as memory can hold -/
theorem t_appendAllW {α : Type} [Inhabited α] {enc : α → List Value} {k : Nat} {t e : TypeId} {z : Value} {bytes base : Nat} {s x : Operand} {ao ay : Option Addr} {gb cap b o c : Nat} {xs ys : List α}
    (hu : P.underlying t = some (.slice e)) (hi : (P.info? e).map (fun i => (i.zero, i.size, i.bytes)) = some (some z, k, bytes)) (hz : z.cells.size = k) (hk0 : 0 < k) (hk : ∀ x, (enc x).length = k) (h1 : ∀ x, ∀ u ∈ enc x, u.oneCell' = true)
    (hg : grd ops L g = true) (hN : Nat.blt d N = true) (hs : ev L s = some (.slice ao xs.length cap)) (hx : ev L x = some (.slice ay ys.length c))
    (ha : Acc enc k e base w ao gb cap xs) (hb : Sl enc k w ay b o ys) (hbase : base ≤ w.heap.size) (hlen2 : xs.length + ys.length ≤ 17592186044416) (hbytes : bytes ≤ 8)
    (h : ∀ ao' g' cap' w', Acc enc k e base w' ao' g' cap' (xs ++ ys) → Upd (fun i => i = gb ∧ base ≤ i) w w' → (g' = gb ∨ w.heap.size ≤ g') → (xs ++ ys).length = xs.length + ys.length → WL rd P ops Q N ds rest ((d, .slice ao' (xs ++ ys).length cap') :: L) w') :
    WL rd P ops Q N ds (⟨some d, .call ⟨.builtin .append, #[s, x], #[t, t]⟩, ty, pos, aft, g⟩ :: rest) L w := by
  obtain ⟨i, hi0, hi1, hi2, hi3⟩ := info_parts' hi
  have hlen' : (xs ++ ys).length = xs.length + ys.length := by simp
  rcases Nat.eq_zero_or_pos ys.length with h0 | h0
  · have : ys = [] := List.eq_nil_of_length_eq_zero h0
    subst this
    have hle := ha.cap_le
    have hr : (Builtin.append_ #[t, t] ty #[.slice ao xs.length cap, .slice ay ([] : List α).length c]).run P w = .ok (.slice ao xs.length cap) w := by
      cases ao <;> cases ay <;> simp [Builtin.append_, run_underlying hu, sizeOf, typeInfo, hi0, Builtin.lenOf, Builtin.firstCells, loadCells, loadCellsFrom, storeCells, hle]
    have hacc : Acc enc k e base w ao gb cap (xs ++ []) := by simpa using ha
    have := h ao gb cap w hacc (Upd.refl _ _) (.inl rfl) hlen'
    rw [show (xs ++ ([] : List α)).length = xs.length from by simp] at this
    exact WL.value hg rfl hN (fun a hk' => by
      have hx' : a.eval x = .slice ay 0 c := hk'.ev hx
      have hr' : (Builtin.append_ #[t, t] ty #[.slice ao xs.length cap, .slice ay 0 c]).run P w = .ok (.slice ao xs.length cap) w := hr
      simp only [execOp, resolve, invoke, builtin]
      simp [hk'.ev hs, hx', hr']) this
  · have hay := hb.addr h0
    subst hay
    obtain ⟨gg, cc, w', hr, hown, hgrow, hgeq⟩ := run_append_lies (P := P) (w := w) t ty base e i z k bytes hu hi0 hi1 hi2 hi3 hz hk0 (.slice ao xs.length cap) xs.length (xs.flatMap enc) (ha.owns hk)
      ⟨b, o, none⟩ ys.length c (ys.flatMap enc) (flatMap_len hk ys) (sl_cells hk0 hk hb) (fun u hu => by
        obtain ⟨y, _, hy⟩ := List.mem_flatMap.1 hu
        exact h1 y u hy) h0 (by unfold maxLen; omega) (by
        have : (xs.length + ys.length) * bytes ≤ 17592186044416 * 8 := Nat.mul_le_mul (by omega) hbytes
        omega) hbase _ rfl
    have hacc : Acc enc k e base w' (some ⟨gg, 0, none⟩) gg cc (xs ++ ys) := by
      obtain ⟨hl, hown⟩ := hown
      rcases hown with ⟨hq, _⟩ | ⟨g2, cap2, cur, he, hbg, hh, hc1, hc2, hc3, hc4⟩
      · cases hq
      · cases he
        refine ⟨?_, .inr ⟨rfl, hbg, cur, hh, by rw [hlen']; exact hc1, hc2, hc3, ?_⟩⟩
        · rcases Nat.lt_or_ge gg w'.heap.size with h | h
          · exact h
          · rw [Array.getElem?_eq_none h] at hh; cases hh
        · rw [hlen']; simpa using hc4
    have hupd : Upd (fun i => i = gb ∧ base ≤ i) w w' := ⟨hgrow.os, hgrow.tape, hgrow.output, hgrow.size, fun q hq hn => hgrow.block q hq (fun he => by
      rcases ha.at_ with ⟨h1, _, _, _⟩ | ⟨h1, h2, _⟩
      · subst h1; cases he
      · subst h1; simp [Value.ownBlock] at he; exact hn ⟨he, by omega⟩)⟩
    have hge : gg = gb ∨ w.heap.size ≤ gg := by
      rcases hgeq with h | h
      · left
        rcases ha.at_ with ⟨h1, _, _, _⟩ | ⟨h1, h2, _⟩
        · subst h1; simp [Value.ownBlock] at h
        · subst h1; simp [Value.ownBlock] at h; omega
      · right; omega
    have := h _ _ _ w' hacc hupd hge hlen'
    rw [hlen'] at this
    refine WL.value hg rfl hN (fun a hk' => ?_) this
    simp only [execOp, resolve, invoke, builtin]
    simp [hk'.ev hs, hk'.ev hx, hr]
theorem t_copyW {α : Type} [Inhabited α] {enc : α → List Value} {k : Nat} {t e : TypeId} {z : Value} {bytes bk : Nat} {s x : Operand} {ay : Option Addr} {b o c : Nat} {ys : List α}
    (hu : P.underlying t = some (.slice e)) (hi : (P.info? e).map (fun i => (i.zero, i.size, i.bytes)) = some (some z, k, bytes)) (hz : z.cells.size = k) (hk0 : 0 < k) (hk : ∀ x, (enc x).length = k) (h1 : ∀ x, ∀ u ∈ enc x, u.oneCell' = true)
    (hg : grd ops L g = true) (hN : Nat.blt d N = true) (hs : ev L s = some (.slice (some ⟨bk, 0, none⟩) 0 0)) (hx : ev L x = some (.slice ay ys.length c))
    (hB : Blk w bk e []) (hb : Sl enc k w ay b o ys) (hlen2 : ys.length ≤ 17592186044416) (hbytes : bytes ≤ 8)
    (h : ∀ ao' g' cap' w', Acc enc k e bk w' ao' g' cap' ys → Upd (fun i => i = bk ∧ bk ≤ i) w w' → bk ≤ g' → WL rd P ops Q N ds rest ((d, .slice ao' ys.length cap') :: L) w') :
    WL rd P ops Q N ds (⟨some d, .call ⟨.builtin .append, #[s, x], #[t, t]⟩, ty, pos, aft, g⟩ :: rest) L w :=
  have hl := hB.lt
  t_appendAllW (xs := ([] : List α)) (gb := bk) (cap := 0) (base := bk) hu hi hz hk0 hk h1 hg hN hs hx (Acc.lit enc k hB (Nat.le_refl _)) hb (Nat.le_of_lt hl) (by simpa using hlen2) hbytes
    fun ao' g' cap' w' ha hu' hg' _ => h ao' g' cap' w' ha hu' (by omega)
end
theorem Acc.lowH {α : Type} {enc : α → List Value} {k : Nat} {e : TypeId} {base base' : Nat} {w : World} {ao : Option Addr} {g cap : Nat} {xs : List α} (h : Acc enc k e base w ao g cap xs) (hb : base' ≤ base) (h0 : 0 < base') : ∃ g', Acc enc k e base' w ao g' cap xs ∧ (base' ≤ g' → base ≤ g') := by
  rcases h.at_ with ⟨h1, h2, h3, h4⟩ | ⟨h1, h2, h3⟩
  · exact ⟨0, ⟨Nat.lt_of_le_of_lt (Nat.zero_le _) h.lt, .inl ⟨h1, h2, h3, h0⟩⟩, fun q => absurd q (by omega)⟩
  · exact ⟨g, ⟨h.lt, .inr ⟨h1, by omega, h3⟩⟩, fun _ => h2⟩
def SlB (W : World) (ys : List Bil) : Prop := ∀ z ∈ ys, Sl encI 1 W z.ao z.g z.ob z.s ∧ z.s.length ≤ 17592186044416
theorem BilsM.slB {B : Nat} {W : World} {ys : List Bil} (h : BilsM B W ys) : SlB W ys := fun z hz => by
  obtain ⟨h1, h2, h3⟩ := h z hz
  refine ⟨?_, h2⟩
  rw [h1]; exact h3.sl (fun _ => rfl)
theorem SlB.ext {W W' : World} {ys : List Bil} (h : SlB W ys) (u : Ext W W') : SlB W' ys := fun z hz => ⟨(h z hz).1.keep u (fun _ h => h), (h z hz).2⟩
theorem eqI_d (xs ys : List Int) (he : xs = ys) (aa : Option Addr) (ba oa ca : Nat) (ab : Option Addr) (bb ob cb : Nat) (w0 : World) (h1 : Sl encI 1 w0 aa ba oa xs) (h2 : Sl encI 1 w0 ab bb ob ys) (hl : xs.length ≤ 17592186044416) : CallsV Tryz.prog 33 [.slice aa xs.length ca, .slice ab ys.length cb] w0 fun v w' => v = .bool true ∧ Ext w0 w' := by
  subst he
  exact eqI_c xs aa ba oa ca ab bb ob cb w0 h1 h2 hl
theorem bare_at {ys zs : List Bil} (h : ys.map Bil.bare = zs.map Bil.bare) {i : Nat} (hi : i < ys.length) : (nth ys i).n = (nth zs i).n ∧ (nth ys i).c = (nth zs i).c ∧ (nth ys i).t = (nth zs i).t ∧ (nth ys i).f = (nth zs i).f ∧ (nth ys i).o = (nth zs i).o ∧ (nth ys i).s = (nth zs i).s := by
  have hl : ys.length = zs.length := by have h9 := congrArg List.length h; rwa [List.length_map, List.length_map] at h9
  have h1 := nth_bare ys i hi
  have h2 := nth_bare zs i (by omega)
  rw [h] at h1
  have e : (nth ys i).bare = (nth zs i).bare := h1.symm.trans h2
  unfold Bil.bare at e
  injection e with a1 a2 a3 a4 a5 a6
  exact ⟨a1, a2, a3, a4, a5, a6⟩
theorem ints_c (xs : List Int) (aa : Option Addr) (ba oa ca : Nat) (w0 : World) (hs : Sl encI 1 w0 aa ba oa xs) (hxl : xs.length ≤ 17592186044416) (hpos : 0 < w0.heap.size) :
    CallsV Tryz.prog 77 [.slice aa xs.length ca] w0 (fun v w' => (∃ a9 g9 c9, v = .slice a9 (List.length xs) c9 ∧ Acc encI 1 3 w0.heap.size w' a9 g9 c9 xs) ∧ Ext w0 w') := by
 refine f_n func77 ?_
 refine go ?_
 refine x_l fun bk3 w4 ebk3 sbk3 B5 u6 => ?_
 refine go ?_
 refine t_copyW (enc := encI) (z := .int .i64 0) (bytes := 8) (k := 1) (ys := xs) underlying59 (by kernel_rfl) rfl (by decide) (fun _ => rfl) (by intro x; simp [encI, Value.oneCell']) rfl rfl rfl rfl B5 (hs.keep ((Upd.refl (fun _ => False) w0).nx u6) (fun _ h => h)) (by omega) (by decide) (fun ao8 gb9 cp10 w11 A12 u13 gegb9 => ?_)
 have zu13 := u13.size
 have lt_gb9 := A12.lt
 refine go ?_
 refine f_1 results77 ?_
 obtain ⟨g9, h9⟩ := Acc.lower (base' := w0.heap.size) A12 (by omega) hpos
 exact ⟨⟨_, g9, _, rfl, h9⟩, u_d⟩

set_option maxHeartbeats 4000000 in
theorem bcopy_c (l : List Bil) (al : Option Addr) (bl ol cl : Nat) (w0 : World) (hl : Sl encBil 6 w0 al bl ol l) (hll : l.length ≤ 1000000) (hss : SlB w0 l) (hpos : 0 < w0.heap.size) :
    CallsV Tryz.prog 37 [.slice al l.length cl] w0 (fun v w' => (∃ ys a9 g9 c9, v = .slice a9 (List.length ys) c9 ∧ ys.map Bil.bare = l.map Bil.bare ∧ Acc encBil 6 71 w0.heap.size w' a9 g9 c9 ys ∧ BilsM w0.heap.size w' ys) ∧ Ext w0 w') := by
 refine f_n func37 ?_
 refine go ?_
 refine x_l fun bk3 w4 ebk3 sbk3 B5 u6 => ?_
 refine go ?_
 refine x_l2 (fun i => i = bk3 ∨ w4.heap.size ≤ i) [0] (fun (ys : List Bil) (q : (Option Addr × Nat × Nat)) => [(3, .slice q.1 ys.length q.2.2), (4, .int .i64 (ys.length : Int))]) (fun ys q w => (ys.length ≤ l.length) ∧ (Acc encBil 6 71 w0.heap.size w q.1 q.2.1 q.2.2 ys) ∧ (q.2.1 = bk3 ∨ w4.heap.size ≤ q.2.1) ∧ (BilsM w0.heap.size w ys) ∧ (ys.map Bil.bare = (l.take ys.length).map Bil.bare)) (fun ys q => l.length - ys.length) ([]) (some ⟨bk3, 0, none⟩, bk3, 0) ⟨(Nat.zero_le _), (Acc.ofBlk (base := w0.heap.size) (xs := ([] : List Bil)) encBil 6 (fun _ => rfl) B5 (by omega) (by decide)), (.inl rfl), (BilsM.nil _ _), rfl⟩ ?_
 rintro ys q w11 ⟨hyl, hA, hqW, hM, hcy⟩ u12 zu12 K10 hK10
 have E13 := Sc.mk (((Upd.refl (fun _ => False) w0).nx u6).next u12 (fun i hi h => by omega))
 have lt_q_2_1 := hA.lt
 have hMne := hM.ne hA
 refine go ?_
 refine q_p (fun g10 => ?_) fun g10 => ?_
 ·
  obtain ⟨hsx9, hxs9⟩ := hss _ (nth_mem (xs := l) (i := ys.length) (by omega))
  refine go ?_
  refine g_i ys.length (hl.keep E13.u (fun _ h => h)) (fun _ => ?_)
  refine go ?_
  refine x_n fun bk19 w20 ebk19 sbk19 B21 u22 => ?_
  refine x_s fun w24 sw24 B26 u25 => ?_
  refine go ?_
  refine x_c func77 rfl rfl (ints_c (nth l ys.length).s (nth l ys.length).ao (nth l ys.length).g (nth l ys.length).ob (nth l ys.length).cp _ (hsx9.keep ((E13.u.nx u22).next u25 (fun i hi h => by omega)) (fun _ h => h)) hxs9 (by omega)) ?_
  rintro _ w30 ⟨⟨ai, gi9, ci, rfl, haci⟩, u31⟩ zu31
  have D34 := (((hA.keep u22 (fun _ h => h)).keep u25 (fun hb => show ¬ (q.2.1 = bk19) by first | omega | assumption)).keep u31 (fun _ h => h))
  obtain ⟨gi, hac, hgiw⟩ := Acc.lowH (base' := w0.heap.size) haci (by omega) hpos
  have hgi : gi < w30.heap.size := hac.lt
  have hgq : w0.heap.size ≤ gi → gi ≠ q.2.1 := fun hb => (BilsM.snoc (BilsM.nil w0.heap.size _) (y := (⟨(nth l ys.length).n, (nth l ys.length).c, (nth l ys.length).t, (nth l ys.length).f, (nth l ys.length).o, (nth l ys.length).s, ai, gi, 0, ci⟩ : Bil)) rfl hxs9 hac).ne D34 (⟨(nth l ys.length).n, (nth l ys.length).c, (nth l ys.length).t, (nth l ys.length).f, (nth l ys.length).o, (nth l ys.length).s, ai, gi, 0, ci⟩ : Bil) (by simp) hb
  have lt_gi := hac.lt
  refine go ?_
  refine x_s fun w35 sw35 B37 u36 => ?_
  refine go ?_
  refine x_l fun bk39 w40 ebk39 sbk39 B41 u42 => ?_
  have D44 := ((D34.keep u36 (fun hb => show ¬ (q.2.1 = bk19) by first | omega | assumption)).keep u42 (fun _ h => h))
  refine t_append (z := .agg #[.int .i64 0, .int .i64 0, .int .i64 0, .int .i64 0, .int .i64 0, .slice none 0 0]) (bytes := 64) (k := 6) (base := w0.heap.size) (⟨(nth l ys.length).n, (nth l ys.length).c, (nth l ys.length).t, (nth l ys.length).f, (nth l ys.length).o, (nth l ys.length).s, ai, gi, 0, ci⟩ : Bil) underlying69 (by kernel_rfl) rfl (by decide) (fun _ => rfl) (by intro x; simp [encBil, Value.oneCell']) rfl rfl rfl rfl D44 B41 (by omega) (by omega) (by decide) (fun ao45 gb46 cp47 w48 A49 u50 gegb46 lngb46 => ?_)
  have zu50 := u50.size
  have lt_gb46 := A49.lt
  refine go ?_
  have D52 := (BilsM.keep (BilsM.keep (BilsM.keep (BilsM.keep (BilsM.keep (BilsM.keep hM u22 (fun _ _ _ h => h)) u25 (fun z hz hb => by have h9 := hMne z hz hb; have h8 := (hM z hz).2.2.lt; show ¬ (z.g = bk19); omega)) u31 (fun _ _ _ h => h)) u36 (fun z hz hb => by have h9 := hMne z hz hb; have h8 := (hM z hz).2.2.lt; show ¬ (z.g = bk19); omega)) u42 (fun _ _ _ h => h)) u50 (fun z hz hb => by have h9 := hMne z hz hb; have h8 := (hM z hz).2.2.lt; show ¬ ((z.g = q.2.1 ∧ w0.heap.size ≤ z.g)); omega))
  have D53 := (((hac.keep u36 (fun hb => show ¬ (gi = bk19) by first | omega | assumption)).keep u42 (fun _ h => h)).keep u50 (fun hb => show ¬ ((gi = q.2.1 ∧ w0.heap.size ≤ gi)) by first | omega | assumption))
  exact hK10 (ys ++ [(⟨(nth l ys.length).n, (nth l ys.length).c, (nth l ys.length).t, (nth l ys.length).f, (nth l ys.length).o, (nth l ys.length).s, ai, gi, 0, ci⟩ : Bil)]) (ao45, gb46, cp47) ⟨(by rw [List.length_append, List.length_singleton]; omega), A49, (show gb46 = bk3 ∨ w4.heap.size ≤ gb46 by omega), (BilsM.snoc D52 rfl hxs9 D53), (by rw [List.length_append, List.map_append, hcy]; show _ = (l.take (ys.length + 1)).map Bil.bare; rw [take_nth (show ys.length < l.length by omega), List.map_append]; rfl)⟩ (hm := (by show l.length - (ys ++ [_]).length < l.length - ys.length; rw [List.length_append, List.length_singleton]; omega)) (hs := by exact ⟨rfl, (congrArg (fun z => some (Value.int .i64 z)) (by rw [List.length_append, List.length_singleton, Int.natCast_add]; rfl)), rfl, trivial⟩)
 rw [List.take_of_length_le (show l.length ≤ ys.length by omega)] at hcy
 refine go ?_
 refine f_1 results37 ?_
 exact ⟨⟨ys, _, _, _, rfl, hcy, hA, hM⟩, u_d⟩

set_option maxHeartbeats 4000000 in
theorem sameB_c (ys zs : List Bil) (ay : Option Addr) (by_ oy cy : Nat) (az : Option Addr) (bz oz cz : Nat) (w0 : World) (hy : Sl encBil 6 w0 ay by_ oy ys) (hz : Sl encBil 6 w0 az bz oz zs) (hb : ys.map Bil.bare = zs.map Bil.bare) (hsy : SlB w0 ys) (hsz : SlB w0 zs) (hyn : ys.length ≤ 1000000) :
    CallsV Tryz.prog 42 [.slice ay ys.length cy, .slice az zs.length cz] w0 (fun v w' => v = .bool true ∧ Ext w0 w') := by
 have hyz : ys.length = zs.length := by have h9 := congrArg List.length hb; rwa [List.length_map, List.length_map] at h9
 refine f_n func42 ?_
 refine go ?_
 refine q_p (fun g12 => ?_) fun g12 => ?_
 ·
  omega
 refine go ?_
 refine x_l1 (fun _ => False) [0, 1] (fun (i : Nat) => [(5, .int .i64 (i : Int))]) (fun i w => (i ≤ ys.length)) (fun i => ys.length - i) 0 (Nat.zero_le _) ?_
 rintro i w7 hi u8 zu8 K6 hK6
 refine go ?_
 refine q_p (fun g16 => ?_) fun g16 => ?_
 ·
  obtain ⟨hn9, hc9, ht9, hf9, ho9, hs9⟩ := bare_at hb (show i < ys.length by omega)
  have hbly := hy.lt (show 0 < ys.length by omega)
  have hblz := hz.lt (show 0 < zs.length by omega)
  refine go ?_
  refine c_drawnM follows (fun _ => False) (.look 0 (.look 1 (.look 2 (.look 3 (.look 4 (.look 5 (.look 6 (.look 7 (.act 8 (.act 9 (.act 10 (.act 11 .done .stop) .stop) .stop) (.act 9 (.act 8 (.act 10 (.act 11 .done .stop) .stop) .stop) .stop)))))))))) (by kernel_rfl) fun w14 u15 => ?_
  have zu15 := u15.size
  have E16 := Sc.mk (((Upd.refl (fun _ => False) w0).nx u8).nx u15)
  refine go ?_
  refine y_i i (hy.keep E16.u (fun _ h => h)) (fun _ => ?_)
  refine go ?_
  refine y_i i (hz.keep E16.u (fun _ h => h)) (fun _ => ?_)
  refine go ?_
  refine s_or ?_ ?_
  ·
   refine go ?_
   refine x_n fun bk19 w20 ebk19 sbk19 B21 u22 => ?_
   refine go ?_
   refine x_n fun bk24 w25 ebk24 sbk24 B26 u27 => ?_
   refine go ?_
   refine x_s fun w29 sw29 B31 u30 => ?_
   refine go ?_
   refine x_s fun w33 sw33 B35 u34 => ?_
   have E36 := Sc.mk ((((E16.u.nx u22).nx u27).next u30 (fun i hi h => by omega)).next u34 (fun i hi h => by omega))
   iterate 10 refine st1 ?_
   refine t_same 31 (v := .bool false) rfl (congrArg Value.bool (decide_eq_false (fun h => h hn9))) ?_
   iterate 6 refine st1 ?_
   refine t_same 37 (v := .bool false) rfl (congrArg Value.bool (decide_eq_false (fun h => h hc9))) ?_
   iterate 7 refine st1 ?_
   refine t_same 44 (v := .bool false) rfl (congrArg Value.bool (decide_eq_false (fun h => h ht9))) ?_
   iterate 7 refine st1 ?_
   refine t_same 51 (v := .bool false) rfl (congrArg Value.bool (decide_eq_false (fun h => h hf9))) ?_
   iterate 7 refine st1 ?_
   refine t_same 58 (v := .bool false) rfl (congrArg Value.bool (decide_eq_false (fun h => h ho9))) ?_
   refine go ?_
   refine x_c func33 rfl rfl (eqI_d (nth ys i).s (nth zs i).s hs9 _ _ _ _ _ _ _ _ _ ((hsy _ (nth_mem (xs := ys) (i := i) (by omega))).1.keep E36.u (fun _ h => h)) ((hsz _ (nth_mem (xs := zs) (i := i) (by omega))).1.keep E36.u (fun _ h => h)) (hsy _ (nth_mem (xs := ys) (i := i) (by omega))).2) ?_
   rintro _ w39 ⟨rfl, u40⟩ zu40
   refine go ?_
   exact hK6 (i + 1) (by omega)
  refine go ?_
  refine x_n fun bk43 w44 ebk43 sbk43 B45 u46 => ?_
  refine go ?_
  refine x_n fun bk48 w49 ebk48 sbk48 B50 u51 => ?_
  refine go ?_
  refine x_s fun w53 sw53 B55 u54 => ?_
  refine go ?_
  refine x_s fun w57 sw57 B59 u58 => ?_
  have E60 := Sc.mk ((((E16.u.nx u46).nx u51).next u54 (fun i hi h => by omega)).next u58 (fun i hi h => by omega))
  iterate 10 refine st1 ?_
  refine t_same 31 (v := .bool false) rfl (congrArg Value.bool (decide_eq_false (fun h => h hn9))) ?_
  iterate 6 refine st1 ?_
  refine t_same 37 (v := .bool false) rfl (congrArg Value.bool (decide_eq_false (fun h => h hc9))) ?_
  iterate 7 refine st1 ?_
  refine t_same 44 (v := .bool false) rfl (congrArg Value.bool (decide_eq_false (fun h => h ht9))) ?_
  iterate 7 refine st1 ?_
  refine t_same 51 (v := .bool false) rfl (congrArg Value.bool (decide_eq_false (fun h => h hf9))) ?_
  iterate 7 refine st1 ?_
  refine t_same 58 (v := .bool false) rfl (congrArg Value.bool (decide_eq_false (fun h => h ho9))) ?_
  refine go ?_
  refine x_c func33 rfl rfl (eqI_d (nth ys i).s (nth zs i).s hs9 _ _ _ _ _ _ _ _ _ ((hsy _ (nth_mem (xs := ys) (i := i) (by omega))).1.keep E60.u (fun _ h => h)) ((hsz _ (nth_mem (xs := zs) (i := i) (by omega))).1.keep E60.u (fun _ h => h)) (hsy _ (nth_mem (xs := ys) (i := i) (by omega))).2) ?_
  rintro _ w63 ⟨rfl, u64⟩ zu64
  refine go ?_
  exact hK6 (i + 1) (by omega)
 refine go ?_
 refine f_1 results42 ?_
 exact ⟨rfl, u_d⟩

end Go.Proofs.YtjdcpnaocjddoaaGreatDoor
namespace Go.Proofs.YtjdcpnaocjddoaaGreatDoor
open Go Go.RowKit Go.Proofs.Tryz
theorem chkB_bare : ∀ {ys zs : List Bil} {m : Int}, ys.map Bil.bare = zs.map Bil.bare → chkB m ys = chkB m zs
  | [], [], _, _ => rfl
  | [], _ :: _, _, h => by cases h
  | _ :: _, [], _, h => by cases h
  | y :: ys, z :: zs, m, h => by
    have h := List.cons.inj (show y.bare :: ys.map Bil.bare = z.bare :: zs.map Bil.bare from h)
    have e : okBill y = okBill z := by rw [← okBill_bare y, h.1, okBill_bare]
    have en : y.n = z.n := (congrArg Bil.n h.1 : y.bare.n = z.bare.n)
    show (if _ then _ else _) = (if _ then _ else _)
    rw [e, en, chkB_bare h.2]
theorem flat_bare : ∀ {ys zs : List Bil}, ys.map Bil.bare = zs.map Bil.bare → ys.flatMap billP = zs.flatMap billP
  | [], [], _ => rfl
  | [], _ :: _, h => by cases h
  | _ :: _, [], h => by cases h
  | y :: ys, z :: zs, h => by
    have h := List.cons.inj (show y.bare :: ys.map Bil.bare = z.bare :: zs.map Bil.bare from h)
    rw [List.flatMap_cons, List.flatMap_cons, flat_bare h.2, ← billP_bare y, h.1, billP_bare]
theorem textP_bare {ys zs : List Bil} (h : ys.map Bil.bare = zs.map Bil.bare) : textP ys = textP zs := by
  have hl : ys.length = zs.length := by have h9 := congrArg List.length h; rwa [List.length_map, List.length_map] at h9
  unfold textP
  rw [hl, chkB_bare h, flat_bare h]
end Go.Proofs.YtjdcpnaocjddoaaGreatDoor
namespace Go.Proofs.YtjdcpnaocjddoaaGreatDoor
open Go Go.RowKit
/-! ### gauge lines -/
structure Gau where
  st : Int
  hr : Int
  s : List Int
  ao : Option Addr
  g : Nat
  ob : Nat
  cp : Nat
instance : Inhabited Gau := ⟨⟨0, 0, [], none, 0, 0, 0⟩⟩
def encGau (x : Gau) : List Value := [.int .i64 x.st, .int .i64 x.hr, .slice x.ao x.s.length x.cp]
def okGau (x : Gau) : Bool := decide ((0 ≤ x.st ∧ x.st ≤ 99) ∧ (0 ≤ x.hr ∧ x.hr ≤ 100000) ∧ (1 ≤ x.s.length ∧ x.s.length ≤ 24) ∧ ∀ n ∈ x.s, 0 ≤ n ∧ n ≤ 10000)
theorem okGau_iff {x : Gau} (h : okGau x = true) : (0 ≤ x.st ∧ x.st ≤ 99) ∧ (0 ≤ x.hr ∧ x.hr ≤ 100000) ∧ (1 ≤ x.s.length ∧ x.s.length ≤ 24) ∧ ∀ n ∈ x.s, 0 ≤ n ∧ n ≤ 10000 := of_decide_eq_true h
def aftG (a b : Gau) : Prop := a.st < b.st ∨ (b.st = a.st ∧ a.hr + (a.s.length : Int) ≤ b.hr)
instance (a b : Gau) : Decidable (aftG a b) := by unfold aftG; infer_instance
def dW (d : Int) : List UInt8 := if d < 0 then Lib.itoa d else 43 :: Lib.itoa d
def difG : Int → List Int → List (List UInt8)
  | _, [] => []
  | a, b :: r => dW (b - a) :: difG b r
def wrdG (x : Gau) : List (List UInt8) := [Lib.itoa x.st, Lib.itoa x.hr, Lib.itoa (nth x.s 0)] ++ difG (nth x.s 0) (x.s.drop 1)
def gauP (x : Gau) : List UInt8 := sealedP (wrdG x)
def Gau.bare (x : Gau) : Gau := ⟨x.st, x.hr, x.s, none, 0, 0, 0⟩
def gau0 : Gau := ⟨0, 0, [], none, 0, 0, 0⟩
theorem okGau_bare (x : Gau) : okGau x.bare = okGau x := rfl
theorem gauP_bare (x : Gau) : gauP x.bare = gauP x := rfl
theorem difG_take : ∀ (l : List Int) (a : Int) (i : Nat), i < l.length → difG a (l.take (i + 1)) = difG a (l.take i) ++ [dW (nth l i - nth (a :: l) i)]
  | [], _, _, h => absurd h (Nat.not_lt_zero _)
  | x :: r, a, 0, _ => rfl
  | x :: r, a, i + 1, h => by
    have ih := difG_take r x i (by simpa using h)
    show dW (x - a) :: difG x (r.take (i + 1)) = dW (x - a) :: (difG x (r.take i) ++ [dW (nth r i - nth (x :: r) i)])
    rw [ih]
theorem nth_cons_drop {l : List Int} (h : 0 < l.length) (i : Nat) : nth (nth l 0 :: l.drop 1) i = nth l i := by
  cases l with
  | nil => cases h
  | cons a r => rfl
theorem difG_next {l : List Int} {i : Nat} (h : i + 1 < l.length) : difG (nth l 0) ((l.drop 1).take (i + 1)) = difG (nth l 0) ((l.drop 1).take i) ++ [dW (nth l (i + 1) - nth l i)] := by
  rw [difG_take _ _ _ (by rw [List.length_drop]; omega), nth_cons_drop (by omega), nth_drop, Nat.add_comm 1 i]
theorem difG_len : ∀ (l : List Int) (a : Int), (difG a l).length = l.length
  | [], _ => rfl
  | x :: r, a => by show (difG x r).length + 1 = r.length + 1; rw [difG_len r x]
/-! numbers with a sign -/
theorem decNat_dec (n : Nat) : Lib.decNat (Lib.decDigits n) = some n := by
  have hp := decD_pos n
  unfold Lib.decNat
  rw [if_neg (fun e => by rw [List.isEmpty_iff] at e; rw [e] at hp; cases hp), decFrom_dec]
theorem atoi_dec {n : Nat} (h : n < 1000000) : Lib.atoiAll (Lib.decDigits n) = .ok (n : Int) := by
  have hl := decD_len 5 n h
  have hd := decD_dg n
  have hn := decNat_dec n
  rw [Lib.atoiAll_short _ (by omega)]
  cases he : Lib.decDigits n with
  | nil => have := decD_pos n; rw [he] at this; cases this
  | cons c r =>
    rw [he] at hn hd
    have hc := isDg_iff.1 (hd c (List.mem_cons_self ..))
    have e1 : ¬ (c == 45) = true := fun e => by rw [beq_iff_eq.1 e] at hc; exact absurd hc (by decide)
    have e2 : ¬ (c == 43) = true := fun e => by rw [beq_iff_eq.1 e] at hc; exact absurd hc (by decide)
    have ea : Lib.atoi (c :: r) = some (n : Int) := by
      show (if (c == 45) = true then _ else if (c == 43) = true then _ else (Lib.decNat (c :: r)).map fun (m : Nat) => (m : Int)) = _
      rw [if_neg e1, if_neg e2, hn]; rfl
    rw [ea]; rfl
theorem itoa_minus {d : Int} (h : d < 0) : Lib.itoa d = 45 :: Lib.decDigits (-d).toNat := by
  have h1 := Lib.itoa_neg (-d).toNat (by omega)
  rw [Int.toNat_of_nonneg (by omega), Int.neg_neg] at h1; exact h1
theorem atoi_dW {d : Int} (h : -10000 ≤ d ∧ d ≤ 10000) : Lib.atoiAll (dW d) = .ok d := by
  unfold dW
  by_cases q : d < 0
  · rw [if_pos q, itoa_minus q]
    have hl := decD_len 5 (-d).toNat (by omega)
    rw [Lib.atoiAll_short _ (by rw [List.length_cons]; omega)]
    have ea : Lib.atoi (45 :: Lib.decDigits (-d).toNat) = some d := by
      show (if ((45 : UInt8) == 45) = true then ((Lib.decNat (Lib.decDigits (-d).toNat)).map fun (m : Nat) => -(m : Int)) else if ((45 : UInt8) == 43) = true then ((Lib.decNat (Lib.decDigits (-d).toNat)).map fun (m : Nat) => (m : Int)) else ((Lib.decNat (45 :: Lib.decDigits (-d).toNat)).map fun (m : Nat) => (m : Int))) = _
      rw [if_pos (by decide), decNat_dec]
      show some (-(((-d).toNat : Nat) : Int)) = _
      rw [Int.toNat_of_nonneg (by omega), Int.neg_neg]
    rw [ea]; rfl
  · rw [if_neg q, itoa_dec (by omega)]
    have hl := decD_len 5 d.toNat (by omega)
    rw [Lib.atoiAll_short _ (by rw [List.length_cons]; omega)]
    have ea : Lib.atoi (43 :: Lib.decDigits d.toNat) = some d := by
      show (if ((43 : UInt8) == 45) = true then ((Lib.decNat (Lib.decDigits d.toNat)).map fun (m : Nat) => -(m : Int)) else if ((43 : UInt8) == 43) = true then ((Lib.decNat (Lib.decDigits d.toNat)).map fun (m : Nat) => (m : Int)) else ((Lib.decNat (43 :: Lib.decDigits d.toNat)).map fun (m : Nat) => (m : Int))) = _
      rw [if_neg (by decide), if_pos (by decide), decNat_dec]
      show some (((d.toNat : Nat) : Int)) = _
      rw [Int.toNat_of_nonneg (by omega)]
    rw [ea]; rfl
/-- the program's levels of words -/
def lvA : List Int → Int → List (List UInt8) → Option (List Int)
  | acc, _, [] => some acc
  | acc, v, w :: r => match Lib.atoiAll w with
    | .ok d => if 0 ≤ v + d ∧ v + d ≤ 10000 then lvA (acc ++ [v + d]) (v + d) r else none
    | _ => none
theorem lvA_ok {acc : List Int} {v d : Int} {w : List UInt8} {r : List (List UInt8)} (h : Lib.atoiAll w = .ok d) (h2 : 0 ≤ v + d ∧ v + d ≤ 10000) : lvA acc v (w :: r) = lvA (acc ++ [v + d]) (v + d) r := by
  conv => lhs; unfold lvA
  rw [h]
  show (if _ then _ else _) = _
  rw [if_pos h2]
theorem lvA_out {acc : List Int} {v d : Int} {w : List UInt8} {r : List (List UInt8)} (h : Lib.atoiAll w = .ok d) (h2 : ¬ (0 ≤ v + d ∧ v + d ≤ 10000)) : lvA acc v (w :: r) = none := by
  unfold lvA
  rw [h]
  show (if _ then _ else _) = _
  rw [if_neg h2]
theorem lvA_bad {acc : List Int} {v : Int} {w : List UInt8} {r : List (List UInt8)} (h : ∀ d, Lib.atoiAll w ≠ .ok d) : lvA acc v (w :: r) = none := by
  unfold lvA
  split
  · rename_i d hd; exact absurd hd (h d)
  · rfl
def parGW (ws : List (List UInt8)) : Gau := if ws.length < 3 ∨ 26 < ws.length then gau0 else match lvA [] 0 (ws.drop 2) with
  | some l => ⟨numP (nth ws 0), numP (nth ws 1), l, none, 0, 0, 0⟩
  | none => gau0
def parGL (s : List UInt8) : Gau := parGW (pcs 32 s).dropLast
theorem parGW_some {ws : List (List UInt8)} {l : List Int} (h : ¬ (ws.length < 3 ∨ 26 < ws.length)) (h2 : lvA [] 0 (ws.drop 2) = some l) : parGW ws = ⟨numP (nth ws 0), numP (nth ws 1), l, none, 0, 0, 0⟩ := by unfold parGW; rw [if_neg h, h2]
theorem parGW_none {ws : List (List UInt8)} (h : ¬ (ws.length < 3 ∨ 26 < ws.length)) (h2 : lvA [] 0 (ws.drop 2) = none) : parGW ws = gau0 := by unfold parGW; rw [if_neg h, h2]
theorem lvA_dif : ∀ (r : List Int) (acc : List Int) (a : Int), (0 ≤ a ∧ a ≤ 10000) → (∀ n ∈ r, 0 ≤ n ∧ n ≤ 10000) → lvA acc a (difG a r) = some (acc ++ r)
  | [], acc, a, _, _ => by show some acc = _; rw [List.append_nil]
  | b :: r, acc, a, ha, hr => by
    have hb := hr b (List.mem_cons_self ..)
    have e : a + (b - a) = b := by omega
    show lvA acc a (dW (b - a) :: difG b r) = _
    rw [lvA_ok (atoi_dW (d := b - a) (by omega)) (by omega), e, lvA_dif r (acc ++ [b]) b hb (fun n hn => hr n (List.mem_cons_of_mem _ hn)), List.append_assoc]; rfl
/-- the reference's levels of words -/
def stR (w : List UInt8) : Int := (if nth w 0 = 45 then -1 else 1) * digV 6 0 (w.drop 1)
/-! round trips -/
theorem itoa_free {n : Int} (h : 0 ≤ n) : (32 : UInt8) ∉ Lib.itoa n := by rw [itoa_dec h]; exact decD_free (by decide)
theorem dW_free (d : Int) : (32 : UInt8) ∉ dW d := by
  unfold dW
  by_cases q : d < 0
  · rw [if_pos q, itoa_minus q]
    intro h
    rcases List.mem_cons.1 h with h | h
    · exact absurd h (by decide)
    · exact decD_free (by decide) h
  · rw [if_neg q, itoa_dec (by omega)]
    intro h
    rcases List.mem_cons.1 h with h | h
    · exact absurd h (by decide)
    · exact decD_free (by decide) h
theorem difG_free : ∀ (r : List Int) (a : Int), ∀ w ∈ difG a r, (32 : UInt8) ∉ w
  | [], _, w, h => by cases h
  | b :: r, a, w, h => by
    rcases List.mem_cons.1 (show w ∈ dW (b - a) :: difG b r from h) with h | h
    · rw [h]; exact dW_free _
    · exact difG_free r b w h
theorem wrdG_free {x : Gau} (h : okGau x = true) : ∀ w ∈ wrdG x, (32 : UInt8) ∉ w := by
  obtain ⟨h1, h2, ⟨h3, h4⟩, h5⟩ := okGau_iff h
  have h0 := h5 _ (nth_mem (xs := x.s) (i := 0) (by omega))
  intro w hw
  unfold wrdG at hw
  rcases List.mem_append.1 hw with hw | hw
  · rcases List.mem_cons.1 hw with hw | hw
    · rw [hw]; exact itoa_free h1.1
    rcases List.mem_cons.1 hw with hw | hw
    · rw [hw]; exact itoa_free h2.1
    · rw [List.mem_singleton.1 hw]; exact itoa_free h0.1
  · exact difG_free _ _ w hw
theorem lineG_words {x : Gau} {s : List UInt8} (h : okGau x = true) (hb : gauP x = s ++ [10]) : (pcs 32 s).dropLast = wrdG x := by
  have e : sealP (Lib.join (wrdG x) [32] ++ [32]) = s ++ [10] := hb
  obtain ⟨a, b, ha, hb, hs⟩ := sealP_cut e
  have hj : s = Lib.join (wrdG x ++ [[a, b]]) [32] := by
    rw [join_snoc _ _ _ (by simp [wrdG])]; exact hs
  have hp : pcs 32 s = wrdG x ++ [[a, b]] := by
    rw [hj]
    refine pcs_join 32 _ (by simp) fun w hw => ?_
    rcases List.mem_append.1 hw with hw | hw
    · exact wrdG_free h w hw
    · rw [List.mem_singleton.1 hw]
      intro h9
      rcases List.mem_cons.1 h9 with h9 | h9
      · exact ha h9.symm
      · exact hb (List.mem_singleton.1 h9).symm
  rw [hp, List.dropLast_concat]
theorem lv_split {l : List Int} (h : 0 < l.length) : [nth l 0] ++ l.drop 1 = l := by
  cases l with
  | nil => cases h
  | cons a r => rfl
theorem parGL_line {x : Gau} {s : List UInt8} (h : okGau x = true) (hb : gauP x = s ++ [10]) : parGL s = x.bare := by
  obtain ⟨h1, h2, ⟨h3, h4⟩, h5⟩ := okGau_iff h
  have h0 := h5 _ (nth_mem (xs := x.s) (i := 0) (by omega))
  have hl : (wrdG x).length = x.s.length + 2 := by
    unfold wrdG
    rw [List.length_append, difG_len, List.length_drop]
    simp only [List.length_cons, List.length_nil]; omega
  have hd : (wrdG x).drop 2 = Lib.itoa (nth x.s 0) :: difG (nth x.s 0) (x.s.drop 1) := rfl
  have ha : Lib.atoiAll (Lib.itoa (nth x.s 0)) = .ok (nth x.s 0) := by
    have := atoi_dec (n := (nth x.s 0).toNat) (by omega)
    rw [Int.toNat_of_nonneg h0.1] at this
    rw [itoa_dec h0.1]; exact this
  have hv : lvA [] 0 ((wrdG x).drop 2) = some x.s := by
    rw [hd, lvA_ok ha (by omega), Int.zero_add, List.nil_append, lvA_dif _ _ _ h0 (fun n hn => h5 n (List.mem_of_mem_drop hn)), lv_split (by omega)]
  unfold parGL
  rw [lineG_words h hb, parGW_some (by rw [hl]; omega) hv]
  have e0 : nth (wrdG x) 0 = Lib.itoa x.st := rfl
  have e1 : nth (wrdG x) 1 = Lib.itoa x.hr := rfl
  rw [e0, e1, num_itoa (by omega), num_itoa (by omega)]; rfl
/-! ### gauge files, read -/
def lineG (p : List UInt8 → Gau) (s : List UInt8) : Gau × Int := if chkdP s ≠ 0 then (gau0, chkdP s) else if okGau (p s) = true ∧ gauP (p s) = s ++ [10] then (p s, 0) else (gau0, 4)
def goG (L : List UInt8 → Gau × Int) : List Gau → List (List UInt8) → List Gau × Int × Int
  | acc, [] => (acc, 0, 0)
  | acc, s :: r => if (L s).2 ≠ 0 then ([], acc.length, (L s).2) else if 0 < acc.length ∧ ¬ aftG (nth acc (acc.length - 1)) (L s).1 then ([], acc.length, 6) else goG L (acc ++ [(L s).1]) r
def readG (L : List UInt8 → Gau × Int) (s : List UInt8) : List Gau × Int × Int := if (linesR s).2 ≠ 0 then ([], 0, (linesR s).2) else goG L [] (linesR s).1
theorem goG_bad {L : List UInt8 → Gau × Int} {acc : List Gau} {s : List UInt8} {r : List (List UInt8)} (h : (L s).2 ≠ 0) : goG L acc (s :: r) = ([], (acc.length : Int), (L s).2) := by
  show (if _ then _ else _) = _
  rw [if_pos h]
theorem goG_twice {L : List UInt8 → Gau × Int} {acc : List Gau} {s : List UInt8} {r : List (List UInt8)} (h : (L s).2 = 0) (h2 : 0 < acc.length ∧ ¬ aftG (nth acc (acc.length - 1)) (L s).1) : goG L acc (s :: r) = ([], (acc.length : Int), 6) := by
  show (if _ then _ else _) = _
  rw [if_neg (by rw [h]; decide), if_pos h2]
theorem goG_next {L : List UInt8 → Gau × Int} {acc : List Gau} {s : List UInt8} {r : List (List UInt8)} (h : (L s).2 = 0) (h2 : ¬ (0 < acc.length ∧ ¬ aftG (nth acc (acc.length - 1)) (L s).1)) : goG L acc (s :: r) = goG L (acc ++ [(L s).1]) r := by
  conv => lhs; unfold goG
  rw [if_neg (by rw [h]; decide), if_neg h2]
/-! ### gauge files, written -/
def aftO : Option Gau → Gau → Prop
  | none, _ => True
  | some q, x => aftG q x
instance (p : Option Gau) (x : Gau) : Decidable (aftO p x) := by cases p <;> unfold aftO <;> infer_instance
def chkGa : Option Gau → List Gau → Int
  | _, [] => 0
  | p, x :: r => if okGau x = true then (if aftO p x then chkGa (some x) r else 6) else 2
def prvG (l : List Gau) (i : Nat) : Option Gau := if i = 0 then none else some (nth l (i - 1))
def textG (l : List Gau) : List UInt8 × Int := if 200 < l.length then ([], 5) else if chkGa none l = 0 then (l.flatMap gauP, 0) else ([], chkGa none l)
theorem chkGa_ok {p : Option Gau} {x : Gau} {r : List Gau} (h1 : okGau x = true) (h2 : aftO p x) : chkGa p (x :: r) = chkGa (some x) r := by
  show (if okGau x = true then _ else _) = _
  rw [if_pos h1, if_pos h2]
theorem dW_len {d : Int} (h : -10000 ≤ d ∧ d ≤ 10000) : (dW d).length ≤ 7 := by
  unfold dW
  by_cases q : d < 0
  · have := decD_len 5 (-d).toNat (by omega)
    rw [if_pos q, itoa_minus q, List.length_cons]; omega
  · have := decD_len 5 d.toNat (by omega)
    rw [if_neg q, itoa_dec (by omega), List.length_cons]; omega
theorem difG_wlen : ∀ (r : List Int) (a : Int), (0 ≤ a ∧ a ≤ 10000) → (∀ n ∈ r, 0 ≤ n ∧ n ≤ 10000) → ∀ w ∈ difG a r, w.length ≤ 7
  | [], _, _, _, w, h => by cases h
  | b :: r, a, ha, hr, w, h => by
    have hb := hr b (List.mem_cons_self ..)
    rcases List.mem_cons.1 (show w ∈ dW (b - a) :: difG b r from h) with h | h
    · rw [h]; exact dW_len (by omega)
    · exact difG_wlen r b hb (fun n hn => hr n (List.mem_cons_of_mem _ hn)) w h
theorem wrdG_len {x : Gau} (h : okGau x = true) : (wrdG x).length = x.s.length + 2 ∧ (Lib.join (wrdG x) [32]).length ≤ 300 := by
  obtain ⟨h1, h2, ⟨h3, h4⟩, h5⟩ := okGau_iff h
  have h0 := h5 _ (nth_mem (xs := x.s) (i := 0) (by omega))
  have hl : (wrdG x).length = x.s.length + 2 := by
    unfold wrdG
    rw [List.length_append, difG_len, List.length_drop]
    simp only [List.length_cons, List.length_nil]; omega
  refine ⟨hl, ?_⟩
  have hw : ∀ w ∈ wrdG x, w.length ≤ 7 := fun w hw => by
    unfold wrdG at hw
    have hi : ∀ n : Int, 0 ≤ n → n ≤ 100000 → (Lib.itoa n).length ≤ 7 := fun n a b => by
      have := decD_len 5 n.toNat (by omega)
      rw [itoa_dec a]; omega
    rcases List.mem_append.1 hw with hw | hw
    · rcases List.mem_cons.1 hw with hw | hw
      · rw [hw]; exact hi _ (by omega) (by omega)
      rcases List.mem_cons.1 hw with hw | hw
      · rw [hw]; exact hi _ (by omega) (by omega)
      · rw [List.mem_singleton.1 hw]; exact hi _ (by omega) (by omega)
    · exact difG_wlen _ _ h0 (fun n hn => h5 n (List.mem_of_mem_drop hn)) w hw
  have h9 := join_len [32] 7 (wrdG x) hw
  rw [hl] at h9
  have h8 : (x.s.length + 2) * (7 + 1) ≤ 26 * 8 := Nat.mul_le_mul_right _ (by omega)
  have h7 : ([32] : List UInt8).length = 1 := rfl
  rw [h7] at h9
  omega
theorem gauP_le {x : Gau} (h : okGau x = true) : (gauP x).length ≤ 304 := by
  have h1 := (wrdG_len h).2
  unfold gauP sealedP
  rw [sealP_len, List.length_append]
  simp only [List.length_cons, List.length_nil]
  omega
/-- the first words of a gauge line -/
def wlG (x : Gau) (i : Nat) : List (List UInt8) := [Lib.itoa x.st, Lib.itoa x.hr, Lib.itoa (nth x.s 0)] ++ difG (nth x.s 0) ((x.s.drop 1).take i)
theorem wlG_next {x : Gau} {i : Nat} (h : i + 1 < x.s.length) : wlG x (i + 1) = wlG x i ++ [dW (nth x.s (i + 1) - nth x.s i)] := by
  unfold wlG
  rw [difG_next h, ← List.append_assoc]
theorem wlG_end {x : Gau} {i : Nat} (h : x.s.length ≤ i + 1) : wlG x i = wrdG x := by
  unfold wlG wrdG
  rw [List.take_of_length_le (by rw [List.length_drop]; omega)]
theorem wlG_len (x : Gau) (i : Nat) : (wlG x i).length ≤ 3 + i := by
  unfold wlG
  rw [List.length_append, difG_len, List.length_take]
  simp only [List.length_cons, List.length_nil]; omega
theorem itoa_sign {d : Int} (h : d < 0) : nth (Lib.itoa d) 0 = 45 ∧ 0 < (Lib.itoa d).length := by
  rw [itoa_minus h]; exact ⟨rfl, Nat.succ_pos _⟩
theorem itoa_nosign {d : Int} (h : 0 ≤ d) : nth (Lib.itoa d) 0 ≠ 45 ∧ 0 < (Lib.itoa d).length := by
  rw [itoa_dec h]
  have hp := decD_pos d.toNat
  refine ⟨fun e => ?_, hp⟩
  have h9 := decD_dg d.toNat _ (nth_mem hp)
  rw [e] at h9
  revert h9; decide
theorem itoa_first {d : Int} : ((nth (Lib.itoa d) 0).toNat ≠ 45 ↔ 0 ≤ d) ∧ 0 < (Lib.itoa d).length := by
  by_cases q : d < 0
  · refine ⟨⟨fun h => ?_, fun h => by omega⟩, (itoa_sign q).2⟩
    rw [(itoa_sign q).1] at h; exact absurd rfl h
  · refine ⟨⟨fun _ => by omega, fun _ h => ?_⟩, (itoa_nosign (by omega)).2⟩
    exact (itoa_nosign (d := d) (by omega)).1 (UInt8.toNat_inj.1 h)

end Go.Proofs.YtjdcpnaocjddoaaGreatDoor
namespace Go.Proofs.YtjdcpnaocjddoaaGreatDoor
open Go Go.RowKit Go.Proofs.Tryz
theorem isGauge_c (x : Gau) (w0 : World) (hs : Sl encI 1 w0 x.ao x.g x.ob x.s) (_hcp : x.s.length ≤ x.cp) (hsl : x.s.length ≤ 17592186044416) :
    CallsV Tryz.prog 128 [.agg #[.int .i64 x.st, .int .i64 x.hr, .slice x.ao x.s.length x.cp]] w0 (fun v w' => v = .bool (okGau x) ∧ Ext w0 w') := by
 refine f_n func128 ?_
 refine go ?_
 refine x_b fun bk2 w3 ebk2 sbk2 B4 u5 => ?_
 refine go ?_
 refine x_l fun bk8 w9 ebk8 sbk8 B10 u11 => ?_
 refine x_c func62 rfl rfl (within1_v 0 99 x.st bk8 _ _ B10) ?_
 rintro _ w14 ⟨rfl, u15⟩ zu15
 refine go ?_
 refine t_splitp 7 rfl (fun g7 => ?_) (fun g7 => ?_)
 ·
  refine go ?_
  refine x_l fun bk18 w19 ebk18 sbk18 B20 u21 => ?_
  refine x_c func62 rfl rfl (within1_v 0 100000 x.hr bk18 _ _ B20) ?_
  rintro _ w24 ⟨rfl, u25⟩ zu25
  refine go ?_
  refine t_splitp 13 rfl (fun g13 => ?_) (fun g13 => ?_)
  ·
   refine go ?_
   refine x_l fun bk28 w29 ebk28 sbk28 B30 u31 => ?_
   refine x_c func62 rfl rfl (within1_v 1 24 (x.s.length : Int) bk28 _ _ B30) ?_
   rintro _ w34 ⟨rfl, u35⟩ zu35
   refine go ?_
   refine t_splitp 20 rfl (fun g20 => ?_) (fun g20 => ?_)
   ·
    refine go ?_
    refine x_c func62 rfl rfl (within_c 0 10000 x.s x.ao x.g x.ob x.cp _ (hs.keep ((((((((Upd.refl (fun _ => False) w0).nx u5).nx u11).nx u15).nx u21).nx u25).nx u31).nx u35) (fun _ h => h)) (by omega)) ?_
    rintro _ w39 ⟨rfl, u40⟩ zu40
    refine go ?_
    refine f_1 results128 ?_
    exact ⟨congrArg Value.bool (by unfold okGau; first | exact (decide_eq_false (by omega)).symm | exact (decide_eq_false (fun h => by have h1 := h.1; have h2 := h.2.1; have h3 := h.2.2.1; omega)).symm | exact decide_eq_decide.2 ⟨fun h => ⟨by omega, by omega, by omega, h⟩, fun h => h.2.2.2⟩), u_d⟩
   refine go ?_
   refine f_1 results128 ?_
   exact ⟨congrArg Value.bool (by unfold okGau; first | exact (decide_eq_false (by omega)).symm | exact (decide_eq_false (fun h => by have h1 := h.1; have h2 := h.2.1; have h3 := h.2.2.1; omega)).symm | exact decide_eq_decide.2 ⟨fun h => ⟨by omega, by omega, by omega, h⟩, fun h => h.2.2.2⟩), u_d⟩
  refine go ?_
  refine f_1 results128 ?_
  exact ⟨congrArg Value.bool (by unfold okGau; first | exact (decide_eq_false (by omega)).symm | exact (decide_eq_false (fun h => by have h1 := h.1; have h2 := h.2.1; have h3 := h.2.2.1; omega)).symm | exact decide_eq_decide.2 ⟨fun h => ⟨by omega, by omega, by omega, h⟩, fun h => h.2.2.2⟩), u_d⟩
 refine go ?_
 refine f_1 results128 ?_
 exact ⟨congrArg Value.bool (by unfold okGau; first | exact (decide_eq_false (by omega)).symm | exact (decide_eq_false (fun h => by have h1 := h.1; have h2 := h.2.1; have h3 := h.2.2.1; omega)).symm | exact decide_eq_decide.2 ⟨fun h => ⟨by omega, by omega, by omega, h⟩, fun h => h.2.2.2⟩), u_d⟩

theorem gaugeAfter_c (x y : Gau) (w0 : World) (hx : okGau x = true) :
    CallsV Tryz.prog 129 [.agg #[.int .i64 x.st, .int .i64 x.hr, .slice x.ao x.s.length x.cp], .agg #[.int .i64 y.st, .int .i64 y.hr, .slice y.ao y.s.length y.cp]] w0 (fun v w' => v = .bool (decide (aftG x y)) ∧ Ext w0 w') := by
 have hx9 := okGau_iff hx
 obtain ⟨hx1, hx2, hx3, _⟩ := hx9
 refine f_n func129 ?_
 refine go ?_
 refine x_b fun bk2 w3 ebk2 sbk2 B4 u5 => ?_
 refine x_b fun bk7 w8 ebk7 sbk7 B9 u10 => ?_
 refine go ?_
 refine t_splitp 10 rfl (fun g10 => ?_) (fun g10 => ?_)
 ·
  refine go ?_
  refine f_1 results129 ?_
  exact ⟨congrArg Value.bool (by unfold aftG; first | exact (decide_eq_false (by omega)).symm | exact (decide_eq_true (by omega)).symm | exact decide_eq_decide.2 (by omega)), u_d⟩
 refine go ?_
 refine t_splitp 16 rfl (fun g16 => ?_) (fun g16 => ?_)
 ·
  refine go ?_
  refine f_1 results129 ?_
  exact ⟨congrArg Value.bool (by unfold aftG; first | exact (decide_eq_false (by omega)).symm | exact (decide_eq_true (by omega)).symm | exact decide_eq_decide.2 (by omega)), u_d⟩
 refine go ?_
 refine f_1 results129 ?_
 exact ⟨congrArg Value.bool (by unfold aftG; first | exact (decide_eq_false (by omega)).symm | exact (decide_eq_true (by omega)).symm | exact decide_eq_decide.2 (by omega)), u_d⟩

set_option maxHeartbeats 4000000 in
set_option maxRecDepth 20000 in
theorem gaugeLine_c (x : Gau) (w0 : World) (hs : Sl encI 1 w0 x.ao x.g x.ob x.s) (hcp : x.s.length ≤ x.cp) (hsl : x.s.length ≤ 17592186044416) (hok : okGau x = true) (hT : Tab10 w0) (_hpos : 0 < w0.heap.size) :
    CallsV Tryz.prog 130 [.agg #[.int .i64 x.st, .int .i64 x.hr, .slice x.ao x.s.length x.cp]] w0 (fun v w' => v = .string (strB (gauP x)) ∧ Ext w0 w') := by
 have hx9 := okGau_iff hok
 obtain ⟨hx1, hx2, hx3, hx4⟩ := hx9
 have hx0 := hx4 _ (nth_mem (xs := x.s) (i := 0) (by omega))
 have hblt := hs.lt (show 0 < x.s.length by omega)
 refine f_n func130 ?_
 refine go ?_
 refine x_b fun bk2 w3 ebk2 sbk2 B4 u5 => ?_
 refine go ?_
 refine c_drawnM follows (fun _ => False) (OTl [0, 2, 6, 8, 12, 14, 16, 18, 5, 11, 21, 23, 24]) (by kernel_rfl) fun w8 u9 => ?_
 have zu9 := u9.size
 have E10 := Sc.mk (((Upd.refl (fun _ => False) w0).nx u5).nx u9)
 refine go ?_
 refine y_i 0 (hs.keep E10.u (fun _ h => h)) (fun _ => ?_)
 refine go ?_
 refine x_c func145 rfl rfl (itoa_c x.st _ (by omega) (hT.ext E10.u)) ?_
 rintro _ w13 ⟨rfl, u14⟩ zu14
 have E16 := Sc.mk (E10.u.nx u14)
 refine go ?_
 refine x_c func145 rfl rfl (itoa_c x.hr _ (by omega) (hT.ext E16.u)) ?_
 rintro _ w18 ⟨rfl, u19⟩ zu19
 have E21 := Sc.mk (E16.u.nx u19)
 refine go ?_
 refine x_c func145 rfl rfl (itoa_c (nth x.s 0) _ (by omega) (hT.ext E21.u)) ?_
 rintro _ w23 ⟨rfl, u24⟩ zu24
 refine go ?_
 refine x_l fun bk27 w28 ebk27 sbk27 B29 u30 => ?_
 refine go ?_
 refine t_sliceFrom 1 underlying59 sizeOf3 rfl rfl rfl rfl rfl (by omega) (by omega) ?_
 refine go ?_
 refine x_l2 (fun i => i = bk27 ∨ w28.heap.size ≤ i) [1, 21, 22] (fun (i : Nat) (q : (Option Addr × Nat × Nat)) => [(3, .slice q.1 ((wlG x i).length) q.2.2), (23, .int .i64 (i : Int))]) (fun i q w => (i ≤ x.s.length - 1) ∧ (Acc encStr 1 9 w0.heap.size w q.1 q.2.1 q.2.2 (wlG x i)) ∧ (q.2.1 = bk27 ∨ w28.heap.size ≤ q.2.1)) (fun i q => x.s.length - 1 - i) 0 (some ⟨bk27, 0, none⟩, bk27, 3) ⟨(Nat.zero_le _), (Acc.ofBlk (base := w0.heap.size) (xs := wlG x 0) encStr 1 (fun _ => rfl) B29 (by omega) (by have h9 := wlG_len x 0; omega)), (.inl rfl)⟩ ?_
 rintro i q w35 ⟨hi, hA, hqW⟩ u36 zu36 K34 hK34
 have E37 := Sc.mk (((E21.u.nx u24).nx u30).next u36 (fun i hi h => by omega))
 have lt_q_2_1 := hA.lt
 have hwl := wlG_len x i
 have hdrl : (x.s.drop 1).length = x.s.length - 1 := List.length_drop
 refine go ?_
 refine q_p (fun g24 => ?_) fun g24 => ?_
 ·
  have hv1 := hx4 _ (nth_mem (xs := x.s) (i := i + 1) (by omega))
  have hv2 := hx4 _ (nth_mem (xs := x.s) (i := i) (by omega))
  obtain ⟨hfs, hfl⟩ := itoa_first (d := (nth x.s (i + 1) - nth x.s i))
  have hil := itoa_len (n := (nth x.s (i + 1) - nth x.s i)) (by omega)
  refine go ?_
  refine g_i i (by have h9 := ((hs.keep E37.u (fun _ h => h))).sub x.cp 1 (x.s.length - 1) hcp; rw [List.take_of_length_le (by rw [List.length_drop]; exact Nat.le_refl _)] at h9; exact h9) (fun _ => ?_)
  refine st1 ?_
  refine t_same 27 (v := .int .i64 (nth x.s (i + 1))) rfl (congrArg (Value.int .i64) (by rw [nth_drop, Nat.add_comm])) ?_
  refine go ?_
  refine g_i i (hs.keep E37.u (fun _ h => h)) (fun _ => ?_)
  refine go ?_
  refine x_c func145 rfl rfl (itoa_c ((nth x.s (i + 1)) - (nth x.s i)) _ (by omega) (hT.ext E37.u)) ?_
  rintro _ w46 ⟨rfl, u47⟩ zu47
  refine go ?_
  refine t_idxS 0 underlying9 rfl rfl rfl rfl rfl (by omega) ?_
  refine go ?_
  refine q_p (fun g38 => ?_) fun g38 => ?_
  ·
   have hd0 : 0 ≤ (nth x.s (i + 1) - nth x.s i) := hfs.1 (by omega)
   refine go ?_
   refine t_bo (Bo.addS (by simp only [List.length_cons, List.length_nil]; omega)) rfl rfl rfl rfl (t_same 40 (v := .string (strB (dW (nth x.s (i + 1) - nth x.s i)))) rfl (congrArg (fun z => Value.string (strB z)) (by unfold dW; rw [if_neg (by omega)]; rfl)) ?_)
   refine go ?_
   refine x_l fun bk52 w53 ebk52 sbk52 B54 u55 => ?_
   have D57 := ((hA.keep u47 (fun _ h => h)).keep u55 (fun _ h => h))
   refine t_append (z := .string (strB ([]))) (bytes := 16) (k := 1) (base := w0.heap.size) (dW (nth x.s (i + 1) - nth x.s i)) underlying105 (by kernel_rfl) rfl (by decide) (fun _ => rfl) (by intro x; simp [encStr, Value.oneCell']) rfl rfl rfl rfl D57 B54 (by omega) (by omega) (by decide) (fun ao58 gb59 cp60 w61 A62 u63 gegb59 lngb59 => ?_)
   have zu63 := u63.size
   have lt_gb59 := A62.lt
   refine go ?_
   exact hK34 (i + 1) (ao58, gb59, cp60) ⟨(by omega), (by rw [wlG_next (by omega)]; exact A62), (show gb59 = bk27 ∨ w28.heap.size ≤ gb59 by omega)⟩ (hs := by exact ⟨(congrArg some (by rw [wlG_next (by omega)])), rfl, rfl, rfl, rfl, trivial⟩)
  have hd0 : (nth x.s (i + 1) - nth x.s i) < 0 := by
    rcases Int.lt_or_le (nth x.s (i + 1) - nth x.s i) 0 with h | h
    · exact h
    · exact absurd (hfs.2 h) (by omega)
  refine c_same 6 (v := .string (strB (dW (nth x.s (i + 1) - nth x.s i)))) rfl (congrArg (fun z => Value.string (strB z)) (by unfold dW; rw [if_pos hd0])) ?_
  refine go ?_
  refine x_l fun bk65 w66 ebk65 sbk65 B67 u68 => ?_
  have D70 := ((hA.keep u47 (fun _ h => h)).keep u68 (fun _ h => h))
  refine t_append (z := .string (strB ([]))) (bytes := 16) (k := 1) (base := w0.heap.size) (dW (nth x.s (i + 1) - nth x.s i)) underlying105 (by kernel_rfl) rfl (by decide) (fun _ => rfl) (by intro x; simp [encStr, Value.oneCell']) rfl rfl rfl rfl D70 B67 (by omega) (by omega) (by decide) (fun ao71 gb72 cp73 w74 A75 u76 gegb72 lngb72 => ?_)
  have zu76 := u76.size
  have lt_gb72 := A75.lt
  refine go ?_
  exact hK34 (i + 1) (ao71, gb72, cp73) ⟨(by omega), (by rw [wlG_next (by omega)]; exact A75), (show gb72 = bk27 ∨ w28.heap.size ≤ gb72 by omega)⟩ (hs := by exact ⟨(congrArg some (by rw [wlG_next (by omega)])), rfl, rfl, rfl, rfl, trivial⟩)
 have hend := wlG_end (x := x) (i := i) (by omega)
 have hjl := wrdG_len hok
 refine go ?_
 refine x_c func146 rfl rfl (by have h9 := sealed_c (wlG x i) q.1 q.2.1 0 q.2.2 w35 (hA.sl (fun _ => rfl)) (hA).cap_le (by omega) (by rw [hend]; omega); rw [hend] at h9 ⊢; exact h9) ?_
 rintro _ w80 ⟨rfl, u81⟩ zu81
 refine go ?_
 refine f_1 results130 ?_
 exact ⟨rfl, u_d⟩

end Go.Proofs.YtjdcpnaocjddoaaGreatDoor
