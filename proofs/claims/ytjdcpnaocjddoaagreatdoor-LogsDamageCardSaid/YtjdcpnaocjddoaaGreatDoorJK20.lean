/-
  Part 20 of the proof: contracts and plain laws. Conditions: none.
-/
import Derived.Test.YtjdcpnaocjddoaaGreatDoorJK19
namespace Go.Proofs.YtjdcpnaocjddoaaGreatDoor
open Go Go.RowKit Go.Proofs.Tryz
end Go.Proofs.YtjdcpnaocjddoaaGreatDoor
namespace Go.Proofs.YtjdcpnaocjddoaaGreatDoor
open Go Go.RowKit Go.Proofs.Tryz
theorem WriteV_c (l : List Ent) (al : Option Addr) (bl ol cl : Nat) (w0 : World) (hl : Sl encEnt 6 w0 al bl ol l) (hll : l.length ≤ 1000000000) (hpos : 0 < w0.heap.size) :
    CallsV Tryz.prog 15 [.slice al l.length cl] w0 fun v w' => (∃ (u : List Bk) (a9 : Option Addr) (g9 c9 : Nat), v = .tuple #[.slice a9 (bytesP u).length c9, .int .i64 (chkE l)] ∧ Acc encY 1 5 w0.heap.size w' a9 g9 c9 (bytesP u) ∧ u = if chkE l = 0 then writeP l else []) ∧ Ext w0 w' :=
  CallsV.mono (WriteLog_c l al bl ol cl w0 hl hll hpos) (by
    rintro v w' ⟨⟨a, g, c, rfl, h⟩, u⟩
    have e : logP l = bytesP (if chkE l = 0 then writeP l else []) := by
      unfold logP
      split <;> rfl
    rw [e] at h ⊢
    exact ⟨⟨_, a, g, c, rfl, h, rfl⟩, u⟩)
end Go.Proofs.YtjdcpnaocjddoaaGreatDoor
namespace Go.Proofs.YtjdcpnaocjddoaaGreatDoor
open Go Go.RowKit Go.Proofs.Tryz
section
variable {rd : Option Nat} {P : Program} {ops : Array Oper} {Q : Exit → Act → World → Prop} {N : Nat} {ds : List Deferred} {rest : List Oper} {L : Slots} {w : World}
variable {d : Nat} {ty : TypeId} {pos : String} {aft : Array Edge} {g : Option (Nat × Bool)}
/-- append of a whole slice, as long as memory can hold -/
theorem t_appendAllW {α : Type} [Inhabited α] {enc : α → List Value} {k : Nat} {t e : TypeId} {z : Value} {bytes base : Nat} {s x : Operand} {ao ay : Option Addr} {gb cap b o c : Nat} {xs ys : List α}
    (hu : P.underlying t = some (.slice e)) (hi : (P.info? e).map (fun i => (i.zero, i.size, i.bytes)) = some (some z, k, bytes)) (hz : z.cells.size = k) (hk0 : 0 < k) (hk : ∀ x, (enc x).length = k) (h1 : ∀ x, ∀ u ∈ enc x, u.oneCell' = true)
    (hg : grd ops L g = true) (hN : Nat.blt d N = true) (hs : ev L s = some (.slice ao xs.length cap)) (hx : ev L x = some (.slice ay ys.length c))
    (ha : Acc enc k e base w ao gb cap xs) (hb : Sl enc k w ay b o ys) (hbase : base ≤ w.heap.size) (hlen2 : xs.length + ys.length ≤ 17592186044416) (hbytes : bytes ≤ 8)
    (h : ∀ ao' g' cap' w', Acc enc k e base w' ao' g' cap' (xs ++ ys) → Upd (fun i => i = gb ∧ base ≤ i) w w' → (g' = gb ∨ w.heap.size ≤ g') → (xs ++ ys).length = xs.length + ys.length → WL rd P ops Q N ds rest ((d, .slice ao' (xs ++ ys).length cap') :: L) w') :
    WL rd P ops Q N ds (⟨some d, .call ⟨.builtin .append, #[s, x], #[t, t]⟩, ty, pos, aft, g⟩ :: rest) L w := by
  obtain ⟨i, hi0, hi1, hi2, hi3⟩ := info_parts' hi
  have hlen' : (xs ++ ys).length = xs.length + ys.length := by simp
  rcases Nat.eq_zero_or_pos ys.length with h0 | h0
  · have : ys = [] := List.eq_nil_of_length_eq_zero h0
    subst this
    have hle := ha.cap_le
    have hr : (Builtin.append_ #[t, t] ty #[.slice ao xs.length cap, .slice ay ([] : List α).length c]).run P w = .ok (.slice ao xs.length cap) w := by
      cases ao <;> cases ay <;> simp [Builtin.append_, run_underlying hu, sizeOf, typeInfo, hi0, Builtin.lenOf, Builtin.firstCells, loadCells, loadCellsFrom, storeCells, hle]
    have hacc : Acc enc k e base w ao gb cap (xs ++ []) := by simpa using ha
    have := h ao gb cap w hacc (Upd.refl _ _) (.inl rfl) hlen'
    rw [show (xs ++ ([] : List α)).length = xs.length from by simp] at this
    exact WL.value hg rfl hN (fun a hk' => by
      have hx' : a.eval x = .slice ay 0 c := hk'.ev hx
      have hr' : (Builtin.append_ #[t, t] ty #[.slice ao xs.length cap, .slice ay 0 c]).run P w = .ok (.slice ao xs.length cap) w := hr
      simp only [execOp, resolve, invoke, builtin]
      simp [hk'.ev hs, hx', hr']) this
  · have hay := hb.addr h0
    subst hay
    obtain ⟨gg, cc, w', hr, hown, hgrow, hgeq⟩ := run_append_lies (P := P) (w := w) t ty base e i z k bytes hu hi0 hi1 hi2 hi3 hz hk0 (.slice ao xs.length cap) xs.length (xs.flatMap enc) (ha.owns hk)
      ⟨b, o, none⟩ ys.length c (ys.flatMap enc) (flatMap_len hk ys) (sl_cells hk0 hk hb) (fun u hu => by
        obtain ⟨y, _, hy⟩ := List.mem_flatMap.1 hu
        exact h1 y u hy) h0 (by unfold maxLen; omega) (by
        have : (xs.length + ys.length) * bytes ≤ 17592186044416 * 8 := Nat.mul_le_mul (by omega) hbytes
        omega) hbase _ rfl
    have hacc : Acc enc k e base w' (some ⟨gg, 0, none⟩) gg cc (xs ++ ys) := by
      obtain ⟨hl, hown⟩ := hown
      rcases hown with ⟨hq, _⟩ | ⟨g2, cap2, cur, he, hbg, hh, hc1, hc2, hc3, hc4⟩
      · cases hq
      · cases he
        refine ⟨?_, .inr ⟨rfl, hbg, cur, hh, by rw [hlen']; exact hc1, hc2, hc3, ?_⟩⟩
        · rcases Nat.lt_or_ge gg w'.heap.size with h | h
          · exact h
          · rw [Array.getElem?_eq_none h] at hh; cases hh
        · rw [hlen']; simpa using hc4
    have hupd : Upd (fun i => i = gb ∧ base ≤ i) w w' := ⟨hgrow.os, hgrow.tape, hgrow.output, hgrow.size, fun q hq hn => hgrow.block q hq (fun he => by
      rcases ha.at_ with ⟨h1, _, _, _⟩ | ⟨h1, h2, _⟩
      · subst h1; cases he
      · subst h1; simp [Value.ownBlock] at he; exact hn ⟨he, by omega⟩)⟩
    have hge : gg = gb ∨ w.heap.size ≤ gg := by
      rcases hgeq with h | h
      · left
        rcases ha.at_ with ⟨h1, _, _, _⟩ | ⟨h1, h2, _⟩
        · subst h1; simp [Value.ownBlock] at h
        · subst h1; simp [Value.ownBlock] at h; omega
      · right; omega
    have := h _ _ _ w' hacc hupd hge hlen'
    rw [hlen'] at this
    refine WL.value hg rfl hN (fun a hk' => ?_) this
    simp only [execOp, resolve, invoke, builtin]
    simp [hk'.ev hs, hk'.ev hx, hr]
theorem t_copyW {α : Type} [Inhabited α] {enc : α → List Value} {k : Nat} {t e : TypeId} {z : Value} {bytes bk : Nat} {s x : Operand} {ay : Option Addr} {b o c : Nat} {ys : List α}
    (hu : P.underlying t = some (.slice e)) (hi : (P.info? e).map (fun i => (i.zero, i.size, i.bytes)) = some (some z, k, bytes)) (hz : z.cells.size = k) (hk0 : 0 < k) (hk : ∀ x, (enc x).length = k) (h1 : ∀ x, ∀ u ∈ enc x, u.oneCell' = true)
    (hg : grd ops L g = true) (hN : Nat.blt d N = true) (hs : ev L s = some (.slice (some ⟨bk, 0, none⟩) 0 0)) (hx : ev L x = some (.slice ay ys.length c))
    (hB : Blk w bk e []) (hb : Sl enc k w ay b o ys) (hlen2 : ys.length ≤ 17592186044416) (hbytes : bytes ≤ 8)
    (h : ∀ ao' g' cap' w', Acc enc k e bk w' ao' g' cap' ys → Upd (fun i => i = bk ∧ bk ≤ i) w w' → bk ≤ g' → WL rd P ops Q N ds rest ((d, .slice ao' ys.length cap') :: L) w') :
    WL rd P ops Q N ds (⟨some d, .call ⟨.builtin .append, #[s, x], #[t, t]⟩, ty, pos, aft, g⟩ :: rest) L w :=
  have hl := hB.lt
  t_appendAllW (xs := ([] : List α)) (gb := bk) (cap := 0) (base := bk) hu hi hz hk0 hk h1 hg hN hs hx (Acc.lit enc k hB (Nat.le_refl _)) hb (Nat.le_of_lt hl) (by simpa using hlen2) hbytes
    fun ao' g' cap' w' ha hu' hg' _ => h ao' g' cap' w' ha hu' (by omega)
end
theorem Acc.lowH {α : Type} {enc : α → List Value} {k : Nat} {e : TypeId} {base base' : Nat} {w : World} {ao : Option Addr} {g cap : Nat} {xs : List α} (h : Acc enc k e base w ao g cap xs) (hb : base' ≤ base) (h0 : 0 < base') : ∃ g', Acc enc k e base' w ao g' cap xs ∧ (base' ≤ g' → base ≤ g') := by
  rcases h.at_ with ⟨h1, h2, h3, h4⟩ | ⟨h1, h2, h3⟩
  · exact ⟨0, ⟨Nat.lt_of_le_of_lt (Nat.zero_le _) h.lt, .inl ⟨h1, h2, h3, h0⟩⟩, fun q => absurd q (by omega)⟩
  · exact ⟨g, ⟨h.lt, .inr ⟨h1, by omega, h3⟩⟩, fun _ => h2⟩
def SlB (W : World) (ys : List Bil) : Prop := ∀ z ∈ ys, Sl encI 1 W z.ao z.g z.ob z.s ∧ z.s.length ≤ 17592186044416
theorem BilsM.slB {B : Nat} {W : World} {ys : List Bil} (h : BilsM B W ys) : SlB W ys := fun z hz => by
  obtain ⟨h1, h2, h3⟩ := h z hz
  refine ⟨?_, h2⟩
  rw [h1]; exact h3.sl (fun _ => rfl)
theorem SlB.ext {W W' : World} {ys : List Bil} (h : SlB W ys) (u : Ext W W') : SlB W' ys := fun z hz => ⟨(h z hz).1.keep u (fun _ h => h), (h z hz).2⟩
theorem ints_c (xs : List Int) (aa : Option Addr) (ba oa ca : Nat) (w0 : World) (hs : Sl encI 1 w0 aa ba oa xs) (hxl : xs.length ≤ 17592186044416) (hpos : 0 < w0.heap.size) :
    CallsV Tryz.prog 77 [.slice aa xs.length ca] w0 (fun v w' => (∃ a9 g9 c9, v = .slice a9 (List.length xs) c9 ∧ Acc encI 1 3 w0.heap.size w' a9 g9 c9 xs) ∧ Ext w0 w') := by
 refine f_n func77 ?_
 refine go ?_
 refine x_l fun bk3 w4 ebk3 sbk3 B5 u6 => ?_
 refine go ?_
 refine t_copyW (enc := encI) (z := .int .i64 0) (bytes := 8) (k := 1) (ys := xs) underlying59 (by kernel_rfl) rfl (by decide) (fun _ => rfl) (by intro x; simp [encI, Value.oneCell']) rfl rfl rfl rfl B5 (hs.keep ((Upd.refl (fun _ => False) w0).nx u6) (fun _ h => h)) (by omega) (by decide) (fun ao8 gb9 cp10 w11 A12 u13 gegb9 => ?_)
 have zu13 := u13.size
 have lt_gb9 := A12.lt
 refine go ?_
 refine f_1 results77 ?_
 obtain ⟨g9, h9⟩ := Acc.lower (base' := w0.heap.size) A12 (by omega) hpos
 exact ⟨⟨_, g9, _, rfl, h9⟩, u_d⟩

set_option maxHeartbeats 4000000 in
theorem bcopy_c (l : List Bil) (al : Option Addr) (bl ol cl : Nat) (w0 : World) (hl : Sl encBil 6 w0 al bl ol l) (hll : l.length ≤ 1000000) (hss : SlB w0 l) (hpos : 0 < w0.heap.size) :
    CallsV Tryz.prog 37 [.slice al l.length cl] w0 (fun v w' => (∃ ys a9 g9 c9, v = .slice a9 (List.length ys) c9 ∧ ys.map Bil.bare = l.map Bil.bare ∧ Acc encBil 6 71 w0.heap.size w' a9 g9 c9 ys ∧ BilsM w0.heap.size w' ys) ∧ Ext w0 w') := by
 refine f_n func37 ?_
 refine go ?_
 refine x_l fun bk3 w4 ebk3 sbk3 B5 u6 => ?_
 refine go ?_
 refine x_l2 (fun i => i = bk3 ∨ w4.heap.size ≤ i) [0] (fun (ys : List Bil) (q : (Option Addr × Nat × Nat)) => [(3, .slice q.1 ys.length q.2.2), (4, .int .i64 (ys.length : Int))]) (fun ys q w => (ys.length ≤ l.length) ∧ (Acc encBil 6 71 w0.heap.size w q.1 q.2.1 q.2.2 ys) ∧ (q.2.1 = bk3 ∨ w4.heap.size ≤ q.2.1) ∧ (BilsM w0.heap.size w ys) ∧ (ys.map Bil.bare = (l.take ys.length).map Bil.bare)) (fun ys q => l.length - ys.length) ([]) (some ⟨bk3, 0, none⟩, bk3, 0) ⟨(Nat.zero_le _), (Acc.ofBlk (base := w0.heap.size) (xs := ([] : List Bil)) encBil 6 (fun _ => rfl) B5 (by omega) (by decide)), (.inl rfl), (BilsM.nil _ _), rfl⟩ ?_
 rintro ys q w11 ⟨hyl, hA, hqW, hM, hcy⟩ u12 zu12 K10 hK10
 have E13 := Sc.mk (((Upd.refl (fun _ => False) w0).nx u6).next u12 (fun i hi h => by omega))
 have lt_q_2_1 := hA.lt
 have hMne := hM.ne hA
 refine go ?_
 refine q_p (fun g10 => ?_) fun g10 => ?_
 ·
  obtain ⟨hsx9, hxs9⟩ := hss _ (nth_mem (xs := l) (i := ys.length) (by omega))
  refine go ?_
  refine g_i ys.length (hl.keep E13.u (fun _ h => h)) (fun _ => ?_)
  refine go ?_
  refine x_n fun bk19 w20 ebk19 sbk19 B21 u22 => ?_
  refine x_s fun w24 sw24 B26 u25 => ?_
  refine go ?_
  refine x_c func77 rfl rfl (ints_c (nth l ys.length).s (nth l ys.length).ao (nth l ys.length).g (nth l ys.length).ob (nth l ys.length).cp _ (hsx9.keep ((E13.u.nx u22).next u25 (fun i hi h => by omega)) (fun _ h => h)) hxs9 (by omega)) ?_
  rintro _ w30 ⟨⟨ai, gi9, ci, rfl, haci⟩, u31⟩ zu31
  have D34 := (((hA.keep u22 (fun _ h => h)).keep u25 (fun hb => show ¬ (q.2.1 = bk19) by first | omega | assumption)).keep u31 (fun _ h => h))
  obtain ⟨gi, hac, hgiw⟩ := Acc.lowH (base' := w0.heap.size) haci (by omega) hpos
  have hgi : gi < w30.heap.size := hac.lt
  have hgq : w0.heap.size ≤ gi → gi ≠ q.2.1 := fun hb => (BilsM.snoc (BilsM.nil w0.heap.size _) (y := (⟨(nth l ys.length).n, (nth l ys.length).c, (nth l ys.length).t, (nth l ys.length).f, (nth l ys.length).o, (nth l ys.length).s, ai, gi, 0, ci⟩ : Bil)) rfl hxs9 hac).ne D34 (⟨(nth l ys.length).n, (nth l ys.length).c, (nth l ys.length).t, (nth l ys.length).f, (nth l ys.length).o, (nth l ys.length).s, ai, gi, 0, ci⟩ : Bil) (by simp) hb
  have lt_gi := hac.lt
  refine go ?_
  refine x_s fun w35 sw35 B37 u36 => ?_
  refine go ?_
  refine x_l fun bk39 w40 ebk39 sbk39 B41 u42 => ?_
  have D44 := ((D34.keep u36 (fun hb => show ¬ (q.2.1 = bk19) by first | omega | assumption)).keep u42 (fun _ h => h))
  refine t_append (z := .agg #[.int .i64 0, .int .i64 0, .int .i64 0, .int .i64 0, .int .i64 0, .slice none 0 0]) (bytes := 64) (k := 6) (base := w0.heap.size) (⟨(nth l ys.length).n, (nth l ys.length).c, (nth l ys.length).t, (nth l ys.length).f, (nth l ys.length).o, (nth l ys.length).s, ai, gi, 0, ci⟩ : Bil) underlying69 (by kernel_rfl) rfl (by decide) (fun _ => rfl) (by intro x; simp [encBil, Value.oneCell']) rfl rfl rfl rfl D44 B41 (by omega) (by omega) (by decide) (fun ao45 gb46 cp47 w48 A49 u50 gegb46 lngb46 => ?_)
  have zu50 := u50.size
  have lt_gb46 := A49.lt
  refine go ?_
  have D52 := (BilsM.keep (BilsM.keep (BilsM.keep (BilsM.keep (BilsM.keep (BilsM.keep hM u22 (fun _ _ _ h => h)) u25 (fun z hz hb => by have h9 := hMne z hz hb; have h8 := (hM z hz).2.2.lt; show ¬ (z.g = bk19); omega)) u31 (fun _ _ _ h => h)) u36 (fun z hz hb => by have h9 := hMne z hz hb; have h8 := (hM z hz).2.2.lt; show ¬ (z.g = bk19); omega)) u42 (fun _ _ _ h => h)) u50 (fun z hz hb => by have h9 := hMne z hz hb; have h8 := (hM z hz).2.2.lt; show ¬ ((z.g = q.2.1 ∧ w0.heap.size ≤ z.g)); omega))
  have D53 := (((hac.keep u36 (fun hb => show ¬ (gi = bk19) by first | omega | assumption)).keep u42 (fun _ h => h)).keep u50 (fun hb => show ¬ ((gi = q.2.1 ∧ w0.heap.size ≤ gi)) by first | omega | assumption))
  exact hK10 (ys ++ [(⟨(nth l ys.length).n, (nth l ys.length).c, (nth l ys.length).t, (nth l ys.length).f, (nth l ys.length).o, (nth l ys.length).s, ai, gi, 0, ci⟩ : Bil)]) (ao45, gb46, cp47) ⟨(by rw [List.length_append, List.length_singleton]; omega), A49, (show gb46 = bk3 ∨ w4.heap.size ≤ gb46 by omega), (BilsM.snoc D52 rfl hxs9 D53), (by rw [List.length_append, List.map_append, hcy]; show _ = (l.take (ys.length + 1)).map Bil.bare; rw [take_nth (show ys.length < l.length by omega), List.map_append]; rfl)⟩ (hm := (by show l.length - (ys ++ [_]).length < l.length - ys.length; rw [List.length_append, List.length_singleton]; omega)) (hs := by exact ⟨rfl, (congrArg (fun z => some (Value.int .i64 z)) (by rw [List.length_append, List.length_singleton, Int.natCast_add]; rfl)), rfl, trivial⟩)
 rw [List.take_of_length_le (show l.length ≤ ys.length by omega)] at hcy
 refine go ?_
 refine f_1 results37 ?_
 exact ⟨⟨ys, _, _, _, rfl, hcy, hA, hM⟩, u_d⟩

end Go.Proofs.YtjdcpnaocjddoaaGreatDoor
namespace Go.Proofs.YtjdcpnaocjddoaaGreatDoor
open Go Go.RowKit Go.Proofs.Tryz
end Go.Proofs.YtjdcpnaocjddoaaGreatDoor
namespace Go.Proofs.YtjdcpnaocjddoaaGreatDoor
open Go Go.RowKit
/-! ### gauge lines -/
structure Gau where
  st : Int
  hr : Int
  s : List Int
  ao : Option Addr
  g : Nat
  ob : Nat
  cp : Nat
instance : Inhabited Gau := ⟨⟨0, 0, [], none, 0, 0, 0⟩⟩
def encGau (x : Gau) : List Value := [.int .i64 x.st, .int .i64 x.hr, .slice x.ao x.s.length x.cp]
def okGau (x : Gau) : Bool := decide ((0 ≤ x.st ∧ x.st ≤ 99) ∧ (0 ≤ x.hr ∧ x.hr ≤ 100000) ∧ (1 ≤ x.s.length ∧ x.s.length ≤ 24) ∧ ∀ n ∈ x.s, 0 ≤ n ∧ n ≤ 10000)
theorem okGau_iff {x : Gau} (h : okGau x = true) : (0 ≤ x.st ∧ x.st ≤ 99) ∧ (0 ≤ x.hr ∧ x.hr ≤ 100000) ∧ (1 ≤ x.s.length ∧ x.s.length ≤ 24) ∧ ∀ n ∈ x.s, 0 ≤ n ∧ n ≤ 10000 := of_decide_eq_true h
def aftG (a b : Gau) : Prop := a.st < b.st ∨ (b.st = a.st ∧ a.hr + (a.s.length : Int) ≤ b.hr)
instance (a b : Gau) : Decidable (aftG a b) := by unfold aftG; infer_instance
def dW (d : Int) : List UInt8 := if d < 0 then Lib.itoa d else 43 :: Lib.itoa d
def difG : Int → List Int → List (List UInt8)
  | _, [] => []
  | a, b :: r => dW (b - a) :: difG b r
def wrdG (x : Gau) : List (List UInt8) := [Lib.itoa x.st, Lib.itoa x.hr, Lib.itoa (nth x.s 0)] ++ difG (nth x.s 0) (x.s.drop 1)
def gauP (x : Gau) : List UInt8 := sealedP (wrdG x)
def Gau.bare (x : Gau) : Gau := ⟨x.st, x.hr, x.s, none, 0, 0, 0⟩
def gau0 : Gau := ⟨0, 0, [], none, 0, 0, 0⟩
theorem okGau_bare (x : Gau) : okGau x.bare = okGau x := rfl
theorem difG_take : ∀ (l : List Int) (a : Int) (i : Nat), i < l.length → difG a (l.take (i + 1)) = difG a (l.take i) ++ [dW (nth l i - nth (a :: l) i)]
  | [], _, _, h => absurd h (Nat.not_lt_zero _)
  | x :: r, a, 0, _ => rfl
  | x :: r, a, i + 1, h => by
    have ih := difG_take r x i (by simpa using h)
    show dW (x - a) :: difG x (r.take (i + 1)) = dW (x - a) :: (difG x (r.take i) ++ [dW (nth r i - nth (x :: r) i)])
    rw [ih]
theorem nth_cons_drop {l : List Int} (h : 0 < l.length) (i : Nat) : nth (nth l 0 :: l.drop 1) i = nth l i := by
  cases l with
  | nil => cases h
  | cons a r => rfl
theorem difG_next {l : List Int} {i : Nat} (h : i + 1 < l.length) : difG (nth l 0) ((l.drop 1).take (i + 1)) = difG (nth l 0) ((l.drop 1).take i) ++ [dW (nth l (i + 1) - nth l i)] := by
  rw [difG_take _ _ _ (by rw [List.length_drop]; omega), nth_cons_drop (by omega), nth_drop, Nat.add_comm 1 i]
theorem difG_len : ∀ (l : List Int) (a : Int), (difG a l).length = l.length
  | [], _ => rfl
  | x :: r, a => by show (difG x r).length + 1 = r.length + 1; rw [difG_len r x]
/-! numbers with a sign -/
theorem itoa_minus {d : Int} (h : d < 0) : Lib.itoa d = 45 :: Lib.decDigits (-d).toNat := by
  have h1 := Lib.itoa_neg (-d).toNat (by omega)
  rw [Int.toNat_of_nonneg (by omega), Int.neg_neg] at h1; exact h1
/-- the program's levels of words -/
def lvA : List Int → Int → List (List UInt8) → Option (List Int)
  | acc, _, [] => some acc
  | acc, v, w :: r => match Lib.atoiAll w with
    | .ok d => if 0 ≤ v + d ∧ v + d ≤ 10000 then lvA (acc ++ [v + d]) (v + d) r else none
    | _ => none
theorem lvA_ok {acc : List Int} {v d : Int} {w : List UInt8} {r : List (List UInt8)} (h : Lib.atoiAll w = .ok d) (h2 : 0 ≤ v + d ∧ v + d ≤ 10000) : lvA acc v (w :: r) = lvA (acc ++ [v + d]) (v + d) r := by
  conv => lhs; unfold lvA
  rw [h]
  show (if _ then _ else _) = _
  rw [if_pos h2]
theorem lvA_out {acc : List Int} {v d : Int} {w : List UInt8} {r : List (List UInt8)} (h : Lib.atoiAll w = .ok d) (h2 : ¬ (0 ≤ v + d ∧ v + d ≤ 10000)) : lvA acc v (w :: r) = none := by
  unfold lvA
  rw [h]
  show (if _ then _ else _) = _
  rw [if_neg h2]
theorem lvA_bad {acc : List Int} {v : Int} {w : List UInt8} {r : List (List UInt8)} (h : ∀ d, Lib.atoiAll w ≠ .ok d) : lvA acc v (w :: r) = none := by
  unfold lvA
  split
  · rename_i d hd; exact absurd hd (h d)
  · rfl
def parGW (ws : List (List UInt8)) : Gau := if ws.length < 3 ∨ 26 < ws.length then gau0 else match lvA [] 0 (ws.drop 2) with
  | some l => ⟨numP (nth ws 0), numP (nth ws 1), l, none, 0, 0, 0⟩
  | none => gau0
def parGL (s : List UInt8) : Gau := parGW (pcs 32 s).dropLast
theorem parGW_some {ws : List (List UInt8)} {l : List Int} (h : ¬ (ws.length < 3 ∨ 26 < ws.length)) (h2 : lvA [] 0 (ws.drop 2) = some l) : parGW ws = ⟨numP (nth ws 0), numP (nth ws 1), l, none, 0, 0, 0⟩ := by unfold parGW; rw [if_neg h, h2]
theorem parGW_none {ws : List (List UInt8)} (h : ¬ (ws.length < 3 ∨ 26 < ws.length)) (h2 : lvA [] 0 (ws.drop 2) = none) : parGW ws = gau0 := by unfold parGW; rw [if_neg h, h2]
/-- the reference's levels of words -/
def stR (w : List UInt8) : Int := (if nth w 0 = 45 then -1 else 1) * digV 6 0 (w.drop 1)
/-! round trips -/
theorem itoa_free {n : Int} (h : 0 ≤ n) : (32 : UInt8) ∉ Lib.itoa n := by rw [itoa_dec h]; exact decD_free (by decide)
theorem dW_free (d : Int) : (32 : UInt8) ∉ dW d := by
  unfold dW
  by_cases q : d < 0
  · rw [if_pos q, itoa_minus q]
    intro h
    rcases List.mem_cons.1 h with h | h
    · exact absurd h (by decide)
    · exact decD_free (by decide) h
  · rw [if_neg q, itoa_dec (by omega)]
    intro h
    rcases List.mem_cons.1 h with h | h
    · exact absurd h (by decide)
    · exact decD_free (by decide) h
theorem difG_free : ∀ (r : List Int) (a : Int), ∀ w ∈ difG a r, (32 : UInt8) ∉ w
  | [], _, w, h => by cases h
  | b :: r, a, w, h => by
    rcases List.mem_cons.1 (show w ∈ dW (b - a) :: difG b r from h) with h | h
    · rw [h]; exact dW_free _
    · exact difG_free r b w h
theorem wrdG_free {x : Gau} (h : okGau x = true) : ∀ w ∈ wrdG x, (32 : UInt8) ∉ w := by
  obtain ⟨h1, h2, ⟨h3, h4⟩, h5⟩ := okGau_iff h
  have h0 := h5 _ (nth_mem (xs := x.s) (i := 0) (by omega))
  intro w hw
  unfold wrdG at hw
  rcases List.mem_append.1 hw with hw | hw
  · rcases List.mem_cons.1 hw with hw | hw
    · rw [hw]; exact itoa_free h1.1
    rcases List.mem_cons.1 hw with hw | hw
    · rw [hw]; exact itoa_free h2.1
    · rw [List.mem_singleton.1 hw]; exact itoa_free h0.1
  · exact difG_free _ _ w hw
/-! ### gauge files, read -/
def lineG (p : List UInt8 → Gau) (s : List UInt8) : Gau × Int := if chkdP s ≠ 0 then (gau0, chkdP s) else if okGau (p s) = true ∧ gauP (p s) = s ++ [10] then (p s, 0) else (gau0, 4)
def goG (L : List UInt8 → Gau × Int) : List Gau → List (List UInt8) → List Gau × Int × Int
  | acc, [] => (acc, 0, 0)
  | acc, s :: r => if (L s).2 ≠ 0 then ([], acc.length, (L s).2) else if 0 < acc.length ∧ ¬ aftG (nth acc (acc.length - 1)) (L s).1 then ([], acc.length, 6) else goG L (acc ++ [(L s).1]) r
def readG (L : List UInt8 → Gau × Int) (s : List UInt8) : List Gau × Int × Int := if (linesR s).2 ≠ 0 then ([], 0, (linesR s).2) else goG L [] (linesR s).1
theorem goG_bad {L : List UInt8 → Gau × Int} {acc : List Gau} {s : List UInt8} {r : List (List UInt8)} (h : (L s).2 ≠ 0) : goG L acc (s :: r) = ([], (acc.length : Int), (L s).2) := by
  show (if _ then _ else _) = _
  rw [if_pos h]
theorem goG_twice {L : List UInt8 → Gau × Int} {acc : List Gau} {s : List UInt8} {r : List (List UInt8)} (h : (L s).2 = 0) (h2 : 0 < acc.length ∧ ¬ aftG (nth acc (acc.length - 1)) (L s).1) : goG L acc (s :: r) = ([], (acc.length : Int), 6) := by
  show (if _ then _ else _) = _
  rw [if_neg (by rw [h]; decide), if_pos h2]
theorem goG_next {L : List UInt8 → Gau × Int} {acc : List Gau} {s : List UInt8} {r : List (List UInt8)} (h : (L s).2 = 0) (h2 : ¬ (0 < acc.length ∧ ¬ aftG (nth acc (acc.length - 1)) (L s).1)) : goG L acc (s :: r) = goG L (acc ++ [(L s).1]) r := by
  conv => lhs; unfold goG
  rw [if_neg (by rw [h]; decide), if_neg h2]
/-! ### gauge files, written -/
def aftO : Option Gau → Gau → Prop
  | none, _ => True
  | some q, x => aftG q x
instance (p : Option Gau) (x : Gau) : Decidable (aftO p x) := by cases p <;> unfold aftO <;> infer_instance
def chkGa : Option Gau → List Gau → Int
  | _, [] => 0
  | p, x :: r => if okGau x = true then (if aftO p x then chkGa (some x) r else 6) else 2
def prvG (l : List Gau) (i : Nat) : Option Gau := if i = 0 then none else some (nth l (i - 1))
def textG (l : List Gau) : List UInt8 × Int := if 200 < l.length then ([], 5) else if chkGa none l = 0 then (l.flatMap gauP, 0) else ([], chkGa none l)
theorem chkGa_ok {p : Option Gau} {x : Gau} {r : List Gau} (h1 : okGau x = true) (h2 : aftO p x) : chkGa p (x :: r) = chkGa (some x) r := by
  show (if okGau x = true then _ else _) = _
  rw [if_pos h1, if_pos h2]
theorem dW_len {d : Int} (h : -10000 ≤ d ∧ d ≤ 10000) : (dW d).length ≤ 7 := by
  unfold dW
  by_cases q : d < 0
  · have := decD_len 5 (-d).toNat (by omega)
    rw [if_pos q, itoa_minus q, List.length_cons]; omega
  · have := decD_len 5 d.toNat (by omega)
    rw [if_neg q, itoa_dec (by omega), List.length_cons]; omega
theorem difG_wlen : ∀ (r : List Int) (a : Int), (0 ≤ a ∧ a ≤ 10000) → (∀ n ∈ r, 0 ≤ n ∧ n ≤ 10000) → ∀ w ∈ difG a r, w.length ≤ 7
  | [], _, _, _, w, h => by cases h
  | b :: r, a, ha, hr, w, h => by
    have hb := hr b (List.mem_cons_self ..)
    rcases List.mem_cons.1 (show w ∈ dW (b - a) :: difG b r from h) with h | h
    · rw [h]; exact dW_len (by omega)
    · exact difG_wlen r b hb (fun n hn => hr n (List.mem_cons_of_mem _ hn)) w h
theorem wrdG_len {x : Gau} (h : okGau x = true) : (wrdG x).length = x.s.length + 2 ∧ (Lib.join (wrdG x) [32]).length ≤ 300 := by
  obtain ⟨h1, h2, ⟨h3, h4⟩, h5⟩ := okGau_iff h
  have h0 := h5 _ (nth_mem (xs := x.s) (i := 0) (by omega))
  have hl : (wrdG x).length = x.s.length + 2 := by
    unfold wrdG
    rw [List.length_append, difG_len, List.length_drop]
    simp only [List.length_cons, List.length_nil]; omega
  refine ⟨hl, ?_⟩
  have hw : ∀ w ∈ wrdG x, w.length ≤ 7 := fun w hw => by
    unfold wrdG at hw
    have hi : ∀ n : Int, 0 ≤ n → n ≤ 100000 → (Lib.itoa n).length ≤ 7 := fun n a b => by
      have := decD_len 5 n.toNat (by omega)
      rw [itoa_dec a]; omega
    rcases List.mem_append.1 hw with hw | hw
    · rcases List.mem_cons.1 hw with hw | hw
      · rw [hw]; exact hi _ (by omega) (by omega)
      rcases List.mem_cons.1 hw with hw | hw
      · rw [hw]; exact hi _ (by omega) (by omega)
      · rw [List.mem_singleton.1 hw]; exact hi _ (by omega) (by omega)
    · exact difG_wlen _ _ h0 (fun n hn => h5 n (List.mem_of_mem_drop hn)) w hw
  have h9 := join_len [32] 7 (wrdG x) hw
  rw [hl] at h9
  have h8 : (x.s.length + 2) * (7 + 1) ≤ 26 * 8 := Nat.mul_le_mul_right _ (by omega)
  have h7 : ([32] : List UInt8).length = 1 := rfl
  rw [h7] at h9
  omega
theorem gauP_le {x : Gau} (h : okGau x = true) : (gauP x).length ≤ 304 := by
  have h1 := (wrdG_len h).2
  unfold gauP sealedP
  rw [sealP_len, List.length_append]
  simp only [List.length_cons, List.length_nil]
  omega
/-- the first words of a gauge line -/
def wlG (x : Gau) (i : Nat) : List (List UInt8) := [Lib.itoa x.st, Lib.itoa x.hr, Lib.itoa (nth x.s 0)] ++ difG (nth x.s 0) ((x.s.drop 1).take i)
theorem wlG_next {x : Gau} {i : Nat} (h : i + 1 < x.s.length) : wlG x (i + 1) = wlG x i ++ [dW (nth x.s (i + 1) - nth x.s i)] := by
  unfold wlG
  rw [difG_next h, ← List.append_assoc]
theorem wlG_end {x : Gau} {i : Nat} (h : x.s.length ≤ i + 1) : wlG x i = wrdG x := by
  unfold wlG wrdG
  rw [List.take_of_length_le (by rw [List.length_drop]; omega)]
theorem wlG_len (x : Gau) (i : Nat) : (wlG x i).length ≤ 3 + i := by
  unfold wlG
  rw [List.length_append, difG_len, List.length_take]
  simp only [List.length_cons, List.length_nil]; omega
theorem itoa_sign {d : Int} (h : d < 0) : nth (Lib.itoa d) 0 = 45 ∧ 0 < (Lib.itoa d).length := by
  rw [itoa_minus h]; exact ⟨rfl, Nat.succ_pos _⟩
theorem itoa_nosign {d : Int} (h : 0 ≤ d) : nth (Lib.itoa d) 0 ≠ 45 ∧ 0 < (Lib.itoa d).length := by
  rw [itoa_dec h]
  have hp := decD_pos d.toNat
  refine ⟨fun e => ?_, hp⟩
  have h9 := decD_dg d.toNat _ (nth_mem hp)
  rw [e] at h9
  revert h9; decide
theorem itoa_first {d : Int} : ((nth (Lib.itoa d) 0).toNat ≠ 45 ↔ 0 ≤ d) ∧ 0 < (Lib.itoa d).length := by
  by_cases q : d < 0
  · refine ⟨⟨fun h => ?_, fun h => by omega⟩, (itoa_sign q).2⟩
    rw [(itoa_sign q).1] at h; exact absurd rfl h
  · refine ⟨⟨fun _ => by omega, fun _ h => ?_⟩, (itoa_nosign (by omega)).2⟩
    exact (itoa_nosign (d := d) (by omega)).1 (UInt8.toNat_inj.1 h)

end Go.Proofs.YtjdcpnaocjddoaaGreatDoor
namespace Go.Proofs.YtjdcpnaocjddoaaGreatDoor
open Go Go.RowKit Go.Proofs.Tryz
theorem isGauge_c (x : Gau) (w0 : World) (hs : Sl encI 1 w0 x.ao x.g x.ob x.s) (_hcp : x.s.length ≤ x.cp) (hsl : x.s.length ≤ 17592186044416) :
    CallsV Tryz.prog 128 [.agg #[.int .i64 x.st, .int .i64 x.hr, .slice x.ao x.s.length x.cp]] w0 (fun v w' => v = .bool (okGau x) ∧ Ext w0 w') := by
 refine f_n func128 ?_
 refine go ?_
 refine x_b fun bk2 w3 ebk2 sbk2 B4 u5 => ?_
 refine go ?_
 refine x_l fun bk8 w9 ebk8 sbk8 B10 u11 => ?_
 refine x_c func62 rfl rfl (within1_v 0 99 x.st bk8 _ _ B10) ?_
 rintro _ w14 ⟨rfl, u15⟩ zu15
 refine go ?_
 refine t_splitp 7 rfl (fun g7 => ?_) (fun g7 => ?_)
 ·
  refine go ?_
  refine x_l fun bk18 w19 ebk18 sbk18 B20 u21 => ?_
  refine x_c func62 rfl rfl (within1_v 0 100000 x.hr bk18 _ _ B20) ?_
  rintro _ w24 ⟨rfl, u25⟩ zu25
  refine go ?_
  refine t_splitp 13 rfl (fun g13 => ?_) (fun g13 => ?_)
  ·
   refine go ?_
   refine x_l fun bk28 w29 ebk28 sbk28 B30 u31 => ?_
   refine x_c func62 rfl rfl (within1_v 1 24 (x.s.length : Int) bk28 _ _ B30) ?_
   rintro _ w34 ⟨rfl, u35⟩ zu35
   refine go ?_
   refine t_splitp 20 rfl (fun g20 => ?_) (fun g20 => ?_)
   ·
    refine go ?_
    refine x_c func62 rfl rfl (within_c 0 10000 x.s x.ao x.g x.ob x.cp _ (hs.keep ((((((((Upd.refl (fun _ => False) w0).nx u5).nx u11).nx u15).nx u21).nx u25).nx u31).nx u35) (fun _ h => h)) (by omega)) ?_
    rintro _ w39 ⟨rfl, u40⟩ zu40
    refine go ?_
    refine f_1 results128 ?_
    exact ⟨congrArg Value.bool (by unfold okGau; first | exact (decide_eq_false (by omega)).symm | exact (decide_eq_false (fun h => by have h1 := h.1; have h2 := h.2.1; have h3 := h.2.2.1; omega)).symm | exact decide_eq_decide.2 ⟨fun h => ⟨by omega, by omega, by omega, h⟩, fun h => h.2.2.2⟩), u_d⟩
   refine go ?_
   refine f_1 results128 ?_
   exact ⟨congrArg Value.bool (by unfold okGau; first | exact (decide_eq_false (by omega)).symm | exact (decide_eq_false (fun h => by have h1 := h.1; have h2 := h.2.1; have h3 := h.2.2.1; omega)).symm | exact decide_eq_decide.2 ⟨fun h => ⟨by omega, by omega, by omega, h⟩, fun h => h.2.2.2⟩), u_d⟩
  refine go ?_
  refine f_1 results128 ?_
  exact ⟨congrArg Value.bool (by unfold okGau; first | exact (decide_eq_false (by omega)).symm | exact (decide_eq_false (fun h => by have h1 := h.1; have h2 := h.2.1; have h3 := h.2.2.1; omega)).symm | exact decide_eq_decide.2 ⟨fun h => ⟨by omega, by omega, by omega, h⟩, fun h => h.2.2.2⟩), u_d⟩
 refine go ?_
 refine f_1 results128 ?_
 exact ⟨congrArg Value.bool (by unfold okGau; first | exact (decide_eq_false (by omega)).symm | exact (decide_eq_false (fun h => by have h1 := h.1; have h2 := h.2.1; have h3 := h.2.2.1; omega)).symm | exact decide_eq_decide.2 ⟨fun h => ⟨by omega, by omega, by omega, h⟩, fun h => h.2.2.2⟩), u_d⟩

theorem gaugeAfter_c (x y : Gau) (w0 : World) (hx : okGau x = true) :
    CallsV Tryz.prog 129 [.agg #[.int .i64 x.st, .int .i64 x.hr, .slice x.ao x.s.length x.cp], .agg #[.int .i64 y.st, .int .i64 y.hr, .slice y.ao y.s.length y.cp]] w0 (fun v w' => v = .bool (decide (aftG x y)) ∧ Ext w0 w') := by
 have hx9 := okGau_iff hx
 obtain ⟨hx1, hx2, hx3, _⟩ := hx9
 refine f_n func129 ?_
 refine go ?_
 refine x_b fun bk2 w3 ebk2 sbk2 B4 u5 => ?_
 refine x_b fun bk7 w8 ebk7 sbk7 B9 u10 => ?_
 refine go ?_
 refine t_splitp 10 rfl (fun g10 => ?_) (fun g10 => ?_)
 ·
  refine go ?_
  refine f_1 results129 ?_
  exact ⟨congrArg Value.bool (by unfold aftG; first | exact (decide_eq_false (by omega)).symm | exact (decide_eq_true (by omega)).symm | exact decide_eq_decide.2 (by omega)), u_d⟩
 refine go ?_
 refine t_splitp 16 rfl (fun g16 => ?_) (fun g16 => ?_)
 ·
  refine go ?_
  refine f_1 results129 ?_
  exact ⟨congrArg Value.bool (by unfold aftG; first | exact (decide_eq_false (by omega)).symm | exact (decide_eq_true (by omega)).symm | exact decide_eq_decide.2 (by omega)), u_d⟩
 refine go ?_
 refine f_1 results129 ?_
 exact ⟨congrArg Value.bool (by unfold aftG; first | exact (decide_eq_false (by omega)).symm | exact (decide_eq_true (by omega)).symm | exact decide_eq_decide.2 (by omega)), u_d⟩

set_option maxHeartbeats 4000000 in
set_option maxRecDepth 20000 in
theorem gaugeLine_c (x : Gau) (w0 : World) (hs : Sl encI 1 w0 x.ao x.g x.ob x.s) (hcp : x.s.length ≤ x.cp) (hsl : x.s.length ≤ 17592186044416) (hok : okGau x = true) (hT : Tab10 w0) (_hpos : 0 < w0.heap.size) :
    CallsV Tryz.prog 130 [.agg #[.int .i64 x.st, .int .i64 x.hr, .slice x.ao x.s.length x.cp]] w0 (fun v w' => v = .string (strB (gauP x)) ∧ Ext w0 w') := by
 have hx9 := okGau_iff hok
 obtain ⟨hx1, hx2, hx3, hx4⟩ := hx9
 have hx0 := hx4 _ (nth_mem (xs := x.s) (i := 0) (by omega))
 have hblt := hs.lt (show 0 < x.s.length by omega)
 refine f_n func130 ?_
 refine go ?_
 refine x_b fun bk2 w3 ebk2 sbk2 B4 u5 => ?_
 refine go ?_
 refine c_drawnM follows (fun _ => False) (OTl [0, 2, 6, 8, 12, 14, 16, 18, 5, 11, 21, 23, 24]) (by kernel_rfl) fun w8 u9 => ?_
 have zu9 := u9.size
 have E10 := Sc.mk (((Upd.refl (fun _ => False) w0).nx u5).nx u9)
 refine go ?_
 refine y_i 0 (hs.keep E10.u (fun _ h => h)) (fun _ => ?_)
 refine go ?_
 refine x_c func145 rfl rfl (itoa_c x.st _ (by omega) (hT.ext E10.u)) ?_
 rintro _ w13 ⟨rfl, u14⟩ zu14
 have E16 := Sc.mk (E10.u.nx u14)
 refine go ?_
 refine x_c func145 rfl rfl (itoa_c x.hr _ (by omega) (hT.ext E16.u)) ?_
 rintro _ w18 ⟨rfl, u19⟩ zu19
 have E21 := Sc.mk (E16.u.nx u19)
 refine go ?_
 refine x_c func145 rfl rfl (itoa_c (nth x.s 0) _ (by omega) (hT.ext E21.u)) ?_
 rintro _ w23 ⟨rfl, u24⟩ zu24
 refine go ?_
 refine x_l fun bk27 w28 ebk27 sbk27 B29 u30 => ?_
 refine go ?_
 refine t_sliceFrom 1 underlying59 sizeOf3 rfl rfl rfl rfl rfl (by omega) (by omega) ?_
 refine go ?_
 refine x_l2 (fun i => i = bk27 ∨ w28.heap.size ≤ i) [1, 21, 22] (fun (i : Nat) (q : (Option Addr × Nat × Nat)) => [(3, .slice q.1 ((wlG x i).length) q.2.2), (23, .int .i64 (i : Int))]) (fun i q w => (i ≤ x.s.length - 1) ∧ (Acc encStr 1 9 w0.heap.size w q.1 q.2.1 q.2.2 (wlG x i)) ∧ (q.2.1 = bk27 ∨ w28.heap.size ≤ q.2.1)) (fun i q => x.s.length - 1 - i) 0 (some ⟨bk27, 0, none⟩, bk27, 3) ⟨(Nat.zero_le _), (Acc.ofBlk (base := w0.heap.size) (xs := wlG x 0) encStr 1 (fun _ => rfl) B29 (by omega) (by have h9 := wlG_len x 0; omega)), (.inl rfl)⟩ ?_
 rintro i q w35 ⟨hi, hA, hqW⟩ u36 zu36 K34 hK34
 have E37 := Sc.mk (((E21.u.nx u24).nx u30).next u36 (fun i hi h => by omega))
 have lt_q_2_1 := hA.lt
 have hwl := wlG_len x i
 have hdrl : (x.s.drop 1).length = x.s.length - 1 := List.length_drop
 refine go ?_
 refine q_p (fun g24 => ?_) fun g24 => ?_
 ·
  have hv1 := hx4 _ (nth_mem (xs := x.s) (i := i + 1) (by omega))
  have hv2 := hx4 _ (nth_mem (xs := x.s) (i := i) (by omega))
  obtain ⟨hfs, hfl⟩ := itoa_first (d := (nth x.s (i + 1) - nth x.s i))
  have hil := itoa_len (n := (nth x.s (i + 1) - nth x.s i)) (by omega)
  refine go ?_
  refine g_i i (by have h9 := ((hs.keep E37.u (fun _ h => h))).sub x.cp 1 (x.s.length - 1) hcp; rw [List.take_of_length_le (by rw [List.length_drop]; exact Nat.le_refl _)] at h9; exact h9) (fun _ => ?_)
  refine st1 ?_
  refine t_same 27 (v := .int .i64 (nth x.s (i + 1))) rfl (congrArg (Value.int .i64) (by rw [nth_drop, Nat.add_comm])) ?_
  refine go ?_
  refine g_i i (hs.keep E37.u (fun _ h => h)) (fun _ => ?_)
  refine go ?_
  refine x_c func145 rfl rfl (itoa_c ((nth x.s (i + 1)) - (nth x.s i)) _ (by omega) (hT.ext E37.u)) ?_
  rintro _ w46 ⟨rfl, u47⟩ zu47
  refine go ?_
  refine t_idxS 0 underlying9 rfl rfl rfl rfl rfl (by omega) ?_
  refine go ?_
  refine q_p (fun g38 => ?_) fun g38 => ?_
  ·
   have hd0 : 0 ≤ (nth x.s (i + 1) - nth x.s i) := hfs.1 (by omega)
   refine go ?_
   refine t_bo (Bo.addS (by simp only [List.length_cons, List.length_nil]; omega)) rfl rfl rfl rfl (t_same 40 (v := .string (strB (dW (nth x.s (i + 1) - nth x.s i)))) rfl (congrArg (fun z => Value.string (strB z)) (by unfold dW; rw [if_neg (by omega)]; rfl)) ?_)
   refine go ?_
   refine x_l fun bk52 w53 ebk52 sbk52 B54 u55 => ?_
   have D57 := ((hA.keep u47 (fun _ h => h)).keep u55 (fun _ h => h))
   refine t_append (z := .string (strB ([]))) (bytes := 16) (k := 1) (base := w0.heap.size) (dW (nth x.s (i + 1) - nth x.s i)) underlying105 (by kernel_rfl) rfl (by decide) (fun _ => rfl) (by intro x; simp [encStr, Value.oneCell']) rfl rfl rfl rfl D57 B54 (by omega) (by omega) (by decide) (fun ao58 gb59 cp60 w61 A62 u63 gegb59 lngb59 => ?_)
   have zu63 := u63.size
   have lt_gb59 := A62.lt
   refine go ?_
   exact hK34 (i + 1) (ao58, gb59, cp60) ⟨(by omega), (by rw [wlG_next (by omega)]; exact A62), (show gb59 = bk27 ∨ w28.heap.size ≤ gb59 by omega)⟩ (hs := by exact ⟨(congrArg some (by rw [wlG_next (by omega)])), rfl, rfl, rfl, rfl, trivial⟩)
  have hd0 : (nth x.s (i + 1) - nth x.s i) < 0 := by
    rcases Int.lt_or_le (nth x.s (i + 1) - nth x.s i) 0 with h | h
    · exact h
    · exact absurd (hfs.2 h) (by omega)
  refine c_same 6 (v := .string (strB (dW (nth x.s (i + 1) - nth x.s i)))) rfl (congrArg (fun z => Value.string (strB z)) (by unfold dW; rw [if_pos hd0])) ?_
  refine go ?_
  refine x_l fun bk65 w66 ebk65 sbk65 B67 u68 => ?_
  have D70 := ((hA.keep u47 (fun _ h => h)).keep u68 (fun _ h => h))
  refine t_append (z := .string (strB ([]))) (bytes := 16) (k := 1) (base := w0.heap.size) (dW (nth x.s (i + 1) - nth x.s i)) underlying105 (by kernel_rfl) rfl (by decide) (fun _ => rfl) (by intro x; simp [encStr, Value.oneCell']) rfl rfl rfl rfl D70 B67 (by omega) (by omega) (by decide) (fun ao71 gb72 cp73 w74 A75 u76 gegb72 lngb72 => ?_)
  have zu76 := u76.size
  have lt_gb72 := A75.lt
  refine go ?_
  exact hK34 (i + 1) (ao71, gb72, cp73) ⟨(by omega), (by rw [wlG_next (by omega)]; exact A75), (show gb72 = bk27 ∨ w28.heap.size ≤ gb72 by omega)⟩ (hs := by exact ⟨(congrArg some (by rw [wlG_next (by omega)])), rfl, rfl, rfl, rfl, trivial⟩)
 have hend := wlG_end (x := x) (i := i) (by omega)
 have hjl := wrdG_len hok
 refine go ?_
 refine x_c func146 rfl rfl (by have h9 := sealed_c (wlG x i) q.1 q.2.1 0 q.2.2 w35 (hA.sl (fun _ => rfl)) (hA).cap_le (by omega) (by rw [hend]; omega); rw [hend] at h9 ⊢; exact h9) ?_
 rintro _ w80 ⟨rfl, u81⟩ zu81
 refine go ?_
 refine f_1 results130 ?_
 exact ⟨rfl, u_d⟩

end Go.Proofs.YtjdcpnaocjddoaaGreatDoor
namespace Go.Proofs.YtjdcpnaocjddoaaGreatDoor
open Go Go.RowKit Go.Proofs.Tryz
def SlG (W : World) (ys : List Gau) : Prop := ∀ z ∈ ys, Sl encI 1 W z.ao z.g z.ob z.s ∧ z.s.length ≤ z.cp ∧ z.s.length ≤ 17592186044416
theorem SlG.ext {W W' : World} {ys : List Gau} (h : SlG W ys) (u : Ext W W') : SlG W' ys := fun z hz => ⟨(h z hz).1.keep u (fun _ h => h), (h z hz).2⟩
theorem prvG_zero {l : List Gau} {i : Nat} (h : i = 0) : prvG l i = none := if_pos h
theorem prvG_pos {l : List Gau} {i : Nat} (h : 0 < i) : prvG l i = some (nth l (i - 1)) := if_neg (by omega)
theorem prvG_succ {l : List Gau} {i : Nat} : prvG l (i + 1) = some (nth l i) := by rw [prvG_pos (show 0 < i + 1 from Nat.succ_pos i), Nat.add_sub_cancel]
theorem gauges_c  (w0 : World) :
    CallsV Tryz.prog 87 [] w0 (fun v w' => v = .agg #[.func (.func 128) #[] #[], .func (.func 129) #[] #[], .func (.func 130) #[] #[], .func (.func 131) #[] #[], .int .i64 200] ∧ Ext w0 w') := by
 refine f_n func87 ?_
 refine go ?_
 refine x_n fun bk2 w3 ebk2 sbk2 B4 u5 => ?_
 refine go ?_
 refine x_s fun w8 sw8 B10 u9 => ?_
 refine go ?_
 refine f_ret1 (v := .agg #[.func (.func 128) #[] #[], .func (.func 129) #[] #[], .func (.func 130) #[] #[], .func (.func 131) #[] #[], .int .i64 200]) results87 ⟨_, _, rfl, run_loadVarN (vs := [.func (.func 128) #[] #[], .func (.func 129) #[] #[], .func (.func 130) #[] #[], .func (.func 131) #[] #[], .int .i64 200]) isAgg159 sizeOf159 rfl (B10.at.sub 0 5)⟩ ?_
 exact ⟨rfl, u_d⟩

set_option maxHeartbeats 4000000 in
theorem textG_c (l : List Gau) (al : Option Addr) (bl ol cl : Nat) (w0 : World) (hl : Sl encGau 3 w0 al bl ol l) (hss : SlG w0 l) (hll : l.length ≤ 1000000000) (hT : Tab10 w0) (hpos : 0 < w0.heap.size) :
    CallsV Tryz.prog 88 [.agg #[.func (.func 128) #[] #[], .func (.func 129) #[] #[], .func (.func 130) #[] #[], .func (.func 131) #[] #[], .int .i64 200], .slice al l.length cl] w0 (fun v w' => v = .tuple #[.string (strB (textG l).1), .int .i64 (textG l).2] ∧ Ext w0 w') := by
 refine f_n func88 ?_
 refine go ?_
 refine x_b fun bk2 w3 ebk2 sbk2 B4 u5 => ?_
 refine go ?_
 refine q_p (fun g13 => ?_) fun g13 => ?_
 ·
  refine go ?_
  refine f_ret2 (v1 := .string (strB ([]))) (v2 := .int .i64 5) results88 rfl rfl ?_
  exact ⟨by unfold textG; rw [if_pos (by omega)], u_d⟩
 refine go ?_
 refine x_n fun bk11 w12 ebk11 sbk11 B13 u14 => ?_
 have hbui := BuiM.new B13
 refine go ?_
 refine x_l1 (fun i => bk11 ≤ i) [1, 2, 6, 14, 15] (fun (i : Nat) => [(16, .int .i64 (i : Int))]) (fun i w => (i ≤ l.length) ∧ (chkGa none l = chkGa (prvG l i) (l.drop i)) ∧ (BuiM bk11 bk11 ((l.take i).flatMap gauP) w) ∧ (((l.take i).flatMap gauP).length ≤ 304 * i) ∧ (∀ j, j < i → okGau (nth l j) = true)) (fun i => l.length - i) 0 ⟨(Nat.zero_le _), rfl, hbui, (Nat.zero_le _), (fun j h => absurd h (Nat.not_lt_zero _))⟩ ?_
 rintro i w19 ⟨hi, hc, hbl, hln, hko⟩ u20 zu20 K18 hK18
 have E21 := Sc.mk ((((Upd.refl (fun _ => False) w0).nx u5).nx u14).next u20 (fun i hi h => by omega))
 refine go ?_
 refine q_p (fun g17 => ?_) fun g17 => ?_
 ·
  refine go ?_
  refine g_i i (hl.keep E21.u (fun _ h => h)) (fun _ => ?_)
  refine go ?_
  refine x_n fun bk27 w28 ebk27 sbk27 B29 u30 => ?_
  refine go ?_
  refine x_s fun w32 sw32 B34 u33 => ?_
  have E35 := Sc.mk ((E21.u.nx u30).next u33 (fun i hi h => by omega))
  refine go ?_
  refine x_c func128 rfl rfl (isGauge_c (nth l i) _ ((hss _ (nth_mem (xs := l) (i := i) (by omega))).1.keep E35.u (fun _ h => h)) (hss _ (nth_mem (xs := l) (i := i) (by omega))).2.1 (hss _ (nth_mem (xs := l) (i := i) (by omega))).2.2) ?_
  rintro _ w39 ⟨rfl, u40⟩ zu40
  refine go ?_
  refine q_b (fun g21 => ?_) fun g21 => ?_
  ·
   have hx : okGau (nth l i) = false := by simpa using g21
   refine go ?_
   refine f_ret2 (v1 := .string (strB ([]))) (v2 := .int .i64 2) results88 rfl rfl ?_
   have h200 : ¬ 200 < l.length := by omega
   have he : chkGa none l = 2 := by rw [hc, drop_nth (by omega)]; unfold chkGa; rw [if_neg (by rw [hx]; decide)]
   exact ⟨by unfold textG; rw [if_neg h200, he, if_neg (by decide)], u_d⟩
  have hx : okGau (nth l i) = true := by simpa using g21
  have hpl := gauP_le hx
  refine go ?_
  refine c_drawnM follows (fun _ => False) (OTl [0, 2, 4, 6, 8, 10, 12, 14, 16, 18, 20, 23, 24, 26, 28]) (by kernel_rfl) fun w45 u46 => ?_
  have zu46 := u46.size
  have E47 := Sc.mk ((E35.u.nx u40).nx u46)
  refine go ?_
  refine y_splitp 30 rfl (fun g30 => ?_) (fun g30 => ?_)
  ·
   refine go ?_
   refine y_i (i - 1) (hl.keep E47.u (fun _ h => h)) (fun _ => ?_)
   refine go ?_
   refine x_c func129 rfl rfl (gaugeAfter_c (nth l (i - 1)) (nth l i) _ (hko (i - 1) (by omega))) ?_
   rintro _ w50 ⟨rfl, u51⟩ zu51
   have E53 := Sc.mk (E47.u.nx u51)
   refine go ?_
   refine q_p (fun g27 => ?_) fun g27 => ?_
   ·
    have hmn : ¬ aftO (prvG l i) (nth l i) := by
      rw [prvG_pos (by omega)]
      exact g27
    refine go ?_
    refine f_ret2 (v1 := .string (strB ([]))) (v2 := .int .i64 6) results88 rfl rfl ?_
    have h200 : ¬ 200 < l.length := by omega
    have he : chkGa none l = 6 := by rw [hc, drop_nth (by omega)]; unfold chkGa; rw [if_pos hx, if_neg hmn]
    exact ⟨by unfold textG; rw [if_neg h200, he, if_neg (by decide)], u_d⟩
   have hmn : aftO (prvG l i) (nth l i) := by
     rw [prvG_pos (by omega)]
     exact Decidable.not_not.1 g27
   refine go ?_
   refine x_c func130 rfl rfl (gaugeLine_c (nth l i) _ ((hss _ (nth_mem (xs := l) (i := i) (by omega))).1.keep E53.u (fun _ h => h)) (hss _ (nth_mem (xs := l) (i := i) (by omega))).2.1 (hss _ (nth_mem (xs := l) (i := i) (by omega))).2.2 hx (hT.ext E53.u) (by omega)) ?_
   rintro _ w56 ⟨rfl, u57⟩ zu57
   refine x_c func119 rfl rfl (wstr_c bk11 bk11 ((l.take i).flatMap gauP) (gauP (nth l i)) _ (hbl.ext (((((((Upd.refl (fun _ => False) _).nx u30).next u33 (fun i hi (h : i = bk27) => show False by first | omega | assumption)).nx u40).nx u46).nx u51).nx u57)) (by omega) (by omega)) ?_
   rintro v60 w61 ⟨hb9, u62⟩ zu62
   refine go ?_
   exact hK18 (i + 1) ⟨(by omega), (by rw [hc, drop_nth (by omega), chkGa_ok hx hmn, prvG_succ]), (by rw [take_nth (by omega), List.flatMap_append, show [(nth l i)].flatMap gauP = gauP (nth l i) by simp]; exact hb9), (by rw [take_nth (by omega), List.flatMap_append, show [(nth l i)].flatMap gauP = gauP (nth l i) by simp, List.length_append]; omega), (fun j hj => by
     rcases Nat.lt_or_ge j i with h | h
     · exact hko j h
     · rw [show j = i by omega]; exact hx)⟩
  refine go ?_
  refine x_c func130 rfl rfl (gaugeLine_c (nth l i) _ ((hss _ (nth_mem (xs := l) (i := i) (by omega))).1.keep E47.u (fun _ h => h)) (hss _ (nth_mem (xs := l) (i := i) (by omega))).2.1 (hss _ (nth_mem (xs := l) (i := i) (by omega))).2.2 hx (hT.ext E47.u) (by omega)) ?_
  rintro _ w66 ⟨rfl, u67⟩ zu67
  refine x_c func119 rfl rfl (wstr_c bk11 bk11 ((l.take i).flatMap gauP) (gauP (nth l i)) _ (hbl.ext ((((((Upd.refl (fun _ => False) _).nx u30).next u33 (fun i hi (h : i = bk27) => show False by first | omega | assumption)).nx u40).nx u46).nx u67)) (by omega) (by omega)) ?_
  rintro v70 w71 ⟨hb9, u72⟩ zu72
  refine go ?_
  exact hK18 (i + 1) ⟨(by omega), (by rw [hc, drop_nth (by omega), chkGa_ok hx (show aftO (prvG l i) _ by rw [prvG_zero (by omega)]; trivial), prvG_succ]), (by rw [take_nth (by omega), List.flatMap_append, show [(nth l i)].flatMap gauP = gauP (nth l i) by simp]; exact hb9), (by rw [take_nth (by omega), List.flatMap_append, show [(nth l i)].flatMap gauP = gauP (nth l i) by simp, List.length_append]; omega), (fun j hj => by
    rcases Nat.lt_or_ge j i with h | h
    · exact hko j h
    · rw [show j = i by omega]; exact hx)⟩
 refine go ?_
 refine x_c func120 rfl rfl (bstr_c bk11 bk11 ((l.take i).flatMap gauP) _ hbl (by omega)) ?_
 rintro _ w77 ⟨rfl, u78⟩ zu78
 refine go ?_
 refine f_ret2 (v1 := .string (strB ((l.take i).flatMap gauP))) (v2 := .int .i64 0) results88 rfl rfl ?_
 have h200 : ¬ 200 < l.length := by omega
 have hil : l.take i = l := List.take_of_length_le (by omega)
 have he : chkGa none l = 0 := by rw [hc, List.drop_of_length_le (by omega)]; rfl
 exact ⟨by unfold textG; rw [if_neg h200, he, if_pos rfl, hil], u_d⟩

theorem WriteGauge_c (l : List Gau) (al : Option Addr) (bl ol cl : Nat) (w0 : World) (hl : Sl encGau 3 w0 al bl ol l) (hss : SlG w0 l) (hll : l.length ≤ 1000000000) (hT : Tab10 w0) (hpos : 0 < w0.heap.size) :
    CallsV Tryz.prog 44 [.slice al l.length cl] w0 (fun v w' => v = .tuple #[.string (strB (textG l).1), .int .i64 (textG l).2] ∧ Ext w0 w') := by
 refine f_n func44 ?_
 refine go ?_
 refine x_c func87 rfl rfl (gauges_c _) ?_
 rintro _ w4 ⟨rfl, u5⟩ zu5
 have E7 := Sc.mk ((Upd.refl (fun _ => False) w0).nx u5)
 refine go ?_
 refine x_c func88 rfl rfl (textG_c l al bl ol cl _ (hl.keep E7.u (fun _ h => h)) (hss.ext E7.u) hll (hT.ext E7.u) (by omega)) ?_
 rintro _ w9 ⟨rfl, u10⟩ zu10
 refine go ?_
 refine f_ret2 (v1 := .string (strB ((textG l).1))) (v2 := .int .i64 ((textG l).2)) results44 rfl rfl ?_
 exact ⟨rfl, u_d⟩

end Go.Proofs.YtjdcpnaocjddoaaGreatDoor
namespace Go.Proofs.YtjdcpnaocjddoaaGreatDoor
open Go Go.RowKit Go.Proofs.Tryz Go.Shelf
section
variable {rd : Option Nat} {P : Program} {ops : Array Oper} {Q : Exit → Act → World → Prop} {N : Nat} {ds : List Deferred} {rest : List Oper} {L : Slots} {w : World}
variable {d : Nat} {ty : TypeId} {pos : String} {aft : Array Edge} {g : Option (Nat × Bool)}
theorem t_neN {ms : Array (String × TypeId)} {xt yt : TypeId} {x : Operand} {v : Value} {b : Bool} (ht : P.underlying xt = some (.interface ms)) (hv : (v = .nilIface ∧ b = false) ∨ (∃ t p, v = .iface t p) ∧ b = true) (hg : grd ops L g = true) (hN : Nat.blt d N = true) (hx : ev L x = some v) (h : WL rd P ops Q N ds rest ((d, .bool b) :: L) w) : WL rd P ops Q N ds (⟨some d, .binOp .neq xt x (.const .nilIface) yt, ty, pos, aft, g⟩ :: rest) L w :=
  WL.value hg rfl hN (fun a ha => by
    have e1 := ha.ev hx
    have e2 : a.eval (.const .nilIface) = .nilIface := rfl
    have h0 : ∀ k, (Op.equalIn (k + 1) xt .nilIface .nilIface).run P w = .ok true w := fun k => by simp [Op.equalIn, run_underlying ht]
    have h1 : ∀ k t p, (Op.equalIn (k + 1) xt (.iface t p) .nilIface).run P w = .ok false w := fun k t p => by simp [Op.equalIn, run_underlying ht]
    have e3 : (do eqGuard .neq xt x (.const .nilIface) v .nilIface; binOp .neq xt v .nilIface : Sem Value).run P w = .ok (.bool b) w := by
      rcases hv with ⟨rfl, rfl⟩ | ⟨⟨t, p, rfl⟩, rfl⟩
      · simp only [eqGuard, binOp]
        simp [Op.equal, Op.maxDepth, h0 9999]
      · simp only [eqGuard, binOp]
        simp [Op.equal, Op.maxDepth, h1 9999]
    simp only [execOp, e1, e2]
    rw [Sem.run_bind, e3]; rfl) h
end
theorem wrap_lv {v d : Int} (hv : 0 ≤ v ∧ v ≤ 10000) (hd : -9223372036854775808 ≤ d ∧ d ≤ 9223372036854775807) : ((0 ≤ wrap64 (v + d) ∧ wrap64 (v + d) ≤ 10000) ↔ (0 ≤ v + d ∧ v + d ≤ 10000)) ∧ ((0 ≤ v + d ∧ v + d ≤ 10000) → wrap64 (v + d) = v + d) := by
  unfold wrap64; omega
set_option maxRecDepth 20000 in
theorem atoi_c (s : List UInt8) (w0 : World) (hl : s.length ≤ 1000000000) (hE : ErrV w0) : CallsV Tryz.prog 132 [.string (strB s)] w0 fun v w' => (∃ d, Lib.atoiAll s = .ok d ∧ v = .tuple #[.int .i64 d, .nilIface] ∧ Ext w0 w') ∨ (∃ n te pe, (∀ d, Lib.atoiAll s ≠ .ok d) ∧ v = .tuple #[.int .i64 n, .iface te pe] ∧ Ext w0 w') := by
  obtain ⟨ev0, ev1, h0, e0, h1, e1⟩ := hE
  have hz : (strB s).size ≤ 281474976710656 := by rw [strB_size]; omega
  cases h : Lib.atoiAll s
  · rename_i v
    refine Calls.mono (Any.strconv_Atoi_ok layAtoi (strB s) (by omega) v (by rw [strB_data]; exact h) w0) ?_
    rintro e w' ⟨rfl, hw⟩
    refine ⟨_, rfl, .inl ⟨v, rfl, rfl, ?_⟩⟩
    rcases hw with rfl | ⟨t, rfl⟩
    · exact Upd.refl _ _
    · exact Below.ext (Lib.bytesWorld_below _ _ _)
  · refine Calls.mono (Any.strconv_Atoi_syntax layAtoi (strB s) hz (by rw [strB_data]; exact h) ev0 w0 h0 e0) ?_
    rintro e w' ⟨N, rfl, -, -, hb⟩
    exact ⟨_, rfl, .inr ⟨_, _, _, (fun d h9 => by cases h9), rfl, Below.ext hb⟩⟩
  · refine Calls.mono (Any.strconv_Atoi_range layAtoi (strB s) hz (by rw [strB_data]; exact h) ev1 w0 h1 e1) ?_
    rintro e w' ⟨N, rfl, -, -, hb⟩
    exact ⟨_, rfl, .inr ⟨_, _, _, (fun d h9 => by cases h9), rfl, Below.ext hb⟩⟩
theorem own132 : Own Tryz.prog 132 := ⟨Tryz.f132, func132, by kernel_rfl, by kernel_rfl⟩

set_option maxRecDepth 20000 in
set_option maxHeartbeats 4000000 in
theorem gread_c (ws : List (List UInt8)) (aw : Option Addr) (bw ow cw : Nat) (w0 : World) (hs : Sl encStr 1 w0 aw bw ow ws) (hwl : ws.length ≤ 1000000) (hwm : ∀ x ∈ ws, x.length ≤ 900000) (hcw : ws.length ≤ cw) (hE : ErrV w0) (hpos : 0 < w0.heap.size) :
    CallsV Tryz.prog 131 [.slice aw ws.length cw] w0 (fun v w' => (∃ y : Gau, v = .agg (encGau y).toArray ∧ y.bare = parGW ws ∧ y.ob = 0 ∧ y.s.length ≤ 17592186044416 ∧ Acc encI 1 3 w0.heap.size w' y.ao y.g y.cp y.s) ∧ Ext w0 w') := by
 refine f_n func131 ?_
 refine go ?_
 refine x_n fun bk2 w3 ebk2 sbk2 B4 u5 => ?_
 iterate 3 refine st1 ?_
 refine x_k1 (fun _ => False) [0, 2] (fun (z9 : Bool) => [(15, .bool z9)]) (fun z9 w => (z9 = decide (ws.length < 3 ∨ 26 < ws.length))) (fun K12 hK12 => ?_) ?_
 ·
  refine go ?_
  refine t_splitp 11 rfl (fun g11 => ?_) (fun g11 => ?_)
  ·
   refine go ?_
   exact hK12 true (by first | exact (decide_eq_false (by omega)).symm | exact (decide_eq_true (by omega)).symm | exact decide_eq_decide.2 (by omega))
  refine go ?_
  exact hK12 (decide (26 < (ws.length : Int))) (by first | exact (decide_eq_false (by omega)).symm | exact (decide_eq_true (by omega)).symm | exact decide_eq_decide.2 (by omega))
 rintro z9 w13 hz9 u14 zu14
 refine q_b (fun g15 => ?_) fun g15 => ?_
 ·
  have hzb : (ws.length < 3 ∨ 26 < ws.length) := by rw [hz9] at g15; exact of_decide_eq_true g15
  refine go ?_
  refine x_s fun w17 sw17 B19 u18 => ?_
  refine go ?_
  refine f_ret1 (v := .agg #[.int .i64 0, .int .i64 0, .slice none 0 0]) results131 ⟨_, _, rfl, run_loadVarN (vs := [.int .i64 0, .int .i64 0, .slice none 0 0]) isAgg80 sizeOf80 rfl (B19.at.sub 0 3)⟩ ?_
  exact ⟨⟨gau0, rfl, by unfold parGW; rw [if_pos hzb]; rfl, rfl, by decide, Acc.nil _ _ _ _ _ hpos (by omega)⟩, u_d⟩
 have hzb : ¬ (ws.length < 3 ∨ 26 < ws.length) := by rw [hz9] at g15; exact of_decide_eq_false g15
 have hbw := hs.lt (show 0 < ws.length by omega)
 have hw0 := hwm _ (nth_mem (xs := ws) (i := 0) (by omega))
 have hw1 := hwm _ (nth_mem (xs := ws) (i := 1) (by omega))
 refine go ?_
 refine c_drawnM follows (fun i => i = bk2) (OTl [0, 2, 4, 8, 10, 12, 7, 16, 15, 19, 20, 23]) (by kernel_rfl) fun w22 u23 => ?_
 have zu23 := u23.size
 have E24 := Sc.mk ((((Upd.refl (fun _ => False) w0).nx u5).nx u14).nx u23)
 refine go ?_
 refine y_i 0 (hs.keep E24.u (fun _ h => h)) (fun _ => ?_)
 refine go ?_
 refine y_i 1 (hs.keep E24.u (fun _ h => h)) (fun _ => ?_)
 refine go ?_
 refine x_c func117 rfl rfl (numb_c (nth ws 0) _ (by omega) (hE.ext E24.u)) ?_
 rintro _ w28 ⟨rfl, u29⟩ zu29
 have E31 := Sc.mk (E24.u.nx u29)
 refine go ?_
 refine x_c func117 rfl rfl (numb_c (nth ws 1) _ (by omega) (hE.ext E31.u)) ?_
 rintro _ w33 ⟨rfl, u34⟩ zu34
 refine go ?_
 refine x_s fun w37 sw37 B39 u38 => ?_
 refine go ?_
 refine x_s fun w41 sw41 B43 u42 => ?_
 refine go ?_
 refine t_sliceFrom 2 underlying105 sizeOf9 rfl rfl rfl rfl rfl (by omega) (by omega) ?_
 refine go ?_
 refine x_l4 (fun i => i = bk2 ∨ w41.heap.size ≤ i) [2, 28, 29] (fun (i : Nat) (v : Int) (acc : List Int) (q : (Option Addr × Nat × Nat)) => [(3, .int .i64 v), (30, .int .i64 (i : Int))]) (fun i v acc q w => Blk w bk2 80 [.int .i64 (numP (nth ws 0)), .int .i64 (numP (nth ws 1)), .slice q.1 acc.length q.2.2] ∧ (i ≤ ws.length - 2) ∧ (lvA [] 0 (ws.drop 2) = lvA acc v ((ws.drop 2).drop i)) ∧ (0 ≤ v ∧ v ≤ 10000) ∧ (Acc encI 1 3 w0.heap.size w q.1 q.2.1 q.2.2 acc) ∧ (q.2.1 = 0 ∨ w41.heap.size ≤ q.2.1) ∧ (acc.length = i)) (fun i v acc q => ws.length - 2 - i) 0 0 ([]) (none, 0, 0) ⟨B43, (Nat.zero_le _), rfl, (by decide), (Acc.nil _ _ _ _ _ hpos (by omega)), (.inl rfl), rfl⟩ ?_
 rintro i v acc q w49 ⟨I51, hi, hlv, hv, hA, hqW, hal⟩ u50 zu50 K48 hK48
 have E52 := Sc.mk ((((E31.u.nx u34).next u38 (fun i hi h => by omega)).next u42 (fun i hi h => by omega)).next u50 (fun i hi h => by omega))
 have lt_q_2_1 := hA.lt
 have hdl : (ws.drop 2).length = ws.length - 2 := List.length_drop
 refine go ?_
 refine q_p (fun g31 => ?_) fun g31 => ?_
 ·
  have hwi := hwm (nth (ws.drop 2) i) (List.mem_of_mem_drop (nth_mem (xs := ws.drop 2) (i := i) (by omega)))
  refine go ?_
  refine g_i i (by have h9 := ((hs.keep E52.u (fun _ h => h))).sub cw 2 (ws.length - 2) hcw; rw [List.take_of_length_le (by rw [List.length_drop]; exact Nat.le_refl _)] at h9; exact h9) (fun _ => ?_)
  refine go ?_
  refine t_call own132 rfl rfl rfl rfl (atoi_c (nth (ws.drop 2) i) _ (by omega) (hE.ext E52.u)) (fun v59 w60 r62 => ?_)
  rcases r62 with ⟨d9, hd9, rfl, u61⟩ | ⟨n9, te9, pe9, hd9, rfl, u61⟩
  ·
   have zu61 := u61.size
   obtain ⟨hwr, hwe⟩ := wrap_lv (v := v) (d := d9) hv (Lib.atoiAll_bounds hd9)
   refine go ?_
   refine t_ariw (r := v + d9) rfl rfl rfl rfl rfl ?_
   refine go ?_
   refine t_neN underlying192 (.inl ⟨rfl, rfl⟩) rfl rfl rfl ?_
   refine go ?_
   refine x_l fun bk67 w68 ebk67 sbk67 B69 u70 => ?_
   refine x_c func62 rfl rfl (within1_v 0 10000 (wrap64 (v + d9)) bk67 _ _ B69) ?_
   rintro _ w73 ⟨rfl, u74⟩ zu74
   refine go ?_
   refine q_p (fun g49 => ?_) fun g49 => ?_
   ·
    have hout : ¬ (0 ≤ v + d9 ∧ v + d9 ≤ 10000) := fun h => absurd (hwr.2 h) g49
    refine go ?_
    refine x_s fun w78 sw78 B80 u79 => ?_
    refine go ?_
    refine f_ret1 (v := .agg #[.int .i64 0, .int .i64 0, .slice none 0 0]) results131 ⟨_, _, rfl, run_loadVarN (vs := [.int .i64 0, .int .i64 0, .slice none 0 0]) isAgg80 sizeOf80 rfl (B80.at.sub 0 3)⟩ ?_
    exact ⟨⟨gau0, rfl, by rw [parGW_none hzb (by rw [hlv, drop_nth (by omega)]; exact lvA_out hd9 hout)]; rfl, rfl, by decide, Acc.nil _ _ _ _ _ hpos (by omega)⟩, u_d⟩
   have hin : 0 ≤ v + d9 ∧ v + d9 ≤ 10000 := hwr.1 (Decidable.not_not.1 g49)
   refine c_same 3 (v := .int .i64 (v + d9)) rfl (congrArg (Value.int .i64) (hwe hin)) ?_
   refine go ?_
   refine x_l fun bk82 w83 ebk82 sbk82 B84 u85 => ?_
   have D87 := ((((hA.keep u61 (fun _ h => h)).keep u70 (fun _ h => h)).keep u74 (fun _ h => h)).keep u85 (fun _ h => h))
   refine t_append (z := .int .i64 0) (bytes := 8) (k := 1) (base := w0.heap.size) (v + d9) underlying59 (by kernel_rfl) rfl (by decide) (fun _ => rfl) (by intro x; simp [encI, Value.oneCell']) rfl rfl rfl rfl D87 B84 (by omega) (by omega) (by decide) (fun ao88 gb89 cp90 w91 A92 u93 gegb89 lngb89 => ?_)
   have zu93 := u93.size
   have lt_gb89 := A92.lt
   refine go ?_
   refine x_s fun w95 sw95 B97 u96 => ?_
   refine go ?_
   have D99 := (A92.keep u96 (fun hb => show ¬ (gb89 = bk2) by first | omega | assumption))
   exact hK48 (i + 1) (v + d9) (acc ++ [v + d9]) (ao88, gb89, cp90) ⟨B97, (by omega), (by rw [hlv, drop_nth (by omega), lvA_ok hd9 hin]), hin, D99, (show gb89 = 0 ∨ w41.heap.size ≤ gb89 by omega), (by rw [List.length_append, hal]; rfl)⟩
  have zu61 := u61.size
  refine go ?_
  refine t_ariw (r := v + n9) rfl rfl rfl rfl rfl ?_
  refine go ?_
  refine t_neN underlying192 (.inr ⟨⟨_, _, rfl⟩, rfl⟩) rfl rfl rfl ?_
  refine go ?_
  refine x_s fun w105 sw105 B107 u106 => ?_
  refine go ?_
  refine f_ret1 (v := .agg #[.int .i64 0, .int .i64 0, .slice none 0 0]) results131 ⟨_, _, rfl, run_loadVarN (vs := [.int .i64 0, .int .i64 0, .slice none 0 0]) isAgg80 sizeOf80 rfl (B107.at.sub 0 3)⟩ ?_
  exact ⟨⟨gau0, rfl, by rw [parGW_none hzb (by rw [hlv, drop_nth (by omega)]; exact lvA_bad hd9)]; rfl, rfl, by decide, Acc.nil _ _ _ _ _ hpos (by omega)⟩, u_d⟩
 refine go ?_
 refine x_s fun w110 sw110 B112 u111 => ?_
 refine go ?_
 refine f_ret1 (v := .agg #[.int .i64 (numP (nth ws 0)), .int .i64 (numP (nth ws 1)), .slice q.1 acc.length q.2.2]) results131 ⟨_, _, rfl, run_loadVarN (vs := [.int .i64 (numP (nth ws 0)), .int .i64 (numP (nth ws 1)), .slice q.1 acc.length q.2.2]) isAgg80 sizeOf80 rfl (B112.at.sub 0 3)⟩ ?_
 have D114 := (hA.keep u111 (fun hb => show ¬ (q.2.1 = bk2) by first | omega | assumption))
 exact ⟨⟨⟨numP (nth ws 0), numP (nth ws 1), acc, q.1, q.2.1, 0, q.2.2⟩, rfl, by rw [parGW_some hzb (by rw [hlv, List.drop_of_length_le (by omega)]; rfl)]; rfl, rfl, show acc.length ≤ 17592186044416 by omega, D114⟩, u_d⟩

end Go.Proofs.YtjdcpnaocjddoaaGreatDoor
