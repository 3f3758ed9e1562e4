/-
  Part 12 of the proof: contracts and plain laws. Conditions: none.
-/
import Derived.Maps.RangeRun
import Derived.Test.YtjdcpnaocjddoaaGreatDoorBK11
namespace Go.Proofs.YtjdcpnaocjddoaaGreatDoor
open Go Go.RowKit Go.Proofs.Tryz
theorem BuiM.new {w : World} {b : Nat} (h : Blk w b 190 [.pointer none, .slice none 0 0]) : BuiM b b [] w :=
  .inl ⟨Nat.le_refl _, .slice none 0 0, by unfold Blk at h; simpa using h, ⟨rfl, .inl ⟨rfl, rfl⟩⟩, by simp [Value.ownBlock]⟩
theorem BuiM.ext {B b : Nat} {l : List UInt8} {w w' : World} (h : BuiM B b l w) (u : Ext w w') : BuiM B b l w' := by
  have key : ∀ p, Lib.BuilderAt 190 5 B b p (Lib.byteCells l) w → Lib.BuilderAt 190 5 B b p (Lib.byteCells l) w' := fun p hp => by
    obtain ⟨h1, v, h2, ⟨h3, h4⟩, h5⟩ := hp
    refine ⟨h1, v, (u.block b (lt_of_block h2) id).trans h2, ⟨h3, ?_⟩, h5⟩
    rcases h4 with h4 | ⟨g, cap, cur, e1, e2, e3, e4⟩
    · exact .inl h4
    · exact .inr ⟨g, cap, cur, e1, e2, (u.block g (lt_of_block e3) id).trans e3, e4⟩
  rcases h with h | h
  · exact .inl (key _ h)
  · exact .inr (key _ h)
def chkB (m : Int) : List Bil → Int
  | [] => 0
  | x :: r => if okBill x = true then (if m < x.n then chkB x.n r else 6) else 2
/-- what WriteBills answers -/
def textP (l : List Bil) : List UInt8 × Int := if 200 < l.length then ([], 5) else if chkB 0 l = 0 then (l.flatMap billP, 0) else ([], chkB 0 l)
theorem chkB_ok {m : Int} {x : Bil} {r : List Bil} (h1 : okBill x = true) (h2 : m < x.n) : chkB m (x :: r) = chkB x.n r := by
  show (if okBill x = true then _ else _) = _
  rw [if_pos h1, if_pos h2]
theorem bills_c  (w0 : World) :
    CallsV Tryz.prog 78 [] w0 (fun v w' => v = .agg #[.func (.func 112) #[] #[], .func (.func 113) #[] #[], .func (.func 114) #[] #[], .func (.func 115) #[] #[], .int .i64 200] ∧ Ext w0 w') := by
 refine f_n func78 ?_
 refine go ?_
 refine x_n fun bk2 w3 ebk2 sbk2 B4 u5 => ?_
 refine go ?_
 refine x_s fun w8 sw8 B10 u9 => ?_
 refine go ?_
 refine f_ret1 (v := .agg #[.func (.func 112) #[] #[], .func (.func 113) #[] #[], .func (.func 114) #[] #[], .func (.func 115) #[] #[], .int .i64 200]) results78 ⟨_, _, rfl, run_loadVarN (vs := [.func (.func 112) #[] #[], .func (.func 113) #[] #[], .func (.func 114) #[] #[], .func (.func 115) #[] #[], .int .i64 200]) isAgg147 sizeOf147 rfl (B10.at.sub 0 5)⟩ ?_
 exact ⟨rfl, u_d⟩

set_option maxHeartbeats 4000000 in
theorem text_c (l : List Bil) (al : Option Addr) (bl ol cl : Nat) (w0 : World) (hl : Sl encBil 6 w0 al bl ol l) (hss : ∀ x ∈ l, Sl encI 1 w0 x.ao x.g x.ob x.s ∧ x.s.length ≤ 1000000) (hll : l.length ≤ 1000000000) (hT : Tab10 w0) (hpos : 0 < w0.heap.size) :
    CallsV Tryz.prog 79 [.agg #[.func (.func 112) #[] #[], .func (.func 113) #[] #[], .func (.func 114) #[] #[], .func (.func 115) #[] #[], .int .i64 200], .slice al l.length cl] w0 (fun v w' => v = .tuple #[.string (strB (textP l).1), .int .i64 (textP l).2] ∧ Ext w0 w') := by
 refine f_n func79 ?_
 refine go ?_
 refine x_b fun bk2 w3 ebk2 sbk2 B4 u5 => ?_
 refine go ?_
 refine q_p (fun g13 => ?_) fun g13 => ?_
 ·
  refine go ?_
  refine f_ret2 (v1 := .string (strB ([]))) (v2 := .int .i64 5) results79 rfl rfl ?_
  exact ⟨by unfold textP; rw [if_pos (by omega)], u_d⟩
 refine go ?_
 refine x_n fun bk11 w12 ebk11 sbk11 B13 u14 => ?_
 have hbui := BuiM.new B13
 refine go ?_
 refine x_l2 (fun i => bk11 ≤ i) [1, 2, 6, 14, 15] (fun (i : Nat) (m : Int) => [(16, .int .i64 (i : Int))]) (fun i m w => (i ≤ l.length) ∧ (chkB 0 l = chkB m (l.drop i)) ∧ (m = if i = 0 then 0 else (nth l (i - 1)).n) ∧ (BuiM bk11 bk11 ((l.take i).flatMap billP) w) ∧ (((l.take i).flatMap billP).length ≤ 1109 * i)) (fun i m => l.length - i) 0 0 ⟨(Nat.zero_le _), rfl, rfl, hbui, (Nat.zero_le _)⟩ ?_
 rintro i m w19 ⟨hi, hc, hm, hbl, hln⟩ u20 zu20 K18 hK18
 have E21 := Sc.mk ((((Upd.refl (fun _ => False) w0).nx u5).nx u14).next u20 (fun i hi h => by omega))
 refine go ?_
 refine q_p (fun g17 => ?_) fun g17 => ?_
 ·
  refine go ?_
  refine g_i i (hl.keep E21.u (fun _ h => h)) (fun _ => ?_)
  refine go ?_
  refine x_n fun bk27 w28 ebk27 sbk27 B29 u30 => ?_
  refine go ?_
  refine x_s fun w32 sw32 B34 u33 => ?_
  have E35 := Sc.mk ((E21.u.nx u30).next u33 (fun i hi h => by omega))
  refine go ?_
  refine x_c func112 rfl rfl (isBill_c (nth l i) _ ((hss _ (nth_mem (show i < l.length by omega))).1.keep E35.u (fun _ h => h)) (hss _ (nth_mem (show i < l.length by omega))).2) ?_
  rintro _ w39 ⟨rfl, u40⟩ zu40
  refine go ?_
  refine q_b (fun g21 => ?_) fun g21 => ?_
  ·
   have hx : okBill (nth l i) = false := by simpa using g21
   refine go ?_
   refine f_ret2 (v1 := .string (strB ([]))) (v2 := .int .i64 2) results79 rfl rfl ?_
   have h200 : ¬ 200 < l.length := by omega
   have he : chkB 0 l = 2 := by rw [hc, drop_nth (by omega)]; unfold chkB; rw [if_neg (by rw [hx]; decide)]
   exact ⟨by unfold textP; rw [if_neg h200, he, if_neg (by decide)], u_d⟩
  have hx : okBill (nth l i) = true := by simpa using g21
  have hx9 := okBill_iff hx
  have hpl := billP_le hx
  refine go ?_
  refine c_drawnM follows (fun _ => False) (OTl [0, 2, 4, 6, 8, 10, 12, 14, 16, 18, 20, 23, 24, 26, 28]) (by kernel_rfl) fun w45 u46 => ?_
  have zu46 := u46.size
  have E47 := Sc.mk ((E35.u.nx u40).nx u46)
  refine go ?_
  refine y_splitp 30 rfl (fun g30 => ?_) (fun g30 => ?_)
  ·
   refine go ?_
   refine y_i (i - 1) (hl.keep E47.u (fun _ h => h)) (fun _ => ?_)
   refine go ?_
   refine x_c func113 rfl rfl (billAfter_c (nth l (i - 1)) (nth l i) _) ?_
   rintro _ w50 ⟨rfl, u51⟩ zu51
   have E53 := Sc.mk (E47.u.nx u51)
   refine go ?_
   refine q_b (fun g27 => ?_) fun g27 => ?_
   ·
    have hmn : ¬ (m < (nth l i).n) := by
      rw [hm]
      first
        | (rw [if_pos (by omega)]; omega)
        | (rw [if_neg (by omega)]; simpa using g27)
    refine go ?_
    refine f_ret2 (v1 := .string (strB ([]))) (v2 := .int .i64 6) results79 rfl rfl ?_
    have h200 : ¬ 200 < l.length := by omega
    have he : chkB 0 l = 6 := by rw [hc, drop_nth (by omega)]; unfold chkB; rw [if_pos hx, if_neg hmn]
    exact ⟨by unfold textP; rw [if_neg h200, he, if_neg (by decide)], u_d⟩
   have hmn : (m < (nth l i).n) := by
     rw [hm]
     first
       | (rw [if_pos (by omega)]; omega)
       | (rw [if_neg (by omega)]; simpa using g27)
   refine go ?_
   refine x_c func114 rfl rfl (billLine_c (nth l i) _ ((hss _ (nth_mem (show i < l.length by omega))).1.keep E53.u (fun _ h => h)) hx (hT.ext E53.u) (by omega)) ?_
   rintro _ w56 ⟨rfl, u57⟩ zu57
   refine x_c func119 rfl rfl (wstr_c bk11 bk11 ((l.take i).flatMap billP) (billP (nth l i)) _ (hbl.ext (((((((Upd.refl (fun _ => False) _).nx u30).next u33 (fun i hi (h : i = bk27) => show False by first | omega | assumption)).nx u40).nx u46).nx u51).nx u57)) (by omega) (by omega)) ?_
   rintro v60 w61 ⟨hb9, u62⟩ zu62
   refine go ?_
   exact hK18 (i + 1) ((nth l i).n) ⟨(by omega), (by rw [hc, drop_nth (by omega), chkB_ok hx hmn]), (by rw [if_neg (by omega), Nat.add_sub_cancel]), (by rw [take_nth (by omega), List.flatMap_append, show [(nth l i)].flatMap billP = billP (nth l i) by simp]; exact hb9), (by rw [take_nth (by omega), List.flatMap_append, show [(nth l i)].flatMap billP = billP (nth l i) by simp, List.length_append]; omega)⟩
  refine go ?_
  refine x_c func114 rfl rfl (billLine_c (nth l i) _ ((hss _ (nth_mem (show i < l.length by omega))).1.keep E47.u (fun _ h => h)) hx (hT.ext E47.u) (by omega)) ?_
  rintro _ w66 ⟨rfl, u67⟩ zu67
  refine x_c func119 rfl rfl (wstr_c bk11 bk11 ((l.take i).flatMap billP) (billP (nth l i)) _ (hbl.ext ((((((Upd.refl (fun _ => False) _).nx u30).next u33 (fun i hi (h : i = bk27) => show False by first | omega | assumption)).nx u40).nx u46).nx u67)) (by omega) (by omega)) ?_
  rintro v70 w71 ⟨hb9, u72⟩ zu72
  refine go ?_
  exact hK18 (i + 1) ((nth l i).n) ⟨(by omega), (by rw [hc, drop_nth (by omega), chkB_ok hx (show m < (nth l i).n by rw [hm, if_pos (by omega)]; omega)]), (by rw [if_neg (by omega), Nat.add_sub_cancel]), (by rw [take_nth (by omega), List.flatMap_append, show [(nth l i)].flatMap billP = billP (nth l i) by simp]; exact hb9), (by rw [take_nth (by omega), List.flatMap_append, show [(nth l i)].flatMap billP = billP (nth l i) by simp, List.length_append]; omega)⟩
 refine go ?_
 refine x_c func120 rfl rfl (bstr_c bk11 bk11 ((l.take i).flatMap billP) _ hbl (by omega)) ?_
 rintro _ w77 ⟨rfl, u78⟩ zu78
 refine go ?_
 refine f_ret2 (v1 := .string (strB ((l.take i).flatMap billP))) (v2 := .int .i64 0) results79 rfl rfl ?_
 have h200 : ¬ 200 < l.length := by omega
 have hil : l.take i = l := List.take_of_length_le (by omega)
 have he : chkB 0 l = 0 := by rw [hc, List.drop_of_length_le (by omega)]; rfl
 exact ⟨by unfold textP; rw [if_neg h200, he, if_pos rfl, hil], u_d⟩

theorem WriteBills_c (l : List Bil) (al : Option Addr) (bl ol cl : Nat) (w0 : World) (hl : Sl encBil 6 w0 al bl ol l) (hss : ∀ x ∈ l, Sl encI 1 w0 x.ao x.g x.ob x.s ∧ x.s.length ≤ 1000000) (hll : l.length ≤ 1000000000) (hT : Tab10 w0) (hpos : 0 < w0.heap.size) :
    CallsV Tryz.prog 38 [.slice al l.length cl] w0 (fun v w' => v = .tuple #[.string (strB (textP l).1), .int .i64 (textP l).2] ∧ Ext w0 w') := by
 refine f_n func38 ?_
 refine go ?_
 refine x_c func78 rfl rfl (bills_c _) ?_
 rintro _ w4 ⟨rfl, u5⟩ zu5
 have E7 := Sc.mk ((Upd.refl (fun _ => False) w0).nx u5)
 refine go ?_
 refine x_c func79 rfl rfl (text_c l al bl ol cl _ (hl.keep E7.u (fun _ h => h)) (fun x hx => ⟨(hss x hx).1.keep E7.u (fun _ h => h), (hss x hx).2⟩) hll (hT.ext E7.u) (by omega)) ?_
 rintro _ w9 ⟨rfl, u10⟩ zu10
 refine go ?_
 refine f_ret2 (v1 := .string (strB ((textP l).1))) (v2 := .int .i64 ((textP l).2)) results38 rfl rfl ?_
 exact ⟨rfl, u_d⟩

end Go.Proofs.YtjdcpnaocjddoaaGreatDoor
namespace Go.Proofs.YtjdcpnaocjddoaaGreatDoor
open Go Go.RowKit Go.Proofs.Tryz
theorem Sl.ofBlk {α : Type} [Inhabited α] {enc : α → List Value} {k : Nat} (hk : ∀ x, (enc x).length = k) {w : World} {b : Nat} {t : TypeId} {xs : List α} (h : Blk w b t (xs.flatMap enc)) : Sl enc k w (some ⟨b, 0, none⟩) b 0 xs :=
  ⟨fun _ => rfl, fun _ => h.lt, fun i hi j v hv => by
    have h1 := flatMap_at hk xs i j v hi hv
    rw [Nat.zero_add]
    exact h.get h1⟩
/-! ### The document's examples -/
def knE1 : List Ent := [⟨2, 1, 1, 3, 0, 0⟩]
def knE4 : List Ent := [⟨0, 1, 1, 10, 0, 0⟩, ⟨0, 2, 1, 0, 5, 50⟩, ⟨0, 3, 1, 30, 0, 0⟩, ⟨0, 4, 1, 0, 5, 20⟩]
def knB (b : Nat) : Bil := ⟨5, 9, 1200, 10, 250, [3, 77], some ⟨b, 0, none⟩, b, 0, 2⟩
theorem kn_code : codeR 5 = ([48, 48, 49, 49, 48], 0) := by kernel_rfl
theorem kn_dec : decP [48, 48, 49, 49, 48, 49] = (5, 5, 0) := by kernel_rfl
theorem kn_log1 : chkE knE1 = 0 := by kernel_rfl
theorem kn_log2 : (logP knE1).length = 64 ∧ nth (logP knE1) 0 = 142 ∧ nth (logP knE1) 1 = 64 ∧ nth (logP knE1) 30 = 1 ∧ nth (logP knE1) 31 = 14 ∧ nth (logP knE1) 62 = 4 ∧ nth (logP knE1) 63 = 223 := ⟨by kernel_rfl, by kernel_rfl, by kernel_rfl, by kernel_rfl, by kernel_rfl, by kernel_rfl, by kernel_rfl⟩
theorem kn_rep : repP zSea knE4 = (0, 0, ⟨0, 1000, [⟨1, 30, [⟨5, 30⟩]⟩], [⟨5, 50⟩], [⟨5, 20⟩]⟩) := by kernel_rfl
theorem kn_i5 : Lib.itoa 5 = [53] := by simp [Lib.itoa, Lib.decDigits]
theorem kn_i9 : Lib.itoa 9 = [57] := by simp [Lib.itoa, Lib.decDigits]
theorem kn_i1200 : Lib.itoa 1200 = [49, 50, 48, 48] := by simp [Lib.itoa, Lib.decDigits]
theorem kn_i10 : Lib.itoa 10 = [49, 48] := by simp [Lib.itoa, Lib.decDigits]
theorem kn_i250 : Lib.itoa 250 = [50, 53, 48] := by simp [Lib.itoa, Lib.decDigits]
theorem kn_i3 : Lib.itoa 3 = [51] := by simp [Lib.itoa, Lib.decDigits]
theorem kn_i77 : Lib.itoa 77 = [55, 55] := by simp [Lib.itoa, Lib.decDigits]
def knT : List UInt8 := [53, 32, 57, 32, 49, 50, 48, 48, 32, 49, 48, 62, 50, 53, 48, 32, 51, 44, 55, 55, 32, 99, 108, 10]
theorem kn_chkB (b : Nat) : chkB 0 [knB b] = 0 := by kernel_rfl
theorem kn_bill (b : Nat) : billP (knB b) = knT := by
  unfold billP sealsP
  show sealedP [Lib.itoa 5, Lib.itoa 9, Lib.itoa 1200, Lib.itoa 10 ++ [62] ++ Lib.itoa 250, Lib.join [Lib.itoa 3, Lib.itoa 77] [44]] = knT
  rw [kn_i5, kn_i9, kn_i1200, kn_i10, kn_i250, kn_i3, kn_i77]
  kernel_rfl
theorem kn_txt (b : Nat) : textP [knB b] = (knT, 0) := by
  unfold textP
  rw [if_neg (by simp), if_pos (kn_chkB b)]
  have e : [knB b].flatMap billP = billP (knB b) := by simp
  rw [e, kn_bill]
theorem knCode_c (w0 : World) : CallsV Tryz.prog 24 [.int .i64 5] w0 fun v w' => v = .tuple #[.string (strB [48, 48, 49, 49, 48]), .int .i64 0] ∧ Ext w0 w' := by
  have h := Code_c 5 w0
  rw [kn_code] at h
  exact h
theorem knDec_c (w0 : World) : CallsV Tryz.prog 26 [.string (strB [48, 48, 49, 49, 48, 49])] w0 fun v w' => v = .tuple #[.int .i64 5, .int .i64 5, .int .i64 0] ∧ Ext w0 w' := by
  have h := Decode_c [48, 48, 49, 49, 48, 49] w0 (by decide)
  rw [kn_dec] at h
  exact h
theorem knLog_c (b : Nat) (w0 : World) (hB : Blk w0 b 43 [.int .i64 2, .int .i64 1, .int .i64 1, .int .i64 3, .int .i64 0, .int .i64 0]) : CallsV Tryz.prog 15 [.slice (some ⟨b, 0, none⟩) 1 1] w0 fun v w' => (∃ a9 g9 c9, v = .tuple #[.slice a9 64 c9, .int .i64 0] ∧ Acc encY 1 5 w0.heap.size w' a9 g9 c9 (logP knE1)) ∧ Ext w0 w' := by
  have h := WriteLog_c knE1 (some ⟨b, 0, none⟩) b 0 1 w0 (Sl.ofBlk (enc := encEnt) (k := 6) (xs := knE1) (fun _ => rfl) hB) (by decide) (by have := hB.lt; omega)
  rw [kn_log1, kn_log2.1] at h
  exact h
theorem knRep_c (b : Nat) (w0 : World) (hB : Blk w0 b 43 (knE4.flatMap encEnt)) : CallsV Tryz.prog 20 [.agg #[.int .i64 0, .slice none 0 0, .slice none 0 0, .slice none 0 0, .int .i64 0], .slice (some ⟨b, 0, none⟩) 4 4] w0 fun v w' => (∃ m a c l1 a1 c1 l2 a2 c2, v = .tuple #[.agg #[.int .i64 m, .slice a 1 c, .slice a1 l1 c1, .slice a2 l2 c2, .int .i64 1000], .int .i64 0, .int .i64 0]) ∧ Ext w0 w' := by
  have hz : SeaOk 0 SG0.st := ⟨asc_nil, fun h hh => (by cases hh), CgOk.nil _, CgOk.nil _, by decide, by decide, by decide⟩
  have hp : 0 < w0.heap.size := by have := hB.lt; omega
  refine CallsV.mono (Replay_c knE4 (some ⟨b, 0, none⟩) b 0 4 SG0 0 0 0 0 w0 (Sl.ofBlk (enc := encEnt) (k := 6) (xs := knE4) (fun _ => rfl) hB) (by decide) hp (SIn.zero hp) hz (by decide)) ?_
  rintro v w' ⟨⟨V9, rfl, hI, hst, _⟩, u⟩
  have hr : repP SG0.st knE4 = (0, 0, ⟨0, 1000, [⟨1, 30, [⟨5, 30⟩]⟩], [⟨5, 50⟩], [⟨5, 20⟩]⟩) := kn_rep
  rw [hr] at hst ⊢
  have h1 : V9.wk = 1000 := congrArg Sea.wk hst
  have h2 : V9.rs.length = 1 := by
    have h3 := congrArg (fun s : Sea => s.hs.length) hst
    have h3 : (V9.rs.map HR.hul).length = 1 := h3
    rwa [List.length_map] at h3
  exact ⟨⟨V9.m, V9.ah, V9.ch, _, V9.al, V9.cl, _, V9.au, V9.cu, by unfold SG.cells; rw [h1, h2]; rfl⟩, u⟩
theorem knBills_c (b b2 : Nat) (w0 : World) (hT : Tab10 w0) (hB2 : Blk w0 b2 3 [.int .i64 3, .int .i64 77]) (hB : Blk w0 b 71 [.int .i64 5, .int .i64 9, .int .i64 1200, .int .i64 10, .int .i64 250, .slice (some ⟨b2, 0, none⟩) 2 2]) : CallsV Tryz.prog 38 [.slice (some ⟨b, 0, none⟩) 1 1] w0 fun v w' => v = .tuple #[.string (strB knT), .int .i64 0] ∧ Ext w0 w' := by
  have h := WriteBills_c [knB b2] (some ⟨b, 0, none⟩) b 0 1 w0 (Sl.ofBlk (enc := encBil) (k := 6) (xs := [knB b2]) (fun _ => rfl) hB) (fun x hx => by rw [List.mem_singleton.1 hx]; exact ⟨SlI.own (xs := [3, 77]) hB2, by show 2 ≤ 1000000; decide⟩) (by simp) hT (by have := hB.lt; omega)
  rw [kn_txt] at h
  exact h
set_option maxHeartbeats 4000000 in
theorem known_c  (w0 : World) (hT : Tab10 w0) (_hpos : 0 < w0.heap.size) :
    CallsV Tryz.prog 13 [] w0 (fun v w' => v = .bool true ∧ Ext w0 w') := by
 have hl64 : (logP knE1).length = 64 := kn_log2.1
 have ht24 : knT.length = 24 := rfl
 refine f_n func13 ?_
 refine go ?_
 refine x_c func24 rfl rfl (knCode_c _) ?_
 rintro _ w4 ⟨rfl, u5⟩ zu5
 refine go ?_
 refine x_c func26 rfl rfl (knDec_c _) ?_
 rintro _ w10 ⟨rfl, u11⟩ zu11
 refine go ?_
 refine x_l fun bk15 w16 ebk15 sbk15 B17 u18 => ?_
 refine x_c func15 rfl rfl (knLog_c bk15 _ B17) ?_
 rintro _ w21 ⟨⟨a9, g9, c9, rfl, hF9⟩, u22⟩ zu22
 have lt_g9 := hF9.lt
 refine go ?_
 refine x_l fun bk26 w27 ebk26 sbk26 B28 u29 => ?_
 refine x_c func20 rfl rfl (knRep_c bk26 _ B28) ?_
 rintro _ w32 ⟨⟨m9, ah9, ch9, l19, al9, cl9, l29, au9, cu9, rfl⟩, u33⟩ zu33
 refine go ?_
 refine x_n fun bk36 w37 ebk36 sbk36 B38 u39 => ?_
 refine x_s fun w41 sw41 B43 u42 => ?_
 refine go ?_
 refine x_l fun bk46 w47 ebk46 sbk46 B48 u49 => ?_
 refine go ?_
 refine x_l fun bk51 w52 ebk51 sbk51 B53 u54 => ?_
 have B56 := (B48.kx u54)
 refine x_c func38 rfl rfl (knBills_c bk51 bk46 _ (hT.ext (((((((((((Upd.refl (fun _ => False) w0).nx u5).nx u11).nx u18).nx u22).nx u29).nx u33).nx u39).next u42 (fun i hi h => by omega)).nx u49).nx u54)) B56 B53) ?_
 rintro _ w58 ⟨rfl, u59⟩ zu59
 refine go ?_
 refine t_lenS underlying9 rfl rfl rfl rfl (t_same 77 (v := .int .i64 24) rfl rfl ?_)
 refine go ?_
 refine t_bo (Bo.eqS ([48, 48, 49, 49, 48]) ([48, 48, 49, 49, 48])) rfl rfl rfl rfl (t_same 81 (v := .bool true) rfl (congrArg Value.bool (decide_eq_true rfl)) ?_)
 refine go ?_
 have D65 := (((((((hF9.keep u29 (fun _ h => h)).keep u33 (fun _ h => h)).keep u39 (fun _ h => h)).keep u42 (fun hb => show ¬ (g9 = bk36) by first | omega | assumption)).keep u49 (fun _ h => h)).keep u54 (fun _ h => h)).keep u59 (fun _ h => h))
 refine g_i 0 (D65.sl (fun _ => rfl)) (fun _ => ?_)
 refine st1 ?_
 refine t_same 93 (v := .int .u8 142) rfl (by rw [kn_log2.2.1]; rfl) ?_
 refine go ?_
 refine g_i 1 (D65.sl (fun _ => rfl)) (fun _ => ?_)
 refine st1 ?_
 refine t_same 99 (v := .int .u8 64) rfl (by rw [kn_log2.2.2.1]; rfl) ?_
 refine go ?_
 refine g_i 30 (D65.sl (fun _ => rfl)) (fun _ => ?_)
 refine st1 ?_
 refine t_same 105 (v := .int .u8 1) rfl (by rw [kn_log2.2.2.2.1]; rfl) ?_
 refine go ?_
 refine g_i 31 (D65.sl (fun _ => rfl)) (fun _ => ?_)
 refine st1 ?_
 refine t_same 111 (v := .int .u8 14) rfl (by rw [kn_log2.2.2.2.2.1]; rfl) ?_
 refine go ?_
 refine g_i 62 (D65.sl (fun _ => rfl)) (fun _ => ?_)
 refine st1 ?_
 refine t_same 117 (v := .int .u8 4) rfl (by rw [kn_log2.2.2.2.2.2.1]; rfl) ?_
 refine go ?_
 refine g_i 63 (D65.sl (fun _ => rfl)) (fun _ => ?_)
 refine st1 ?_
 refine t_same 123 (v := .int .u8 223) rfl (by rw [kn_log2.2.2.2.2.2.2]; rfl) ?_
 refine go ?_
 refine t_subS 0 21 underlying9 rfl rfl rfl (.inr ⟨rfl, rfl⟩) (k := .i64) (m := 0) (x1 := .tmp 0) (.inl ⟨rfl, rfl, by first | rfl | omega⟩) (by omega) (by omega) (t_bo (Bo.eqS (((knT).drop 0).take (21 - 0)) ([53, 32, 57, 32, 49, 50, 48, 48, 32, 49, 48, 62, 50, 53, 48, 32, 51, 44, 55, 55, 32])) rfl rfl rfl rfl (t_same 134 (v := .bool true) rfl (congrArg Value.bool (decide_eq_true (by kernel_rfl))) ?_))
 refine go ?_
 refine f_1 results13 ?_
 exact ⟨rfl, u_d⟩

end Go.Proofs.YtjdcpnaocjddoaaGreatDoor
namespace Go.Proofs.YtjdcpnaocjddoaaGreatDoor
open Go Go.RowKit
/-- How keys and values of a map are laid. -/
structure Cod (α β : Type) where
  k : α → Value
  v : β → Value
def kvG {α β : Type} (c : Cod α β) (p : α × β) : Value × Value := (c.k p.1, c.v p.2)
/-- In block r lies a map with these keys and values. -/
def MapG {α β : Type} (cd : Cod α β) (m : List (α × β)) (w : World) (r : Nat) : Prop := ∃ es c, w.heap[r]? = some (.map es c) ∧ es.toList.map (fun e => (e.key, e.val)) = m.map (kvG cd) ∧ (∀ e ∈ es.toList, e.born < c) ∧ (es.toList.map (·.born)).Nodup
section
variable {α β : Type} {cd : Cod α β}
theorem MapG.lt {m : List (α × β)} {w : World} {r : Nat} (h : MapG cd m w r) : r < w.heap.size := by obtain ⟨es, c, h, _⟩ := h; exact lt_of_block h
theorem MapG.keep {m : List (α × β)} {w w' : World} {r : Nat} {S : Nat → Prop} (h : MapG cd m w r) (u : Upd S w w') (hn : ¬ S r) : MapG cd m w' r := by
  obtain ⟨es, c, h1, h2⟩ := h
  exact ⟨es, c, (u.block r (lt_of_block h1) hn).trans h1, h2⟩
theorem MapG.ofMemo {w : World} {r : Nat} (h : ∀ F, Memo F w r) : MapG cd [] w r := by
  obtain ⟨es, c, h1, h2⟩ := h (fun _ _ _ => False)
  have he : es.toList = [] := by
    cases he : es.toList with
    | nil => rfl
    | cons e l => obtain ⟨_, _, _, hf⟩ := h2 e (by rw [he]; simp); exact hf.elim
  exact ⟨es, c, h1, by rw [he]; rfl, by rw [he]; simp, by rw [he]; simp⟩
end
/-- Where a key stands, and its value. -/
def fG {α β : Type} [DecidableEq α] : List (α × β) → α → Nat → Option (Nat × β)
  | [], _, _ => none
  | p :: m, a, i => if a = p.1 then some (i, p.2) else fG m a (i + 1)
def gtG {α β : Type} [DecidableEq α] (m : List (α × β)) (a : α) : Option β := (fG m a 0).map (·.2)
def upG {α β : Type} [DecidableEq α] (m : List (α × β)) (a : α) (v : β) : List (α × β) := match fG m a 0 with
  | none => m ++ [(a, v)]
  | some p => m.set p.1 (a, v)
/-- What the key's type must know: whether two keys are one. -/
structure KeyOK (P : Program) (K : TypeId) {α β : Type} [DecidableEq α] (cd : Cod α β) : Prop where
  find : ∀ (m : List (α × β)) (es : List MapEntry) (a : α) (w : World), es.map (fun e => (e.key, e.val)) = m.map (kvG cd) → (Instr.findKey K (cd.k a) es).run P w = .ok ((fG m a 0).map fun p => (p.1, cd.v p.2)) w
  check : ∀ (em : Bool) (a : α) (w : World), (Instr.checkKey em 10000 K (cd.k a)).run P w = .ok () w
  stays : ∀ (a : α) (w : World), (Instr.keyThatStays (cd.k a) (cd.k a)).run P w = .ok (cd.k a) w
section
variable {α β : Type} [DecidableEq α] {cd : Cod α β}
theorem fG_at : ∀ (m : List (α × β)) (a : α) (i : Nat) {j : Nat} {v : β}, fG m a i = some (j, v) → i ≤ j ∧ m[j - i]? = some (a, v)
  | [], _, _, _, _, h => by cases h
  | p :: m, a, i, j, v, h => by
    unfold fG at h
    split at h
    · rename_i e
      simp only [Option.some.injEq, Prod.mk.injEq] at h
      obtain ⟨rfl, rfl⟩ := h
      refine ⟨Nat.le_refl _, ?_⟩
      rw [Nat.sub_self, e]; rfl
    · have := fG_at m a (i + 1) h
      refine ⟨by omega, ?_⟩
      rw [show j - i = (j - (i + 1)) + 1 by omega]
      simpa using this.2
end
section
variable {P : Program} {α β : Type} [DecidableEq α]
theorem findNowG {v : β → Value} {a : Int} : ∀ (m : List (Int × β)) (es : List MapEntry) (i : Nat), es.map (fun e => (e.key, e.val)) = m.map (kvG ⟨.int .i64, v⟩) → Instr.findNow (.int .i64) (.int .i64 a) es i = some ((fG m a i).map fun p => (p.1, v p.2))
  | [], [], i, _ => rfl
  | [], _ :: _, _, h => by simp at h
  | _ :: _, [], _, h => by simp at h
  | p :: m, e :: es, i, h => by
    simp only [List.map_cons, List.cons.injEq, kvG, Prod.mk.injEq] at h
    obtain ⟨⟨hk, hv⟩, h⟩ := h
    have ih := findNowG (a := a) m es (i + 1) h
    by_cases q : a = p.1
    · simp [Instr.findNow, hk, hv, Instr.sameNow, fG, q]
    · have hs : Instr.sameNow (.int .i64) (.int .i64 a) e.key = some false := by rw [hk]; simp [Instr.sameNow, q]
      rw [Instr.findNow, hs]
      simp only [fG, if_neg q]
      exact ih
theorem checkKeyN {K : TypeId} (hK : P.underlying K = some (.int .i64)) (em : Bool) (n : Nat) (a : Int) (w : World) : (Instr.checkKey em (n + 1) K (.int .i64 a)).run P w = .ok () w := by
  simp [Instr.checkKey, run_underlying hK]
theorem KeyOK.int {K : TypeId} (hK : P.underlying K = some (.int .i64)) (v : β → Value) : KeyOK P K (⟨.int .i64, v⟩ : Cod Int β) :=
  ⟨fun m es a w h => by simp [Instr.findKey, run_underlying hK, findNowG m es 0 h], fun em a w => checkKeyN hK em 9999 a w, fun a w => by simp [Instr.keyThatStays, Instr.sameBits]⟩
end
section steps
variable {rd : Option Nat} {P : Program} {ops : Array Oper} {Q : Exit → Act → World → Prop} {N : Nat} {ds : List Deferred} {rest : List Oper} {L : Slots} {w : World}
variable {α β : Type} [DecidableEq α] {cd : Cod α β}
variable {d : Nat} {ty : TypeId} {pos : String} {aft : Array Edge} {g : Option (Nat × Bool)}
/-- m[a]. -/
theorem t_getG {T K E : TypeId} {x i : Operand} {r : Nat} {a : α} {z : Value} {m : List (α × β)} (hK : KeyOK P K cd) (hu : P.underlying T = some (.map K E)) (hz : ∀ w, (zeroValue E).run P w = .ok z w)
    (hg : grd ops L g = true) (hN : Nat.blt d N = true) (hx : ev L x = some (.map (some r))) (hi : ev L i = some (cd.k a)) (hm : MapG cd m w r)
    (h : WL rd P ops Q N ds rest ((d, match gtG m a with | some v => cd.v v | none => z) :: L) w) : WL rd P ops Q N ds (⟨some d, .lookup T x i false, ty, pos, aft, g⟩ :: rest) L w := by
  obtain ⟨es, c, q1, q2, _⟩ := hm
  have hgo : (getObj r).run P w = .ok (.map es c) w := by simp [getObj, Sem.run, q1]
  have hj := fun w => hK.find m es.toList a w q2
  unfold gtG at h
  cases hf : fG m a 0 with
  | none =>
    rw [hf] at h hj
    refine WL.value hg rfl hN (fun a hk => ?_) h
    simp only [execOp, hk.ev hx, hk.ev hi]
    simp [Instr.lookup, run_underlying hu, hgo, hK.check, hj, hz]
  | some p =>
    rw [hf] at h hj
    refine WL.value hg rfl hN (fun a hk => ?_) h
    simp only [execOp, hk.ev hx, hk.ev hi]
    simp [Instr.lookup, run_underlying hu, hgo, hK.check, hj]
/-- m[a] = v. -/
theorem t_mapG {T K E : TypeId} {x i y : Operand} {r : Nat} {a : α} {v : β} {m : List (α × β)} (hK : KeyOK P K cd) (hu : P.underlying T = some (.map K E))
    (hg : grd ops L g = true) (hx : ev L x = some (.map (some r))) (hi : ev L i = some (cd.k a)) (hy : ev L y = some (cd.v v)) (hm : MapG cd m w r)
    (h : ∀ w', w'.heap.size = w.heap.size → MapG cd (upG m a v) w' r → Upd (· = r) w w' → WL rd P ops Q N ds rest L w') : WL rd P ops Q N ds (⟨none, .mapUpdate T x i y, ty, pos, aft, g⟩ :: rest) L w := by
  obtain ⟨es, c, h1, h2, h3, h4⟩ := hm
  have hlt := lt_of_block h1
  have hgo : (getObj r).run P w = .ok (.map es c) w := by simp [getObj, Sem.run, h1]
  have hset : ∀ o, (setObj r o).run P w = .ok () { w with heap := w.heap.setIfInBounds r o } := fun o => by simp [setObj, Sem.run, h1]
  have hupd : ∀ o, Upd (· = r) w { w with heap := w.heap.setIfInBounds r o } := fun o => ⟨rfl, rfl, rfl, by simp, fun k hk hn => by simp [Array.getElem?_setIfInBounds_ne (show r ≠ k from fun e => hn e.symm)]⟩
  have hj := fun w => hK.find m es.toList a w h2
  unfold upG at h
  cases hf : fG m a 0 with
  | none =>
    rw [hf] at h hj
    refine WL.effect (w' := { w with heap := w.heap.setIfInBounds r (.map (es.push { key := cd.k a, val := cd.v v, born := c }) (c + 1)) }) hg rfl (fun ac hk => ?_) (h _ (by simp) ⟨_, _, by simp [hlt]; exact ⟨rfl, rfl⟩, ?_, ?_, ?_⟩ (hupd _))
    · simp only [execOp, hk.ev hx, hk.ev hi, hk.ev hy]
      simp [Instr.mapUpdate, run_underlying hu, hgo, hK.check, hj, hset]
    · rw [Array.toList_push, List.map_append, h2, List.map_append]; rfl
    · intro e he
      rw [Array.toList_push] at he
      rcases List.mem_append.1 he with he | he
      · have := h3 e he; omega
      · rw [List.mem_singleton.1 he]; exact Nat.lt_succ_self c
    · rw [Array.toList_push, List.map_append, List.nodup_append]
      refine ⟨h4, by simp, fun x hx y hy e => ?_⟩
      obtain ⟨q, hq, rfl⟩ := List.mem_map.1 hx
      have h5 := h3 q hq
      simp at hy
      omega
  | some p =>
    obtain ⟨j, u⟩ := p
    rw [hf] at h hj
    simp only [] at h
    have hmod : ∀ (q : Nat), (es.toList.modify j fun e => { e with key := cd.k a, val := cd.v v })[q]? = if j = q then (es.toList[q]?).map (fun e => { e with key := cd.k a, val := cd.v v }) else es.toList[q]? := fun q => by
      rw [List.getElem?_modify]
      by_cases hq : j = q
      · simp [hq]
      · simp [hq]
    have hat := fG_at m a 0 hf
    rw [Nat.sub_zero] at hat
    have hjl : j < es.toList.length := by
      have h6 := congrArg List.length h2
      rw [List.length_map, List.length_map] at h6
      have := (List.getElem?_eq_some_iff.1 hat.2).1
      omega
    have hjs : j < es.size := by simpa using hjl
    have hek : (es[j]?).map (·.key) = some (cd.k a) := by
      have h7 : (es.toList.map (fun e => (e.key, e.val)))[j]? = (m.map (kvG cd))[j]? := by rw [h2]
      rw [List.getElem?_map, List.getElem?_map, hat.2] at h7
      rw [Array.getElem?_toList] at h7
      cases he : es[j]? with
      | none => rw [he] at h7; cases h7
      | some e => rw [he] at h7; simp [kvG] at h7; simp [h7.1]
    have hkey : ((es[j]?).map (·.key)).getD (cd.k a) = cd.k a := by rw [hek]; rfl
    have hsame := fun w => hK.stays a w
    have hml : (es.modify j fun e => { e with key := cd.k a, val := cd.v v }).toList = es.toList.modify j fun e => { e with key := cd.k a, val := cd.v v } := by simp
    refine WL.effect (w' := { w with heap := w.heap.setIfInBounds r (.map (es.modify j fun e => { e with key := cd.k a, val := cd.v v }) c) }) hg rfl (fun ac hk => ?_) (h _ (by simp) ⟨_, _, by simp [hlt]; exact ⟨rfl, rfl⟩, ?_, ?_, ?_⟩ (hupd _))
    · simp only [execOp, hk.ev hx, hk.ev hi, hk.ev hy]
      simp only [Instr.mapUpdate]
      simp [run_underlying hu, hgo, hK.check, hj, hset, hkey, hsame]
    · rw [hml]
      refine List.ext_getElem? fun q => ?_
      rw [List.getElem?_map, hmod, List.getElem?_map]
      have h7 : (es.toList.map (fun e => (e.key, e.val)))[q]? = (m.map (kvG cd))[q]? := by rw [h2]
      rw [List.getElem?_map, List.getElem?_map] at h7
      by_cases hq : j = q
      · subst hq
        rw [if_pos rfl, List.getElem?_set_self (by rw [← List.length_map (f := kvG cd), ← h2, List.length_map]; exact hjl), List.getElem?_eq_getElem hjl]; rfl
      · rw [if_neg hq, List.getElem?_set_ne hq]
        cases he : es.toList[q]? with
        | none => rw [he] at h7; simpa using h7
        | some e => rw [he] at h7; simpa using h7
    · intro e he
      rw [hml] at he
      obtain ⟨q, hq⟩ := List.getElem?_of_mem he
      rw [hmod] at hq
      cases h8 : es.toList[q]? with
      | none => rw [h8] at hq; simp at hq
      | some e0 =>
        rw [h8] at hq
        have h9 := h3 e0 (List.mem_of_getElem? h8)
        split at hq
        · simp only [Option.map_some, Option.some.injEq] at hq; subst hq; exact h9
        · simp only [Option.some.injEq] at hq; subst hq; exact h9
    · have hb : (es.modify j fun e => { e with key := cd.k a, val := cd.v v }).toList.map (·.born) = es.toList.map (·.born) := by
        rw [hml]
        refine List.ext_getElem? fun q => ?_
        rw [List.getElem?_map, hmod, List.getElem?_map]
        split
        · cases es.toList[q]? <;> rfl
        · rfl
      rw [hb]; exact h4
end steps
section steps2
variable {rd : Option Nat} {P : Program} {ops : Array Oper} {Q : Exit → Act → World → Prop} {N : Nat} {ds : List Deferred} {rest : List Oper} {L : Slots} {w : World}
variable {α β : Type} {cd : Cod α β}
variable {d : Nat} {ty : TypeId} {pos : String} {aft : Array Edge} {g : Option (Nat × Bool)}
/-- A range over the map in block r is under way, its iterator lies in block it; these entries are to come. -/
def ItG {α β : Type} (cd : Cod α β) (m left : List (α × β)) (w : World) (r it : Nat) : Prop := ∃ es c since seen c0, w.heap[r]? = some (.map es c) ∧ es.toList.map (fun e => (e.key, e.val)) = m.map (kvG cd) ∧ (es.toList.map (·.born)).Nodup ∧ w.heap[it]? = some (.mapIter (some r) since seen c0) ∧ (∀ e ∈ es.toList, e.born < since) ∧ since ≤ c0 ∧ since ≤ c ∧ (leftOf es seen).toList.map (fun e => (e.key, e.val)) = left.map (kvG cd)
theorem ItG.keep {m left : List (α × β)} {w w' : World} {r it : Nat} {S : Nat → Prop} (h : ItG cd m left w r it) (u : Upd S w w') (h1 : ¬ S r) (h2 : ¬ S it) : ItG cd m left w' r it := by
  obtain ⟨es, c, since, seen, c0, q1, q2, q3, q4, q5⟩ := h
  exact ⟨es, c, since, seen, c0, (u.block r (lt_of_block q1) h1).trans q1, q2, q3, (u.block it (lt_of_block q4) h2).trans q4, q5⟩
theorem ItG.same {m left : List (α × β)} {w w' : World} {r it : Nat} (h : ItG cd m left w r it) (h1 : w'.heap[r]? = w.heap[r]?) (h2 : w'.heap[it]? = w.heap[it]?) : ItG cd m left w' r it := by
  obtain ⟨es, c, since, seen, c0, q1, q2, q3, q4, q5⟩ := h
  exact ⟨es, c, since, seen, c0, h1.trans q1, q2, q3, h2.trans q4, q5⟩
theorem ItG.map {m left : List (α × β)} {w : World} {r it : Nat} (h : ItG cd m left w r it) : ∃ a b, w.heap[r]? = some (.map a b) := by obtain ⟨es, c, since, seen, c0, q1, q2, q3, q4, q5⟩ := h; exact ⟨_, _, q1⟩
end steps2
end Go.Proofs.YtjdcpnaocjddoaaGreatDoor
namespace Go.Proofs.YtjdcpnaocjddoaaGreatDoor
open Go Go.RowKit Go.Proofs.Tryz
/-! ### a season: the map of tons, and sums -/
section
variable {α β : Type} [DecidableEq α]
def upR (a : α) (v : β) : List (α × β) → List (α × β)
  | [] => [(a, v)]
  | p :: m => if a = p.1 then (a, v) :: m else p :: upR a v m
def gtR (a : α) : List (α × β) → Option β
  | [] => none
  | p :: m => if a = p.1 then some p.2 else gtR a m
theorem fG_shift (a : α) : ∀ (m : List (α × β)) (i : Nat), fG m a (i + 1) = (fG m a i).map fun p => (p.1 + 1, p.2)
  | [], _ => rfl
  | p :: m, i => by
    unfold fG
    split
    · rfl
    · exact fG_shift a m (i + 1)
theorem gtG_eq (a : α) : ∀ (m : List (α × β)), gtG m a = gtR a m
  | [] => rfl
  | p :: m => by
    unfold gtG fG gtR
    split
    · rfl
    · rw [fG_shift, ← gtG_eq a m]
      unfold gtG
      cases fG m a 0 <;> rfl
theorem upG_eq (a : α) (v : β) : ∀ (m : List (α × β)), upG m a v = upR a v m
  | [] => rfl
  | p :: m => by
    have ih := upG_eq a v m
    unfold upG fG upR
    by_cases q : a = p.1
    · simp [q]
    · simp only [if_neg q]
      rw [fG_shift, ← ih]
      unfold upG
      cases fG m a 0 <;> rfl
theorem gtR_upR (a : α) (v : β) (b : α) : ∀ (m : List (α × β)), gtR b (upR a v m) = if b = a then some v else gtR b m
  | [] => by
    unfold upR gtR
    split <;> rfl
  | p :: m => by
    unfold upR
    split
    · rename_i e
      unfold gtR
      by_cases q : b = a
      · simp [q]
      · rw [if_neg q, if_neg q, if_neg (by rw [← e]; exact q)]
    · rename_i e
      rw [gtR, gtR_upR a v b m]
      by_cases q : b = a
      · subst q; rw [if_neg e, if_pos rfl, if_pos rfl]
      · rw [if_neg q, if_neg q, ← gtR]
end
def gI (m : List (Int × Int)) (b : Int) : Int := (gtG m b).getD 0
abbrev cdI : Cod Int Int := ⟨.int .i64, .int .i64⟩
theorem gI_up (m : List (Int × Int)) (a v b : Int) : gI (upG m a v) b = if b = a then v else gI m b := by
  unfold gI
  rw [gtG_eq, gtG_eq, upG_eq, gtR_upR]
  split <;> rfl
section
variable {rd : Option Nat} {P : Program} {ops : Array Oper} {Q : Exit → Act → World → Prop} {N : Nat} {ds : List Deferred} {rest : List Oper} {L : Slots} {w : World}
variable {d : Nat} {ty : TypeId} {pos : String} {aft : Array Edge} {g : Option (Nat × Bool)}
theorem t_getI {T K E : TypeId} {x i : Operand} {r : Nat} {a : Int} {m : List (Int × Int)} (hK : P.underlying K = some (.int .i64)) (hu : P.underlying T = some (.map K E)) (hz : ∀ w, (zeroValue E).run P w = .ok (.int .i64 0) w)
    (hg : grd ops L g = true) (hN : Nat.blt d N = true) (hx : ev L x = some (.map (some r))) (hi : ev L i = some (.int .i64 a)) (hm : MapG cdI m w r)
    (h : WL rd P ops Q N ds rest ((d, .int .i64 (gI m a)) :: L) w) : WL rd P ops Q N ds (⟨some d, .lookup T x i false, ty, pos, aft, g⟩ :: rest) L w := by
  refine t_getG (cd := cdI) (a := a) (m := m) (z := .int .i64 0) (KeyOK.int hK _) hu hz hg hN hx hi hm ?_
  unfold gI at h
  cases hq : gtG m a with
  | none => rw [hq] at h; exact h
  | some v => rw [hq] at h; exact h
theorem t_mapI {T K E : TypeId} {x i y : Operand} {r : Nat} {a v : Int} {m : List (Int × Int)} (hK : P.underlying K = some (.int .i64)) (hu : P.underlying T = some (.map K E))
    (hg : grd ops L g = true) (hx : ev L x = some (.map (some r))) (hi : ev L i = some (.int .i64 a)) (hy : ev L y = some (.int .i64 v)) (hm : MapG cdI m w r)
    (h : ∀ w', w'.heap.size = w.heap.size → MapG cdI (upG m a v) w' r → Upd (· = r) w w' → WL rd P ops Q N ds rest L w') : WL rd P ops Q N ds (⟨none, .mapUpdate T x i y, ty, pos, aft, g⟩ :: rest) L w :=
  t_mapG (cd := cdI) (a := a) (v := v) (m := m) (KeyOK.int hK _) hu hg hx hi hy hm h
end
theorem tonP_le {b : Int} : ∀ {c : List Crg}, (∀ x ∈ c, 0 ≤ x.t) → 0 ≤ tonP b c ∧ tonP b c ≤ tonP 0 c
  | [], _ => by simp [tonP]
  | x :: c, h => by
    have h1 := tonP_le (b := b) (c := c) (fun y hy => h y (List.mem_cons_of_mem _ hy))
    have h2 := h x List.mem_cons_self
    simp only [tonP, true_or, if_true]
    split <;> omega
theorem tonP_take {b : Int} {c : List Crg} (h : ∀ x ∈ c, 0 ≤ x.t) (k : Nat) : 0 ≤ tonP b (c.take k) ∧ tonP b (c.take k) ≤ tonP b c := by
  have e : tonP b c = tonP b (c.take k) + tonP b (c.drop k) := by rw [← tonP_app, List.take_append_drop]
  have h1 := (tonP_le (b := b) (c := c.drop k) (fun x hx => h x (List.mem_of_mem_drop hx))).1
  have h2 := (tonP_le (b := b) (c := c.take k) (fun x hx => h x (List.mem_of_mem_take hx))).1
  omega
theorem tonP_next {b : Int} {c : List Crg} {k : Nat} (hk : k < c.length) : tonP b (c.take (k + 1)) = tonP b (c.take k) + (if b = 0 ∨ (nth c k).b = b then (nth c k).t else 0) := by
  rw [take_nth hk, tonP_snoc]
theorem tonP_noneB {b : Int} (hb : b ≠ 0) : ∀ {l : List Crg}, (∀ x ∈ l, x.b ≠ b) → tonP b l = 0
  | [], _ => rfl
  | x :: l, h => by
    simp only [tonP]
    rw [tonP_noneB hb (fun y hy => h y (List.mem_cons_of_mem _ hy)), if_neg (fun q => q.elim hb (h x List.mem_cons_self))]; rfl
theorem tonP_uniq : ∀ {l : List Crg} {k : Nat}, Asc (fun x : Crg => x.b) l → k < l.length → (nth l k).b ≠ 0 → tonP (nth l k).b l = (nth l k).t
  | x :: l, 0, h, _, hb => by
    have e : nth (x :: l) 0 = x := rfl
    rw [e] at hb ⊢
    obtain ⟨h1, _⟩ := asc_cons.1 h
    simp only [tonP, or_true, if_true]
    rw [tonP_noneB hb (fun y hy => by have := h1 y hy; omega)]; omega
  | x :: l, k + 1, h, hk, hb => by
    have e : nth (x :: l) (k + 1) = nth l k := rfl
    rw [e] at hb ⊢
    obtain ⟨h1, h2⟩ := asc_cons.1 h
    have hk : k < l.length := by simpa using hk
    have h3 := h1 _ (nth_mem hk)
    simp only [tonP]
    rw [tonP_uniq h2 hk hb, if_neg (fun q => q.elim hb (fun q => by have h3 : x.b < (nth l k).b := h3; omega))]; omega
def allR (b : Int) (rs : List HR) : Int := allT b (rs.map HR.hul)
theorem allR_next {b : Int} {rs : List HR} {i : Nat} (h : i < rs.length) : allR b (rs.take (i + 1)) = allR b (rs.take i) + tonP b (nth rs i).c := by
  unfold allR
  rw [take_nth h, List.map_append, allT_app]
  show _ + (tonP b (nth rs i).c + 0) = _
  omega
theorem allT_range {b : Int} : ∀ {l : List Hul}, (∀ h ∈ l, (∀ x ∈ h.c, 0 ≤ x.t) ∧ tonP 0 h.c ≤ 100000) → 0 ≤ allT b l ∧ allT b l ≤ 100000 * (l.length : Int)
  | [], _ => by simp [allT]
  | h :: l, hh => by
    have h1 := allT_range (b := b) (l := l) (fun y hy => hh y (List.mem_cons_of_mem _ hy))
    have h2 := hh h List.mem_cons_self
    have h3 := tonP_le (b := b) h2.1
    simp only [allT, List.length_cons]; omega
/-- The tons in a map. -/
def MapT (m : List (Int × Int)) (F : Int → Int) : Prop := ∀ b, b ≠ 0 → gI m b = F b
theorem MapT.up {m : List (Int × Int)} {F G : Int → Int} {a v : Int} (h : MapT m F) (ha : v = G a) (hG : ∀ b, b ≠ 0 → b ≠ a → G b = F b) : MapT (upG m a v) G := fun b hb => by
  rw [gI_up]
  by_cases q : b = a
  · rw [if_pos q, q, ha]
  · rw [if_neg q, h b hb, hG b hb q]
theorem MapT.cg {m : List (Int × Int)} {A : Int → Int} {c : List Crg} {k : Nat} (h : MapT m (fun b => A b + tonP b (c.take k))) (hk : k < c.length) (hb : (nth c k).b ≠ 0) : MapT (upG m (nth c k).b (gI m (nth c k).b + (nth c k).t)) (fun b => A b + tonP b (c.take (k + 1))) := by
  refine h.up ?_ (fun b hb0 hn => ?_)
  · show _ = A _ + _
    rw [h _ hb, tonP_next hk, if_pos (.inr rfl)]
    show A _ + _ + _ = _
    omega
  · show A _ + _ = A _ + _
    rw [tonP_next hk, if_neg (fun q => q.elim hb0 (fun q => hn q.symm))]; omega
theorem CgOk.pos {T : Int} {c : List Crg} (h : CgOk T c) : ∀ x ∈ c, 0 ≤ x.t := fun x hx => by have := h.2 x hx; omega
theorem CgOk.at_ {T : Int} {c : List Crg} {k : Nat} (h : CgOk T c) (hk : k < c.length) : (1 ≤ (nth c k).b ∧ (nth c k).b ≤ 9999) ∧ (1 ≤ (nth c k).t ∧ (nth c k).t ≤ T) := h.2 _ (nth_mem hk)
theorem CgOk.sum {T : Int} {c : List Crg} (h : CgOk T c) (hT : 0 ≤ T ∧ T ≤ 1000000000) (b : Int) : 0 ≤ tonP b c ∧ tonP b c ≤ 10000000000000 := by
  suffices ∀ l : List Crg, (∀ x ∈ l, 0 ≤ x.t ∧ x.t ≤ 1000000000) → 0 ≤ tonP b l ∧ tonP b l ≤ 1000000000 * (l.length : Int) by
    have h1 := this c (fun x hx => by have := h.2 x hx; omega)
    have h2 := h.len
    omega
  intro l
  induction l with
  | nil => intro _; simp [tonP]
  | cons x l ih =>
    intro hl
    have h1 := ih (fun y hy => hl y (List.mem_cons_of_mem _ hy))
    have h2 := hl x List.mem_cons_self
    simp only [tonP, List.length_cons]
    split <;> omega
theorem SeaOk.hulls {T : Int} {V : SG} (h : SeaOk T V.st) (b : Int) (i : Nat) : 0 ≤ allR b (V.rs.take i) ∧ allR b (V.rs.take i) ≤ 100000 * (V.rs.length : Int) := by
  have h1 : ∀ y ∈ (V.rs.take i).map HR.hul, (∀ x ∈ y.c, 0 ≤ x.t) ∧ tonP 0 y.c ≤ 100000 := fun y hy => by
    obtain ⟨r, hr, rfl⟩ := List.mem_map.1 hy
    have h2 := h.hul (HR.hul r) (List.mem_map.2 ⟨r, List.mem_of_mem_take hr, rfl⟩)
    exact ⟨h2.2.2.1.pos, h2.2.2.2⟩
  have h3 := allT_range (b := b) h1
  unfold allR
  rw [List.length_map, List.length_take] at h3
  omega
/-! ### a season: replays, one by one and all together -/
theorem runP_zero : ∀ {l : List Ent} {S : Sea} {i : Nat}, (runP S i l).1 = 0 → (runP S i l).2.1 = 0
  | [], _, _, _ => rfl
  | x :: l, S, i, h => by
    by_cases hx : (stepP S x).1 = 0
    · rw [runP_ok hx] at h ⊢; exact runP_zero h
    · exfalso
      have e : runP S i (x :: l) = ((stepP S x).1, i, S) := by
        show (if (stepP S x).1 = 0 then _ else _) = _
        rw [if_neg hx]
      rw [e] at h
      exact hx h
theorem runP_shift : ∀ (l : List Ent) (S : Sea) (i j : Nat), (runP S i l).1 = (runP S j l).1 ∧ (runP S i l).2.2 = (runP S j l).2.2
  | [], _, _, _ => ⟨rfl, rfl⟩
  | x :: l, S, i, j => by
    by_cases hx : (stepP S x).1 = 0
    · rw [runP_ok hx, runP_ok hx]; exact runP_shift l _ _ _
    · have e : ∀ k, runP S k (x :: l) = ((stepP S x).1, k, S) := fun k => by
        show (if (stepP S x).1 = 0 then _ else _) = _
        rw [if_neg hx]
      rw [e, e]; exact ⟨rfl, rfl⟩
theorem runP_split : ∀ {a b : List Ent} {S : Sea} {i : Nat}, (runP S i (a ++ b)).1 = 0 → (runP S i a).1 = 0
  | [], _, _, _, _ => rfl
  | x :: a, b, S, i, h => by
    by_cases hx : (stepP S x).1 = 0
    · rw [List.cons_append, runP_ok hx] at h
      rw [runP_ok hx]; exact runP_split h
    · exfalso
      have e : runP S i (x :: (a ++ b)) = ((stepP S x).1, i, S) := by
        show (if (stepP S x).1 = 0 then _ else _) = _
        rw [if_neg hx]
      rw [List.cons_append, e] at h
      exact hx h
theorem runP_ok_sea : ∀ {l : List Ent} {S : Sea} {i : Nat} {T : Int}, SeaOk T S → T + 100000 * (l.length : Int) ≤ 1000000000 → (runP S i l).1 = 0 → SeaOk (T + 100000 * (l.length : Int)) (runP S i l).2.2
  | [], S, i, T, h, _, _ => by
    show SeaOk (T + 100000 * ((0 : Nat) : Int)) S
    rwa [show T + 100000 * ((0 : Nat) : Int) = T by omega]
  | x :: l, S, i, T, h, hT, h0 => by
    rw [List.length_cons] at hT ⊢
    by_cases hx : (stepP S x).1 = 0
    · rw [runP_ok hx] at h0 ⊢
      have h1 := runP_ok_sea (h.step (by omega) hx) (by omega) h0
      rwa [show T + 100000 + 100000 * (l.length : Int) = T + 100000 * ((l.length + 1 : Nat) : Int) by omega] at h1
    · exfalso
      have e : runP S i (x :: l) = ((stepP S x).1, i, S) := by
        show (if (stepP S x).1 = 0 then _ else _) = _
        rw [if_neg hx]
      rw [e] at h0
      exact hx h0
theorem runP_snoc {gs : List Ent} {x : Ent} {S0 S : Sea} (h : runP S0 0 gs = (0, 0, S)) (hx : (stepP S x).1 = 0) : runP S0 0 (gs ++ [x]) = (0, 0, { (stepP S x).2 with m := x.m }) := by
  rw [runP_app [x] (by rw [h]), h, runP_ok hx]; rfl
theorem rep_of_run {S S' : Sea} {l : List Ent} (hl : l.length ≤ 2000) (h : runP S 0 l = (0, 0, S')) : repP S l = (0, 0, S') := by
  unfold repP
  rw [if_neg (by omega), h, if_pos rfl]
/-- entries in two parts -/
theorem runP_cut {gs : List Ent} {S : Sea} (k : Nat) (h : runP zSea 0 gs = (0, 0, S)) (hl : gs.length ≤ 2000) : ∃ H, repP zSea (gs.take k) = (0, 0, H) ∧ repP H (gs.drop k) = (0, 0, S) ∧ SeaOk (100000 * ((gs.take k).length : Int)) H := by
  have e : gs.take k ++ gs.drop k = gs := List.take_append_drop k gs
  have h1 : (runP zSea 0 (gs.take k)).1 = 0 := runP_split (b := gs.drop k) (by rw [e, h])
  have h2 := runP_app (gs.drop k) h1
  rw [e, h] at h2
  have h3 := runP_shift (gs.drop k) (runP zSea 0 (gs.take k)).2.2 0 (0 + (gs.take k).length)
  rw [← h2] at h3
  have hz : SeaOk 0 zSea := ⟨asc_nil, fun h hh => (by cases hh), CgOk.nil _, CgOk.nil _, by decide, by decide, by decide⟩
  have hlt : (gs.take k).length ≤ 2000 := by rw [List.length_take]; omega
  have hld : (gs.drop k).length ≤ 2000 := by rw [List.length_drop]; omega
  refine ⟨(runP zSea 0 (gs.take k)).2.2, rep_of_run hlt (Prod.ext h1 (Prod.ext (runP_zero h1) rfl)), rep_of_run hld (Prod.ext h3.1 (Prod.ext (runP_zero h3.1) h3.2)), ?_⟩
  have h4 := runP_ok_sea hz (by omega) h1
  simpa using h4
theorem rep1 (S : Sea) (x : Ent) : ((repP S [x]).1 = 0 → (stepP S x).1 = 0 ∧ (repP S [x]).2.2 = { (stepP S x).2 with m := x.m }) ∧ ((repP S [x]).1 ≠ 0 → (repP S [x]).2.1 = 0 ∧ (repP S [x]).2.2 = zSea) := by
  rw [rep_one]
  by_cases hx : (stepP S x).1 = 0
  · rw [if_pos hx]; exact ⟨fun _ => ⟨hx, rfl⟩, fun h => absurd rfl h⟩
  · rw [if_neg hx]; exact ⟨fun h => absurd h hx, fun _ => ⟨rfl, rfl⟩⟩
theorem st_zero {V : SG} (h : V.st = zSea) : V.m = 0 ∧ V.wk = 0 ∧ V.rs.length = 0 ∧ V.ld.length = 0 ∧ V.un.length = 0 := by
  have h1 : V.rs.map HR.hul = [] := congrArg Sea.hs h
  have h2 : V.ld = [] := congrArg Sea.ld h
  have h3 : V.un = [] := congrArg Sea.un h
  exact ⟨congrArg Sea.m h, congrArg Sea.wk h, by have := congrArg List.length h1; simpa using this, by rw [h2]; rfl, by rw [h3]; rfl⟩
theorem seaOk_zero : SeaOk 0 zSea := ⟨asc_nil, fun h hh => (by cases hh), CgOk.nil _, CgOk.nil _, by decide, by decide, by decide⟩
/-- Replay, the state's parts one by one. -/
theorem Rep_c (l : List Ent) (al : Option Addr) (bl ol cl : Nat) (V : SG) (T : Int) (w0 : World) (hl : Sl encEnt 6 w0 al bl ol l) (hll : l.length ≤ 1000000000) (hpos : 0 < w0.heap.size) (hI : SIn w0 V 0 0 0) (hok : SeaOk T V.st) (hT : T ≤ 500000000) :
    CallsV Tryz.prog 20 [.agg #[.int .i64 V.m, .slice V.ah V.rs.length V.ch, .slice V.al V.ld.length V.cl, .slice V.au V.un.length V.cu, .int .i64 V.wk], .slice al l.length cl] w0 fun v w' => (∃ V9 : SG, v = .tuple #[.agg #[.int .i64 V9.m, .slice V9.ah V9.rs.length V9.ch, .slice V9.al V9.ld.length V9.cl, .slice V9.au V9.un.length V9.cu, .int .i64 V9.wk], .int .i64 ((repP V.st l).2.1 : Int), .int .i64 (repP V.st l).1] ∧ SIn w' V9 0 0 0 ∧ V9.st = (repP V.st l).2.2 ∧ SeaF w0.heap.size V9) ∧ Ext w0 w' :=
  Replay_c l al bl ol cl V 0 0 0 T w0 hl hll hpos hI hok hT
theorem Rep0_c (l : List Ent) (al : Option Addr) (bl ol cl : Nat) (w0 : World) (hl : Sl encEnt 6 w0 al bl ol l) (hll : l.length ≤ 1000000000) (hpos : 0 < w0.heap.size) :
    CallsV Tryz.prog 20 [.agg #[.int .i64 0, .slice none 0 0, .slice none 0 0, .slice none 0 0, .int .i64 0], .slice al l.length cl] w0 fun v w' => (∃ V9 : SG, v = .tuple #[.agg #[.int .i64 V9.m, .slice V9.ah V9.rs.length V9.ch, .slice V9.al V9.ld.length V9.cl, .slice V9.au V9.un.length V9.cu, .int .i64 V9.wk], .int .i64 ((repP zSea l).2.1 : Int), .int .i64 (repP zSea l).1] ∧ SIn w' V9 0 0 0 ∧ V9.st = (repP zSea l).2.2 ∧ SeaF w0.heap.size V9) ∧ Ext w0 w' :=
  Rep_c l al bl ol cl SG0 0 w0 hl hll hpos (SIn.zero hpos) seaOk_zero (by decide)
/-- A list with one entry that lies in a block of its own. -/
theorem Sl.one {x : Ent} {w : World} {b : Nat} (h : Blk w b 43 [.int .i64 x.m, .int .i64 x.k, .int .i64 x.h, .int .i64 x.p, .int .i64 x.b, .int .i64 x.t]) : Sl encEnt 6 w (some ⟨b, 0, none⟩) b 0 [x] := Sl.ofBlk (enc := encEnt) (k := 6) (xs := [x]) (fun _ => rfl) h
theorem SeaOk.parts {T : Int} {V : SG} (h : SeaOk T V.st) : V.rs.length ≤ 999 ∧ V.ld.length ≤ 9999 ∧ V.un.length ≤ 9999 ∧ ∀ r ∈ V.rs, r.c.length ≤ 9999 := ⟨h.rlen, h.ld.len, h.un.len, fun r hr => (h.rhul r hr).2.2.1.len⟩
theorem Bal.at_ {V : SG} (h : Bal V.st) (b : Int) : allR b V.rs + tonP b V.un = tonP b V.ld := h b
theorem Sl.dropN {α : Type} [Inhabited α] {enc : α → List Value} {k : Nat} {w : World} {ao : Option Addr} {b o cap l : Nat} {xs : List α} (h : Sl enc k w ao b o xs) (hc : xs.length ≤ cap) : Sl enc k w (subAddr ao cap l k) b (o + l * k) (xs.drop l) := by
  have h1 := h.sub cap l (xs.length - l) hc
  rwa [List.take_of_length_le (by rw [List.length_drop]; omega)] at h1
theorem SG_parts {V U : SG} (h : V.st = U.st) : V.ld.length = U.ld.length ∧ V.un.length = U.un.length ∧ V.rs.length = U.rs.length := by
  obtain ⟨_, _, h1, h2, h3, _⟩ := st_eq h
  exact ⟨by rw [h2], by rw [h3], h1⟩
theorem SG_cs {V U : SG} (h : V.st = U.st) (hc : ∀ r ∈ U.rs, r.c.length ≤ 9999) : ∀ r ∈ V.rs, r.c.length ≤ 9999 := fun r hr => by
  obtain ⟨_, _, h1, _, _, h4⟩ := st_eq h
  obtain ⟨j, hj, rfl⟩ := List.mem_iff_getElem.1 hr
  rw [← nth_eq hj, (h4 j hj).2.2]
  exact hc _ (nth_mem (by omega))
theorem Sl.takeN {α : Type} [Inhabited α] {enc : α → List Value} {k : Nat} {w : World} {ao : Option Addr} {b o cap n : Nat} {xs : List α} (h : Sl enc k w ao b o xs) (hc : xs.length ≤ cap) : Sl enc k w (subAddr ao cap 0 k) b o (xs.take n) := by
  have h1 := h.sub cap 0 n hc
  rwa [Nat.zero_mul, Nat.add_zero, List.drop_zero] at h1
theorem entries_c (l : List Ent) (al : Option Addr) (bl ol cl : Nat) (w0 : World) (hl : Sl encEnt 6 w0 al bl ol l) (hll : l.length ≤ 1000000) (hpos : 0 < w0.heap.size) :
    CallsV Tryz.prog 14 [.slice al l.length cl] w0 (fun v w' => (∃ ao g cp, v = .slice ao (List.length l) cp ∧ Acc encEnt 6 43 w0.heap.size w' ao g cp l) ∧ Ext w0 w') := by
 refine f_n func14 ?_
 refine go ?_
 refine x_l fun bk3 w4 ebk3 sbk3 B5 u6 => ?_
 refine go ?_
 refine t_copy (enc := encEnt) (z := .agg #[.int .i64 0, .int .i64 0, .int .i64 0, .int .i64 0, .int .i64 0, .int .i64 0]) (bytes := 48) (k := 6) (ys := l) underlying22 (by kernel_rfl) rfl (by decide) (fun _ => rfl) (by intro x; simp [encEnt, Value.oneCell']) rfl rfl rfl rfl B5 (hl.keep ((Upd.refl (fun _ => False) w0).nx u6) (fun _ h => h)) (by omega) (by decide) (fun ao8 gb9 cp10 w11 A12 u13 gegb9 => ?_)
 have zu13 := u13.size
 have lt_gb9 := A12.lt
 refine go ?_
 refine f_1 results14 ?_
 obtain ⟨gz, hz⟩ := Acc.lower (base' := w0.heap.size) A12 (by omega) hpos
 exact ⟨⟨_, gz, _, rfl, hz⟩, u_d⟩

end Go.Proofs.YtjdcpnaocjddoaaGreatDoor
