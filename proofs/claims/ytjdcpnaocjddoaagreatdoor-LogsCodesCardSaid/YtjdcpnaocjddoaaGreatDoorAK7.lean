/-
  Part 7 of the proof: contracts and plain laws. Conditions: none.
-/
import Derived.Test.YtjdcpnaocjddoaaGreatDoorAK6
namespace Go.Proofs.YtjdcpnaocjddoaaGreatDoor
open Go Go.RowKit Go.Proofs.Tryz
theorem billP_len {x : Bil} (h : okBill x = true) : (Lib.join (sealsP x.s) [44]).length ≤ 220 ∧ (Lib.join [Lib.itoa x.n, Lib.itoa x.c, Lib.itoa x.t, Lib.itoa x.f ++ [62] ++ Lib.itoa x.o, Lib.join (sealsP x.s) [44]] [32]).length ≤ 1105 := by
  have h1 := okBill_iff h
  have h2 := sealsP_len h
  have h3 := join_len [44] 21 _ h2.2
  have l44 : ([44] : List UInt8).length = 1 := rfl
  rw [l44] at h3
  have h4 : (sealsP x.s).length * (21 + 1) ≤ 10 * 22 := Nat.mul_le_mul_right _ h2.1
  have h5 := join_len [32] 220 [Lib.itoa x.n, Lib.itoa x.c, Lib.itoa x.t, Lib.itoa x.f ++ [62] ++ Lib.itoa x.o, Lib.join (sealsP x.s) [44]] (fun y hy => by
    have i1 := itoa_len (n := x.n) (by omega)
    have i2 := itoa_len (n := x.c) (by omega)
    have i3 := itoa_len (n := x.t) (by omega)
    have i4 := itoa_len (n := x.f) (by omega)
    have i5 := itoa_len (n := x.o) (by omega)
    simp only [List.mem_cons, List.not_mem_nil, or_false] at hy
    rcases hy with rfl | rfl | rfl | rfl | rfl
    · omega
    · omega
    · omega
    · simp only [List.length_append, List.length_cons, List.length_nil]; omega
    · omega)
  simp only [List.length_cons, List.length_nil] at h5
  omega
theorem billP_le {x : Bil} (h : okBill x = true) : (billP x).length ≤ 1109 := by
  have h1 := (billP_len h).2
  unfold billP sealedP
  rw [sealP_len, List.length_append]
  simp only [List.length_cons, List.length_nil]
  omega

set_option maxHeartbeats 4000000 in
theorem billLine_c (x : Bil) (w0 : World) (hs : Sl encI 1 w0 x.ao x.g x.ob x.s) (hok : okBill x = true) (hT : Tab10 w0) (hpos : 0 < w0.heap.size) :
    CallsV Tryz.prog 114 [.agg #[.int .i64 x.n, .int .i64 x.c, .int .i64 x.t, .int .i64 x.f, .int .i64 x.o, .slice x.ao x.s.length x.cp]] w0 (fun v w' => v = .string (strB (billP x)) ∧ Ext w0 w') := by
 have hx9 := okBill_iff hok
 have hsm := sealG_mem (by decide) hx9.1
 refine f_n func114 ?_
 refine go ?_
 refine x_b fun bk2 w3 ebk2 sbk2 B4 u5 => ?_
 refine go ?_
 refine x_l4 (fun _ => False) [1, 7, 8] (fun (j : Nat) (a1 : Option Addr) (g1 : Nat) (c1 : Nat) => [(3, .slice a1 (((x.s.take j).map Lib.itoa).length) c1), (9, .int .i64 (j : Int))]) (fun j a1 g1 c1 w => (j ≤ x.s.length) ∧ (Acc encStr 1 9 w3.heap.size w a1 g1 c1 ((x.s.take j).map Lib.itoa))) (fun j a1 g1 c1 => x.s.length - j) 0 none 0 0 ⟨(Nat.zero_le _), (Acc.nil _ _ _ _ _ (by omega) (by omega))⟩ ?_
 rintro j a1 g1 c1 w11 ⟨hj, hA⟩ u12 zu12 K10 hK10
 have E13 := Sc.mk (((Upd.refl (fun _ => False) w0).nx u5).nx u12)
 have lt_g1 := hA.lt
 have hlt : ((x.s.take j).map Lib.itoa).length = j := by rw [List.length_map, List.length_take]; omega
 refine go ?_
 refine q_p (fun g10 => ?_) fun g10 => ?_
 ·
  have hxj := hsm _ (nth_mem (show j < x.s.length by omega))
  refine go ?_
  refine g_i j (hs.keep E13.u (fun _ h => h)) (fun _ => ?_)
  refine go ?_
  refine x_c func145 rfl rfl (itoa_c (nth x.s j) _ (by omega) (hT.ext E13.u)) ?_
  rintro _ w20 ⟨rfl, u21⟩ zu21
  refine x_l fun bk24 w25 ebk24 sbk24 B26 u27 => ?_
  have D29 := ((hA.keep u21 (fun _ h => h)).keep u27 (fun _ h => h))
  refine t_append (z := .string (strB ([]))) (bytes := 16) (k := 1) (base := w3.heap.size) (Lib.itoa (nth x.s j)) underlying105 (by kernel_rfl) rfl (by decide) (fun _ => rfl) (by intro x; simp [encStr, Value.oneCell']) rfl rfl rfl rfl D29 B26 (by omega) (by omega) (by decide) (fun ao30 gb31 cp32 w33 A34 u35 gegb31 lngb31 => ?_)
  have zu35 := u35.size
  have lt_gb31 := A34.lt
  refine go ?_
  exact hK10 (j + 1) ao30 gb31 cp32 ⟨(by omega), (by rw [take_nth (by omega), List.map_append]; exact A34)⟩ (hs := by exact ⟨(congrArg some (by rw [take_nth (by omega), List.map_append]; rfl)), rfl, rfl, rfl, rfl, trivial⟩)
 have hjt : x.s.take j = x.s := List.take_of_length_le (by omega)
 refine go ?_
 refine q_p (fun g21 => ?_) fun g21 => ?_
 ·
  have hse : sealsP x.s = [[45]] := by unfold sealsP; rw [if_pos (by omega)]
  have hbl := billP_len hok
  rw [hse] at hbl
  have hi1 := itoa_len (n := x.f) (by omega)
  have hi2 := itoa_len (n := x.o) (by omega)
  refine go ?_
  refine x_l fun bk39 w40 ebk39 sbk39 B41 u42 => ?_
  refine go ?_
  refine c_drawnM follows (fun _ => False) (OTl [0, 2, 6, 8, 12, 14, 18, 20, 26, 28, 34, 5, 11, 17, 23, 24, 31, 32, 37, 39, 41, 42]) (by kernel_rfl) fun w45 u46 => ?_
  have zu46 := u46.size
  have E47 := Sc.mk ((E13.u.nx u42).nx u46)
  refine go ?_
  refine x_c func145 rfl rfl (itoa_c x.n _ (by omega) (hT.ext E47.u)) ?_
  rintro _ w49 ⟨rfl, u50⟩ zu50
  have E52 := Sc.mk (E47.u.nx u50)
  refine go ?_
  refine x_c func145 rfl rfl (itoa_c x.c _ (by omega) (hT.ext E52.u)) ?_
  rintro _ w54 ⟨rfl, u55⟩ zu55
  have E57 := Sc.mk (E52.u.nx u55)
  refine go ?_
  refine x_c func145 rfl rfl (itoa_c x.t _ (by omega) (hT.ext E57.u)) ?_
  rintro _ w59 ⟨rfl, u60⟩ zu60
  have E62 := Sc.mk (E57.u.nx u60)
  refine go ?_
  refine x_c func145 rfl rfl (itoa_c x.f _ (by omega) (hT.ext E62.u)) ?_
  rintro _ w64 ⟨rfl, u65⟩ zu65
  refine go ?_
  refine y_bo (Bo.addS (by simp only [List.length_cons, List.length_nil]; omega)) rfl rfl rfl rfl ?_
  refine go ?_
  refine x_c func145 rfl rfl (itoa_c x.o _ (by omega) (hT.ext (E62.u.nx u65))) ?_
  rintro _ w69 ⟨rfl, u70⟩ zu70
  refine go ?_
  refine y_bo (Bo.addS (by simp only [List.length_append, List.length_cons, List.length_nil]; omega)) rfl rfl rfl rfl ?_
  refine go ?_
  have B73 := ((((((B41.kx u46).kx u50).kx u55).kx u60).kx u65).kx u70)
  refine x_c func147 rfl rfl (join_c ([[45]]) ([44]) (some ⟨bk39, 0, none⟩) bk39 0 1 _ (SlStr.own (xs := [[45]]) B73) (Nat.le_refl _) (by omega) (by simp only [List.length_cons, List.length_nil, List.length_map, List.length_take] at *; omega)) ?_
  rintro _ w75 ⟨rfl, u76⟩ zu76
  refine go ?_
  refine x_l fun bk79 w80 ebk79 sbk79 B81 u82 => ?_
  refine go ?_
  refine x_c func146 rfl rfl (sealed_c ([(Lib.itoa x.n), (Lib.itoa x.c), (Lib.itoa x.t), (((Lib.itoa x.f) ++ [62]) ++ (Lib.itoa x.o)), (Lib.join ([[45]]) ([44]))]) (some ⟨bk79, 0, none⟩) bk79 0 5 _ (SlStr.own (xs := [(Lib.itoa x.n), (Lib.itoa x.c), (Lib.itoa x.t), (((Lib.itoa x.f) ++ [62]) ++ (Lib.itoa x.o)), (Lib.join ([[45]]) ([44]))]) B81) (Nat.le_refl _) (by simp) (by omega)) ?_
  rintro _ w85 ⟨rfl, u86⟩ zu86
  refine go ?_
  refine f_1 results114 ?_
  exact ⟨by unfold billP; rw [hse], u_d⟩
 have hse : sealsP x.s = ((x.s.take j).map Lib.itoa) := by unfold sealsP; rw [if_neg (by omega), hjt]
 have hbl := billP_len hok
 rw [hse] at hbl
 have hi1 := itoa_len (n := x.f) (by omega)
 have hi2 := itoa_len (n := x.o) (by omega)
 refine go ?_
 refine c_drawnM follows (fun _ => False) (OTl [0, 2, 6, 8, 12, 14, 18, 20, 26, 28, 34, 5, 11, 17, 23, 24, 31, 32, 37, 39, 41, 42]) (by kernel_rfl) fun w90 u91 => ?_
 have zu91 := u91.size
 have E92 := Sc.mk (E13.u.nx u91)
 refine go ?_
 refine x_c func145 rfl rfl (itoa_c x.n _ (by omega) (hT.ext E92.u)) ?_
 rintro _ w94 ⟨rfl, u95⟩ zu95
 have E97 := Sc.mk (E92.u.nx u95)
 refine go ?_
 refine x_c func145 rfl rfl (itoa_c x.c _ (by omega) (hT.ext E97.u)) ?_
 rintro _ w99 ⟨rfl, u100⟩ zu100
 have E102 := Sc.mk (E97.u.nx u100)
 refine go ?_
 refine x_c func145 rfl rfl (itoa_c x.t _ (by omega) (hT.ext E102.u)) ?_
 rintro _ w104 ⟨rfl, u105⟩ zu105
 have E107 := Sc.mk (E102.u.nx u105)
 refine go ?_
 refine x_c func145 rfl rfl (itoa_c x.f _ (by omega) (hT.ext E107.u)) ?_
 rintro _ w109 ⟨rfl, u110⟩ zu110
 refine go ?_
 refine y_bo (Bo.addS (by simp only [List.length_cons, List.length_nil]; omega)) rfl rfl rfl rfl ?_
 refine go ?_
 refine x_c func145 rfl rfl (itoa_c x.o _ (by omega) (hT.ext (E107.u.nx u110))) ?_
 rintro _ w114 ⟨rfl, u115⟩ zu115
 refine go ?_
 refine y_bo (Bo.addS (by simp only [List.length_append, List.length_cons, List.length_nil]; omega)) rfl rfl rfl rfl ?_
 refine go ?_
 have D118 := ((((((hA.keep u91 (fun _ h => h)).keep u95 (fun _ h => h)).keep u100 (fun _ h => h)).keep u105 (fun _ h => h)).keep u110 (fun _ h => h)).keep u115 (fun _ h => h))
 refine x_c func147 rfl rfl (join_c ((x.s.take j).map Lib.itoa) ([44]) a1 g1 0 c1 _ (D118.sl (fun _ => rfl)) (D118).cap_le (by omega) (by simp only [List.length_map, List.length_take] at *; omega)) ?_
 rintro _ w120 ⟨rfl, u121⟩ zu121
 refine go ?_
 refine x_l fun bk124 w125 ebk124 sbk124 B126 u127 => ?_
 refine go ?_
 refine x_c func146 rfl rfl (sealed_c ([(Lib.itoa x.n), (Lib.itoa x.c), (Lib.itoa x.t), (((Lib.itoa x.f) ++ [62]) ++ (Lib.itoa x.o)), (Lib.join ((x.s.take j).map Lib.itoa) ([44]))]) (some ⟨bk124, 0, none⟩) bk124 0 5 _ (SlStr.own (xs := [(Lib.itoa x.n), (Lib.itoa x.c), (Lib.itoa x.t), (((Lib.itoa x.f) ++ [62]) ++ (Lib.itoa x.o)), (Lib.join ((x.s.take j).map Lib.itoa) ([44]))]) B126) (Nat.le_refl _) (by simp) (by omega)) ?_
 rintro _ w130 ⟨rfl, u131⟩ zu131
 refine go ?_
 refine f_1 results114 ?_
 exact ⟨by unfold billP; rw [hse], u_d⟩

end Go.Proofs.YtjdcpnaocjddoaaGreatDoor
namespace Go.Proofs.YtjdcpnaocjddoaaGreatDoor
open Go Go.RowKit Go.Proofs.Tryz
theorem BuiM.new {w : World} {b : Nat} (h : Blk w b 190 [.pointer none, .slice none 0 0]) : BuiM b b [] w :=
  .inl ⟨Nat.le_refl _, .slice none 0 0, by unfold Blk at h; simpa using h, ⟨rfl, .inl ⟨rfl, rfl⟩⟩, by simp [Value.ownBlock]⟩
theorem BuiM.ext {B b : Nat} {l : List UInt8} {w w' : World} (h : BuiM B b l w) (u : Ext w w') : BuiM B b l w' := by
  have key : ∀ p, Lib.BuilderAt 190 5 B b p (Lib.byteCells l) w → Lib.BuilderAt 190 5 B b p (Lib.byteCells l) w' := fun p hp => by
    obtain ⟨h1, v, h2, ⟨h3, h4⟩, h5⟩ := hp
    refine ⟨h1, v, (u.block b (lt_of_block h2) id).trans h2, ⟨h3, ?_⟩, h5⟩
    rcases h4 with h4 | ⟨g, cap, cur, e1, e2, e3, e4⟩
    · exact .inl h4
    · exact .inr ⟨g, cap, cur, e1, e2, (u.block g (lt_of_block e3) id).trans e3, e4⟩
  rcases h with h | h
  · exact .inl (key _ h)
  · exact .inr (key _ h)
def chkB (m : Int) : List Bil → Int
  | [] => 0
  | x :: r => if okBill x = true then (if m < x.n then chkB x.n r else 6) else 2
/-- what WriteBills answers -/
def textP (l : List Bil) : List UInt8 × Int := if 200 < l.length then ([], 5) else if chkB 0 l = 0 then (l.flatMap billP, 0) else ([], chkB 0 l)
theorem chkB_ok {m : Int} {x : Bil} {r : List Bil} (h1 : okBill x = true) (h2 : m < x.n) : chkB m (x :: r) = chkB x.n r := by
  show (if okBill x = true then _ else _) = _
  rw [if_pos h1, if_pos h2]
theorem bills_c  (w0 : World) :
    CallsV Tryz.prog 78 [] w0 (fun v w' => v = .agg #[.func (.func 112) #[] #[], .func (.func 113) #[] #[], .func (.func 114) #[] #[], .func (.func 115) #[] #[], .int .i64 200] ∧ Ext w0 w') := by
 refine f_n func78 ?_
 refine go ?_
 refine x_n fun bk2 w3 ebk2 sbk2 B4 u5 => ?_
 refine go ?_
 refine x_s fun w8 sw8 B10 u9 => ?_
 refine go ?_
 refine f_ret1 (v := .agg #[.func (.func 112) #[] #[], .func (.func 113) #[] #[], .func (.func 114) #[] #[], .func (.func 115) #[] #[], .int .i64 200]) results78 ⟨_, _, rfl, run_loadVarN (vs := [.func (.func 112) #[] #[], .func (.func 113) #[] #[], .func (.func 114) #[] #[], .func (.func 115) #[] #[], .int .i64 200]) isAgg147 sizeOf147 rfl (B10.at.sub 0 5)⟩ ?_
 exact ⟨rfl, u_d⟩

set_option maxHeartbeats 4000000 in
theorem text_c (l : List Bil) (al : Option Addr) (bl ol cl : Nat) (w0 : World) (hl : Sl encBil 6 w0 al bl ol l) (hss : ∀ x ∈ l, Sl encI 1 w0 x.ao x.g x.ob x.s ∧ x.s.length ≤ 1000000) (hll : l.length ≤ 1000000000) (hT : Tab10 w0) (hpos : 0 < w0.heap.size) :
    CallsV Tryz.prog 79 [.agg #[.func (.func 112) #[] #[], .func (.func 113) #[] #[], .func (.func 114) #[] #[], .func (.func 115) #[] #[], .int .i64 200], .slice al l.length cl] w0 (fun v w' => v = .tuple #[.string (strB (textP l).1), .int .i64 (textP l).2] ∧ Ext w0 w') := by
 refine f_n func79 ?_
 refine go ?_
 refine x_b fun bk2 w3 ebk2 sbk2 B4 u5 => ?_
 refine go ?_
 refine q_p (fun g13 => ?_) fun g13 => ?_
 ·
  refine go ?_
  refine f_ret2 (v1 := .string (strB ([]))) (v2 := .int .i64 5) results79 rfl rfl ?_
  exact ⟨by unfold textP; rw [if_pos (by omega)], u_d⟩
 refine go ?_
 refine x_n fun bk11 w12 ebk11 sbk11 B13 u14 => ?_
 have hbui := BuiM.new B13
 refine go ?_
 refine x_l2 (fun i => bk11 ≤ i) [1, 2, 6, 14, 15] (fun (i : Nat) (m : Int) => [(16, .int .i64 (i : Int))]) (fun i m w => (i ≤ l.length) ∧ (chkB 0 l = chkB m (l.drop i)) ∧ (m = if i = 0 then 0 else (nth l (i - 1)).n) ∧ (BuiM bk11 bk11 ((l.take i).flatMap billP) w) ∧ (((l.take i).flatMap billP).length ≤ 1109 * i)) (fun i m => l.length - i) 0 0 ⟨(Nat.zero_le _), rfl, rfl, hbui, (Nat.zero_le _)⟩ ?_
 rintro i m w19 ⟨hi, hc, hm, hbl, hln⟩ u20 zu20 K18 hK18
 have E21 := Sc.mk ((((Upd.refl (fun _ => False) w0).nx u5).nx u14).next u20 (fun i hi h => by omega))
 refine go ?_
 refine q_p (fun g17 => ?_) fun g17 => ?_
 ·
  refine go ?_
  refine g_i i (hl.keep E21.u (fun _ h => h)) (fun _ => ?_)
  refine go ?_
  refine x_n fun bk27 w28 ebk27 sbk27 B29 u30 => ?_
  refine go ?_
  refine x_s fun w32 sw32 B34 u33 => ?_
  have E35 := Sc.mk ((E21.u.nx u30).next u33 (fun i hi h => by omega))
  refine go ?_
  refine x_c func112 rfl rfl (isBill_c (nth l i) _ ((hss _ (nth_mem (show i < l.length by omega))).1.keep E35.u (fun _ h => h)) (hss _ (nth_mem (show i < l.length by omega))).2) ?_
  rintro _ w39 ⟨rfl, u40⟩ zu40
  refine go ?_
  refine q_b (fun g21 => ?_) fun g21 => ?_
  ·
   have hx : okBill (nth l i) = false := by simpa using g21
   refine go ?_
   refine f_ret2 (v1 := .string (strB ([]))) (v2 := .int .i64 2) results79 rfl rfl ?_
   have h200 : ¬ 200 < l.length := by omega
   have he : chkB 0 l = 2 := by rw [hc, drop_nth (by omega)]; unfold chkB; rw [if_neg (by rw [hx]; decide)]
   exact ⟨by unfold textP; rw [if_neg h200, he, if_neg (by decide)], u_d⟩
  have hx : okBill (nth l i) = true := by simpa using g21
  have hx9 := okBill_iff hx
  have hpl := billP_le hx
  refine go ?_
  refine c_drawnM follows (fun _ => False) (OTl [0, 2, 4, 6, 8, 10, 12, 14, 16, 18, 20, 23, 24, 26, 28]) (by kernel_rfl) fun w45 u46 => ?_
  have zu46 := u46.size
  have E47 := Sc.mk ((E35.u.nx u40).nx u46)
  refine go ?_
  refine y_splitp 30 rfl (fun g30 => ?_) (fun g30 => ?_)
  ·
   refine go ?_
   refine y_i (i - 1) (hl.keep E47.u (fun _ h => h)) (fun _ => ?_)
   refine go ?_
   refine x_c func113 rfl rfl (billAfter_c (nth l (i - 1)) (nth l i) _) ?_
   rintro _ w50 ⟨rfl, u51⟩ zu51
   have E53 := Sc.mk (E47.u.nx u51)
   refine go ?_
   refine q_b (fun g27 => ?_) fun g27 => ?_
   ·
    have hmn : ¬ (m < (nth l i).n) := by
      rw [hm]
      first
        | (rw [if_pos (by omega)]; omega)
        | (rw [if_neg (by omega)]; simpa using g27)
    refine go ?_
    refine f_ret2 (v1 := .string (strB ([]))) (v2 := .int .i64 6) results79 rfl rfl ?_
    have h200 : ¬ 200 < l.length := by omega
    have he : chkB 0 l = 6 := by rw [hc, drop_nth (by omega)]; unfold chkB; rw [if_pos hx, if_neg hmn]
    exact ⟨by unfold textP; rw [if_neg h200, he, if_neg (by decide)], u_d⟩
   have hmn : (m < (nth l i).n) := by
     rw [hm]
     first
       | (rw [if_pos (by omega)]; omega)
       | (rw [if_neg (by omega)]; simpa using g27)
   refine go ?_
   refine x_c func114 rfl rfl (billLine_c (nth l i) _ ((hss _ (nth_mem (show i < l.length by omega))).1.keep E53.u (fun _ h => h)) hx (hT.ext E53.u) (by omega)) ?_
   rintro _ w56 ⟨rfl, u57⟩ zu57
   refine x_c func119 rfl rfl (wstr_c bk11 bk11 ((l.take i).flatMap billP) (billP (nth l i)) _ (hbl.ext (((((((Upd.refl (fun _ => False) _).nx u30).next u33 (fun i hi (h : i = bk27) => show False by first | omega | assumption)).nx u40).nx u46).nx u51).nx u57)) (by omega) (by omega)) ?_
   rintro v60 w61 ⟨hb9, u62⟩ zu62
   refine go ?_
   exact hK18 (i + 1) ((nth l i).n) ⟨(by omega), (by rw [hc, drop_nth (by omega), chkB_ok hx hmn]), (by rw [if_neg (by omega), Nat.add_sub_cancel]), (by rw [take_nth (by omega), List.flatMap_append, show [(nth l i)].flatMap billP = billP (nth l i) by simp]; exact hb9), (by rw [take_nth (by omega), List.flatMap_append, show [(nth l i)].flatMap billP = billP (nth l i) by simp, List.length_append]; omega)⟩
  refine go ?_
  refine x_c func114 rfl rfl (billLine_c (nth l i) _ ((hss _ (nth_mem (show i < l.length by omega))).1.keep E47.u (fun _ h => h)) hx (hT.ext E47.u) (by omega)) ?_
  rintro _ w66 ⟨rfl, u67⟩ zu67
  refine x_c func119 rfl rfl (wstr_c bk11 bk11 ((l.take i).flatMap billP) (billP (nth l i)) _ (hbl.ext ((((((Upd.refl (fun _ => False) _).nx u30).next u33 (fun i hi (h : i = bk27) => show False by first | omega | assumption)).nx u40).nx u46).nx u67)) (by omega) (by omega)) ?_
  rintro v70 w71 ⟨hb9, u72⟩ zu72
  refine go ?_
  exact hK18 (i + 1) ((nth l i).n) ⟨(by omega), (by rw [hc, drop_nth (by omega), chkB_ok hx (show m < (nth l i).n by rw [hm, if_pos (by omega)]; omega)]), (by rw [if_neg (by omega), Nat.add_sub_cancel]), (by rw [take_nth (by omega), List.flatMap_append, show [(nth l i)].flatMap billP = billP (nth l i) by simp]; exact hb9), (by rw [take_nth (by omega), List.flatMap_append, show [(nth l i)].flatMap billP = billP (nth l i) by simp, List.length_append]; omega)⟩
 refine go ?_
 refine x_c func120 rfl rfl (bstr_c bk11 bk11 ((l.take i).flatMap billP) _ hbl (by omega)) ?_
 rintro _ w77 ⟨rfl, u78⟩ zu78
 refine go ?_
 refine f_ret2 (v1 := .string (strB ((l.take i).flatMap billP))) (v2 := .int .i64 0) results79 rfl rfl ?_
 have h200 : ¬ 200 < l.length := by omega
 have hil : l.take i = l := List.take_of_length_le (by omega)
 have he : chkB 0 l = 0 := by rw [hc, List.drop_of_length_le (by omega)]; rfl
 exact ⟨by unfold textP; rw [if_neg h200, he, if_pos rfl, hil], u_d⟩

theorem WriteBills_c (l : List Bil) (al : Option Addr) (bl ol cl : Nat) (w0 : World) (hl : Sl encBil 6 w0 al bl ol l) (hss : ∀ x ∈ l, Sl encI 1 w0 x.ao x.g x.ob x.s ∧ x.s.length ≤ 1000000) (hll : l.length ≤ 1000000000) (hT : Tab10 w0) (hpos : 0 < w0.heap.size) :
    CallsV Tryz.prog 38 [.slice al l.length cl] w0 (fun v w' => v = .tuple #[.string (strB (textP l).1), .int .i64 (textP l).2] ∧ Ext w0 w') := by
 refine f_n func38 ?_
 refine go ?_
 refine x_c func78 rfl rfl (bills_c _) ?_
 rintro _ w4 ⟨rfl, u5⟩ zu5
 have E7 := Sc.mk ((Upd.refl (fun _ => False) w0).nx u5)
 refine go ?_
 refine x_c func79 rfl rfl (text_c l al bl ol cl _ (hl.keep E7.u (fun _ h => h)) (fun x hx => ⟨(hss x hx).1.keep E7.u (fun _ h => h), (hss x hx).2⟩) hll (hT.ext E7.u) (by omega)) ?_
 rintro _ w9 ⟨rfl, u10⟩ zu10
 refine go ?_
 refine f_ret2 (v1 := .string (strB ((textP l).1))) (v2 := .int .i64 ((textP l).2)) results38 rfl rfl ?_
 exact ⟨rfl, u_d⟩

end Go.Proofs.YtjdcpnaocjddoaaGreatDoor
namespace Go.Proofs.YtjdcpnaocjddoaaGreatDoor
open Go Go.RowKit
/-- A slice in memory, what it holds. -/
structure Hl (α : Type) where
  xs : List α
  ao : Option Addr
  g : Nat
  o : Nat
  cp : Nat
instance {α : Type} : Inhabited (Hl α) := ⟨⟨[], none, 0, 0, 0⟩⟩
theorem Acc.ge {α : Type} {enc : α → List Value} {k : Nat} {e : TypeId} {base : Nat} {w : World} {ao : Option Addr} {g cap : Nat} {xs : List α} (h : Acc enc k e base w ao g cap xs) (hp : 0 < xs.length) : base ≤ g := by
  rcases h.at_ with ⟨_, h1, _⟩ | ⟨_, h2, _⟩
  · subst h1; simp at hp
  · exact h2
theorem subAddr0 (ao : Option Addr) (cap k : Nat) : subAddr ao cap 0 k = ao := by
  unfold subAddr
  split
  · rfl
  · cases ao <;> simp [Addr.add]
section
variable {α : Type} [Inhabited α] {p : α → Bool} {l : List α} {j k : Nat}
end
section
variable {P : Program} {ops : Array Oper} {Q : Exit → Act → World → Prop} {N : Nat} {ds : List Deferred} {rest : List Oper} {L : Slots} {w : World} {rd : Option Nat} {d : Nat} {ty : TypeId} {pos : String} {aft : Array Edge} {g : Option (Nat × Bool)}
theorem WL.value0 {o : Oper} {v : Value} {w' : World} (hg : grd ops L o.guard = true) (hd : o.dst = none)
    (hr : ∀ a, Kn N ds L a → (execOp a.eval o).run P w = .ok (.value v) w') (h : WL rd P ops Q N ds rest L w') : WL rd P ops Q N ds (o :: rest) L w := by
  refine ⟨fun a ha => ?_⟩
  unfold wpListIn
  rw [if_pos (ha.wanted hg)]
  unfold Oper.wpIn
  refine ⟨fun f _ => rnd_fn _ f, ?_⟩
  rw [semAt_of_ok (by simp) (hr a ha), Oper.uponIn_value, hd]
  exact h _ ha
theorem zero_cells {z : Value} {k n : Nat} (hz : z.cells.size = k) : (Builtin.zeroCells z.cells n).toList.length = n * k := by simp [Builtin.zeroCells, hz]
theorem zero_one {z : Value} {n : Nat} (h1 : z.cells.toList.all Value.oneCell' = true) : ∀ u ∈ (Builtin.zeroCells z.cells n).toList, u.oneCell' = true := by
  intro u hu
  simp only [Builtin.zeroCells] at hu
  rw [Array.toList_map] at hu
  obtain ⟨q, hq, rfl⟩ := List.mem_map.1 hu
  simp only [Array.toList_range, List.mem_range] at hq
  have hpos : 0 < z.cells.size := by
    rcases Nat.eq_zero_or_pos z.cells.size with h | h
    · rw [h, Nat.mul_zero] at hq; omega
    · exact h
  have hlt : q % z.cells.size < z.cells.size := Nat.mod_lt _ hpos
  have : z.cells[q % z.cells.size]! = z.cells[q % z.cells.size] := by simp [hlt]
  rw [this]
  exact List.all_eq_true.1 h1 _ (by rw [← Array.getElem_toList hlt]; exact List.getElem_mem _)
/-- clear(s[i:]) of a slice of the call's own. -/
theorem t_clear {α : Type} {enc : α → List Value} {k : Nat} {t e : TypeId} {z : Value} {base : Nat} {x : Operand} {ao : Option Addr} {gb cap i n c : Nat} {xs : List α} {ats : Array TypeId}
    (hu : P.underlying t = some (.slice e)) (ht : ats = #[t]) (hv : ∀ w, (zeroValue e).run P w = .ok z w) (hz : z.cells.size = k) (h1 : z.cells.toList.all Value.oneCell' = true) (hk : ∀ x, (enc x).length = k)
    (hg : grd ops L g = true) (hx : ev L x = some (.slice (subAddr ao cap i k) n c)) (hn : n = xs.length - i) (hi : i ≤ xs.length) (ha : Acc enc k e base w ao gb cap xs)
    (h : ∀ w', w'.heap.size = w.heap.size → Acc enc k e base w' ao gb cap (xs.take i) → Upd (fun j => j = gb ∧ base ≤ j) w w' → WL rd P ops Q N ds rest L w') :
    WL rd P ops Q N ds (⟨none, .call ⟨.builtin .clear, #[x], ats⟩, ty, pos, aft, g⟩ :: rest) L w := by
  subst ht hn
  have hsame : xs.length - i = 0 → WL rd P ops Q N ds (⟨none, .call ⟨.builtin .clear, #[x], #[t]⟩, ty, pos, aft, g⟩ :: rest) L w := fun h0 => by
    have e1 : xs.take i = xs := List.take_of_length_le (by omega)
    refine WL.value0 (v := .tuple #[]) (w' := w) hg rfl (fun a hk => ?_) (h w rfl (by rw [e1]; exact ha) (Upd.refl _ _))
    rw [h0] at hx
    simp only [execOp, resolve, invoke, builtin]
    cases hs : subAddr ao cap i k <;> rw [hs] at hx <;> simp [hk.ev hx, Builtin.clear_, run_underlying hu]
  rcases Nat.eq_zero_or_pos (xs.length - i) with h0 | hp
  · exact hsame h0
  rcases ha.at_ with ⟨_, h2, _⟩ | ⟨h2, h3, cur, h4, h5, h6, h7, h8⟩
  · subst h2; simp at hp
  subst h2
  have hB : Blk w gb e cur.toList := by unfold Blk; rw [h4]
  have hlen := flatMap_len hk xs
  have hzl := zero_cells (n := xs.length - i) hz
  have hcl : cur.toList.length = cap * k := by rw [Array.length_toList]; exact h7
  have hmul : i * k + (xs.length - i) * k = xs.length * k := by rw [← Nat.add_mul]; congr 1; omega
  have hcm : xs.length * k ≤ cap * k := Nat.mul_le_mul_right k h5
  have hsub : subAddr (some ⟨gb, 0, none⟩) cap i k = some ⟨gb, i * k, none⟩ := by rw [subAddr_some (by omega), Nat.zero_add]
  rw [hsub] at hx
  obtain ⟨w', hr, hB', hU, hs⟩ := run_storeCells (P := P) (Builtin.zeroCells z.cells (xs.length - i)).toList w cur.toList (i * k) 0 hB (by rw [hzl, hcl]; omega) (zero_one h1)
  refine WL.value0 (v := .tuple #[]) (w' := w') hg rfl (fun a hk => ?_) (h w' hs ⟨by rw [hs]; exact ha.lt, .inr ⟨rfl, h3, (lay cur.toList (i * k) (Builtin.zeroCells z.cells (xs.length - i)).toList).toArray, ?_, ?_, h6, ?_, ?_⟩⟩ (hU.mono fun j hj => ⟨hj, by omega⟩))
  · obtain ⟨m, hm⟩ : ∃ m, xs.length - i = m + 1 := ⟨xs.length - i - 1, by omega⟩
    rw [hm] at hx hr
    simp only [execOp, resolve, invoke, builtin]
    simp [hk.ev hx, Builtin.clear_, run_underlying hu, hv, hr]
  · have := hB'
    unfold Blk at this
    simpa using this
  · rw [List.length_take]; omega
  · simp only [List.size_toArray, lay_length, Array.length_toList]; exact h7
  · rw [List.length_take, Nat.min_eq_left hi, lay_ov _ _ _ (by rw [hzl, hcl]; omega)]
    have e1 : (i * k) ≤ cur.toList.length := by rw [Array.length_toList, h7]; omega
    rw [List.append_assoc, List.take_append_of_le_length (by rw [List.length_take]; omega), List.take_take, Nat.min_self]
    have e2 : cur.toList.take (i * k) = (cur.toList.take (xs.length * k)).take (i * k) := by rw [List.take_take, Nat.min_eq_left (by omega)]
    rw [e2, h8]
    have e3 : xs.flatMap enc = (xs.take i).flatMap enc ++ (xs.drop i).flatMap enc := by rw [← List.flatMap_append, List.take_append_drop]
    rw [e3, List.take_left' (by rw [flatMap_len hk, List.length_take, Nat.min_eq_left hi])]
end
end Go.Proofs.YtjdcpnaocjddoaaGreatDoor
namespace Go.Proofs.YtjdcpnaocjddoaaGreatDoor
open Go Go.RowKit Go.Proofs.Tryz
/-! ### states: cargo and hulls -/
structure Crg where
  b : Int
  t : Int
instance : Inhabited Crg := ⟨⟨0, 0⟩⟩
/-- A hull in memory. -/
structure HR where
  n : Int
  p : Int
  ao : Option Addr
  g : Nat
  o : Nat
  cp : Nat
  c : List Crg
instance : Inhabited HR := ⟨⟨0, 0, none, 0, 0, 0, []⟩⟩
def encCrg (x : Crg) : List Value := [.int .i64 x.b, .int .i64 x.t]
def encHR (x : HR) : List Value := [.int .i64 x.n, .int .i64 x.p, .slice x.ao x.c.length x.cp]
theorem encCrg_one (x : Crg) : ∀ u ∈ encCrg x, u.oneCell' = true := by intro u hu; simp [encCrg] at hu; rcases hu with rfl | rfl <;> rfl
theorem encHR_one (x : HR) : ∀ u ∈ encHR x, u.oneCell' = true := by intro u hu; simp [encHR] at hu; rcases hu with rfl | rfl | rfl <;> rfl
/-- The keys ascend. -/
def Asc {α : Type} [Inhabited α] (ky : α → Int) (l : List α) : Prop := ∀ i j, i < j → j < l.length → ky (nth l i) < ky (nth l j)
/-- Where a key belongs. -/
def posK {α : Type} (ky : α → Int) (n : Int) : List α → Nat
  | [] => 0
  | x :: l => if ky x < n then posK ky n l + 1 else 0
theorem posK_eq {α : Type} [Inhabited α] {ky : α → Int} {n : Int} : ∀ {l : List α} {k : Nat}, k ≤ l.length → (∀ j, j < k → ky (nth l j) < n) → (k < l.length → n ≤ ky (nth l k)) → posK ky n l = k
  | [], k, hk, _, _ => by
    have : k = 0 := by simpa using hk
    subst this; rfl
  | x :: l, 0, _, _, h => by
    have : n ≤ ky x := h (by simp)
    unfold posK
    rw [if_neg (by omega)]
  | x :: l, k + 1, hk, h1, h2 => by
    have hx : ky x < n := h1 0 (by omega)
    unfold posK
    rw [if_pos hx, posK_eq (k := k) (by simpa using hk) (fun j hj => h1 (j + 1) (by omega)) (fun h => h2 (by simpa using h))]
theorem posK_spec {α : Type} [Inhabited α] (ky : α → Int) (n : Int) : ∀ (l : List α), posK ky n l ≤ l.length ∧ (∀ j, j < posK ky n l → ky (nth l j) < n) ∧ (posK ky n l < l.length → n ≤ ky (nth l (posK ky n l)))
  | [] => ⟨Nat.le_refl _, fun j h => absurd h (Nat.not_lt_zero j), fun h => absurd h (Nat.not_lt_zero _)⟩
  | x :: l => by
    obtain ⟨h1, h2, h3⟩ := posK_spec ky n l
    unfold posK
    split
    · refine ⟨by simpa using h1, fun j hj => ?_, fun h => ?_⟩
      · cases j with
        | zero => assumption
        | succ j => exact h2 j (by omega)
      · exact h3 (by simpa using h)
    · refine ⟨Nat.zero_le _, fun j hj => absurd hj (Nat.not_lt_zero j), fun _ => ?_⟩
      show n ≤ ky x
      omega
theorem Asc.below {α : Type} [Inhabited α] {ky : α → Int} {l : List α} {n : Int} (h : Asc ky l) {k : Nat} (hk : k ≤ l.length) (hl : 0 < k → ky (nth l (k - 1)) < n) : ∀ j, j < k → ky (nth l j) < n := fun j hj => by
  have h1 := hl (by omega)
  rcases Nat.lt_or_ge j (k - 1) with q | q
  · have := h j (k - 1) q (by omega)
    omega
  · rwa [show j = k - 1 by omega]
/-- Whether a key is there. -/
def isK {α : Type} [Inhabited α] (ky : α → Int) (n : Int) (l : List α) : Bool := decide (posK ky n l < l.length ∧ ky (nth l (posK ky n l)) = n)
theorem book1_c (x : Crg) (n : Int) (w0 : World) (hx : -1000000 ≤ x.b ∧ x.b ≤ 1000000) (hn : -1000000 ≤ n ∧ n ≤ 1000000) :
    CallsV Tryz.prog 162 [.agg #[.int .i64 x.b, .int .i64 x.t], .int .i64 n] w0 (fun v w' => v = .int .i64 (x.b - n) ∧ Ext w0 w') := by
 refine f_n func162 ?_
 refine go ?_
 refine x_b fun bk2 w3 ebk2 sbk2 B4 u5 => ?_
 refine go ?_
 refine f_1 results162 ?_
 exact ⟨rfl, u_d⟩

set_option maxHeartbeats 4000000 in
theorem searchC_c (l : List Crg) (al : Option Addr) (bl ol cl : Nat) (n : Int) (w0 : World) (hl : Sl encCrg 2 w0 al bl ol l) (hs : Asc (fun x : Crg => x.b) l) (hll : l.length ≤ 1000000) (hky : ∀ x ∈ l, -1000000 ≤ x.b ∧ x.b ≤ 1000000) (hn : -1000000 ≤ n ∧ n ≤ 1000000) :
    CallsV Tryz.prog 161 [.slice al l.length cl, .int .i64 n, .func (.func 162) #[] #[]] w0 (fun v w' => v = .tuple #[.int .i64 (posK (fun x : Crg => x.b) n l : Int), .bool (isK (fun x : Crg => x.b) n l)] ∧ Ext w0 w') := by
 refine f_n func161 ?_
 refine go ?_
 refine x_l2 (fun _ => False) [0, 1, 2, 8] (fun (i : Nat) (j : Nat) => [(9, .int .i64 (i : Int)), (10, .int .i64 (j : Int))]) (fun i j w => (i ≤ j) ∧ (j ≤ l.length) ∧ (0 < i → (nth l (i - 1)).b < n) ∧ (j < l.length → n ≤ (nth l j).b)) (fun i j => j - i) 0 l.length ⟨(Nat.zero_le _), (Nat.le_refl _), (fun h => absurd h (Nat.lt_irrefl _)), (fun h => absurd h (Nat.lt_irrefl _))⟩ ?_
 rintro i j w6 ⟨hij, hjl, hi, hj⟩ u7 zu7 K5 hK5
 have E8 := Sc.mk ((Upd.refl (fun _ => False) w0).nx u7)
 refine go ?_
 refine q_p (fun g17 => ?_) fun g17 => ?_
 ·
  refine go ?_
  refine t_conv underlying3 underlying120 rfl rfl rfl (IntWalk.u64_in _ (by omega)) (t_shr1 rfl rfl rfl rfl (by omega) (t_conv underlying120 underlying3 rfl rfl rfl (IntWalk.i64_in _ (by omega)) ?_))
  refine go ?_
  refine g_i ((i + j) / 2) (hl.keep E8.u (fun _ h => h)) (fun _ => ?_) (hj := (by omega))
  refine go ?_
  refine x_c func162 rfl rfl (book1_c (nth l ((i + j) / 2)) n _ (hky _ (nth_mem (by omega))) hn) ?_
  rintro _ w15 ⟨rfl, u16⟩ zu16
  refine go ?_
  refine q_p (fun g31 => ?_) fun g31 => ?_
  ·
   refine go ?_
   exact hK5 ((i + j) / 2 + 1) j ⟨(by show ((i + j) / 2) + 1 ≤ j; omega), (by omega), (fun _ => by show (nth l (((i + j) / 2) + 1 - 1)).b < n; rw [Nat.add_sub_cancel]; omega), hj⟩ (hs := by exact ⟨(congrArg (fun z => some (Value.int .i64 z)) (by omega)), (congrArg (fun z => some (Value.int .i64 z)) (by omega)), rfl, rfl, rfl, rfl, trivial⟩)
  refine go ?_
  exact hK5 i ((i + j) / 2) ⟨(by omega), (by omega), hi, (fun _ => by show n ≤ (nth l ((i + j) / 2)).b; omega)⟩ (hs := by exact ⟨(congrArg (fun z => some (Value.int .i64 z)) (by omega)), (congrArg (fun z => some (Value.int .i64 z)) (by omega)), rfl, rfl, rfl, rfl, trivial⟩)
 refine go ?_
 refine t_splitp 39 rfl (fun g39 => ?_) (fun g39 => ?_)
 ·
  refine go ?_
  refine g_i i (hl.keep E8.u (fun _ h => h)) (fun _ => ?_)
  refine go ?_
  refine x_c func162 rfl rfl (book1_c (nth l i) n _ (hky _ (nth_mem (by omega))) hn) ?_
  rintro _ w22 ⟨rfl, u23⟩ zu23
  refine go ?_
  refine f_ret2 (v1 := .int .i64 (i : Int)) (v2 := .bool (decide (((nth l i).b - n) = 0))) results161 rfl rfl ?_
  have hij2 : i = j := by omega
  subst hij2
  have hps : posK (fun x : Crg => x.b) n l = i := posK_eq hjl (hs.below hjl hi) hj
  exact ⟨by unfold isK; rw [hps]; simp [*] <;> first | omega | (rw [Bool.eq_iff_iff]; simp only [decide_eq_true_eq, Bool.and_eq_true]; omega), u_d⟩
 refine go ?_
 refine f_ret2 (v1 := .int .i64 (i : Int)) (v2 := .bool false) results161 rfl rfl ?_
 have hij2 : i = j := by omega
 subst hij2
 have hps : posK (fun x : Crg => x.b) n l = i := posK_eq hjl (hs.below hjl hi) hj
 exact ⟨by unfold isK; rw [hps]; simp [*] <;> first | omega | (rw [Bool.eq_iff_iff]; simp only [decide_eq_true_eq, Bool.and_eq_true]; omega), u_d⟩

theorem find1_c (x : HR) (n : Int) (w0 : World) (hx : -1000000 ≤ x.n ∧ x.n ≤ 1000000) (hn : -1000000 ≤ n ∧ n ≤ 1000000) :
    CallsV Tryz.prog 140 [.agg #[.int .i64 x.n, .int .i64 x.p, .slice x.ao x.c.length x.cp], .int .i64 n] w0 (fun v w' => v = .int .i64 (x.n - n) ∧ Ext w0 w') := by
 refine f_n func140 ?_
 refine go ?_
 refine x_b fun bk2 w3 ebk2 sbk2 B4 u5 => ?_
 refine go ?_
 refine f_1 results140 ?_
 exact ⟨rfl, u_d⟩

set_option maxHeartbeats 4000000 in
theorem searchH_c (l : List HR) (al : Option Addr) (bl ol cl : Nat) (n : Int) (w0 : World) (hl : Sl encHR 3 w0 al bl ol l) (hs : Asc (fun x : HR => x.n) l) (hll : l.length ≤ 1000000) (hky : ∀ x ∈ l, -1000000 ≤ x.n ∧ x.n ≤ 1000000) (hn : -1000000 ≤ n ∧ n ≤ 1000000) :
    CallsV Tryz.prog 139 [.slice al l.length cl, .int .i64 n, .func (.func 140) #[] #[]] w0 (fun v w' => v = .tuple #[.int .i64 (posK (fun x : HR => x.n) n l : Int), .bool (isK (fun x : HR => x.n) n l)] ∧ Ext w0 w') := by
 refine f_n func139 ?_
 refine go ?_
 refine x_l2 (fun _ => False) [0, 1, 2, 8] (fun (i : Nat) (j : Nat) => [(9, .int .i64 (i : Int)), (10, .int .i64 (j : Int))]) (fun i j w => (i ≤ j) ∧ (j ≤ l.length) ∧ (0 < i → (nth l (i - 1)).n < n) ∧ (j < l.length → n ≤ (nth l j).n)) (fun i j => j - i) 0 l.length ⟨(Nat.zero_le _), (Nat.le_refl _), (fun h => absurd h (Nat.lt_irrefl _)), (fun h => absurd h (Nat.lt_irrefl _))⟩ ?_
 rintro i j w6 ⟨hij, hjl, hi, hj⟩ u7 zu7 K5 hK5
 have E8 := Sc.mk ((Upd.refl (fun _ => False) w0).nx u7)
 refine go ?_
 refine q_p (fun g17 => ?_) fun g17 => ?_
 ·
  refine go ?_
  refine t_conv underlying3 underlying120 rfl rfl rfl (IntWalk.u64_in _ (by omega)) (t_shr1 rfl rfl rfl rfl (by omega) (t_conv underlying120 underlying3 rfl rfl rfl (IntWalk.i64_in _ (by omega)) ?_))
  refine go ?_
  refine g_i ((i + j) / 2) (hl.keep E8.u (fun _ h => h)) (fun _ => ?_) (hj := (by omega))
  refine go ?_
  refine x_c func140 rfl rfl (find1_c (nth l ((i + j) / 2)) n _ (hky _ (nth_mem (by omega))) hn) ?_
  rintro _ w15 ⟨rfl, u16⟩ zu16
  refine go ?_
  refine q_p (fun g31 => ?_) fun g31 => ?_
  ·
   refine go ?_
   exact hK5 ((i + j) / 2 + 1) j ⟨(by show ((i + j) / 2) + 1 ≤ j; omega), (by omega), (fun _ => by show (nth l (((i + j) / 2) + 1 - 1)).n < n; rw [Nat.add_sub_cancel]; omega), hj⟩ (hs := by exact ⟨(congrArg (fun z => some (Value.int .i64 z)) (by omega)), (congrArg (fun z => some (Value.int .i64 z)) (by omega)), rfl, rfl, rfl, rfl, trivial⟩)
  refine go ?_
  exact hK5 i ((i + j) / 2) ⟨(by omega), (by omega), hi, (fun _ => by show n ≤ (nth l ((i + j) / 2)).n; omega)⟩ (hs := by exact ⟨(congrArg (fun z => some (Value.int .i64 z)) (by omega)), (congrArg (fun z => some (Value.int .i64 z)) (by omega)), rfl, rfl, rfl, rfl, trivial⟩)
 refine go ?_
 refine t_splitp 39 rfl (fun g39 => ?_) (fun g39 => ?_)
 ·
  refine go ?_
  refine g_i i (hl.keep E8.u (fun _ h => h)) (fun _ => ?_)
  refine go ?_
  refine x_c func140 rfl rfl (find1_c (nth l i) n _ (hky _ (nth_mem (by omega))) hn) ?_
  rintro _ w22 ⟨rfl, u23⟩ zu23
  refine go ?_
  refine f_ret2 (v1 := .int .i64 (i : Int)) (v2 := .bool (decide (((nth l i).n - n) = 0))) results139 rfl rfl ?_
  have hij2 : i = j := by omega
  subst hij2
  have hps : posK (fun x : HR => x.n) n l = i := posK_eq hjl (hs.below hjl hi) hj
  exact ⟨by unfold isK; rw [hps]; simp [*] <;> first | omega | (rw [Bool.eq_iff_iff]; simp only [decide_eq_true_eq, Bool.and_eq_true]; omega), u_d⟩
 refine go ?_
 refine f_ret2 (v1 := .int .i64 (i : Int)) (v2 := .bool false) results139 rfl rfl ?_
 have hij2 : i = j := by omega
 subst hij2
 have hps : posK (fun x : HR => x.n) n l = i := posK_eq hjl (hs.below hjl hi) hj
 exact ⟨by unfold isK; rw [hps]; simp [*] <;> first | omega | (rw [Bool.eq_iff_iff]; simp only [decide_eq_true_eq, Bool.and_eq_true]; omega), u_d⟩

theorem cloneC_c (l : List Crg) (al : Option Addr) (bl ol cl : Nat) (w0 : World) (hl : Sl encCrg 2 w0 al bl ol l) (hll : l.length ≤ 1000000) (hpos : 0 < w0.heap.size) :
    CallsV Tryz.prog 98 [.slice al l.length cl] w0 (fun v w' => (∃ ao g cp, v = .slice ao (List.length l) cp ∧ Acc encCrg 2 48 w0.heap.size w' ao g cp l) ∧ Ext w0 w') := by
 refine f_n func98 ?_
 refine go ?_
 refine t_nilS underlying35 rfl rfl rfl rfl ?_
 refine go ?_
 refine q_b (fun g4 => ?_) fun g4 => ?_
 ·
  refine go ?_
  refine f_1 results98 ?_
  have hl0 : l = [] := List.eq_nil_of_length_eq_zero (by
    rcases Nat.eq_zero_or_pos l.length with h | h
    · exact h
    · rw [hl.addr h] at g4; cases g4)
  exact ⟨⟨none, 0, 0, by rw [hl0]; rfl, by rw [hl0]; exact Acc.nil _ _ _ _ _ hpos (by omega)⟩, u_d⟩
 refine go ?_
 refine x_l fun bk6 w7 ebk6 sbk6 B8 u9 => ?_
 refine go ?_
 refine t_copyE (enc := encCrg) (z := .agg #[.int .i64 0, .int .i64 0]) (bytes := 16) (k := 2) (ys := l) underlying35 (by kernel_rfl) rfl (by decide) (fun _ => rfl) (by intro x; simp [encCrg, Value.oneCell']) rfl rfl rfl rfl B8 (hl.keep ((Upd.refl (fun _ => False) w0).nx u9) (fun _ h => h)) (by omega) (by decide) (fun ao1 g1 c1 w11 A13 u12 ge1 => ?_)
 have zu12 := u12.size
 refine go ?_
 refine f_1 results98 ?_
 obtain ⟨g9, ha9⟩ := Acc.lower (base' := w0.heap.size) A13 (by omega) hpos
 exact ⟨⟨ao1, g9, c1, rfl, ha9⟩, u_d⟩

theorem cloneH_c (l : List HR) (al : Option Addr) (bl ol cl : Nat) (w0 : World) (hl : Sl encHR 3 w0 al bl ol l) (hll : l.length ≤ 1000000) (hpos : 0 < w0.heap.size) :
    CallsV Tryz.prog 99 [.slice al l.length cl] w0 (fun v w' => (∃ ao g cp, v = .slice ao (List.length l) cp ∧ Acc encHR 3 46 w0.heap.size w' ao g cp l) ∧ Ext w0 w') := by
 refine f_n func99 ?_
 refine go ?_
 refine t_nilS underlying34 rfl rfl rfl rfl ?_
 refine go ?_
 refine q_b (fun g4 => ?_) fun g4 => ?_
 ·
  refine go ?_
  refine f_1 results99 ?_
  have hl0 : l = [] := List.eq_nil_of_length_eq_zero (by
    rcases Nat.eq_zero_or_pos l.length with h | h
    · exact h
    · rw [hl.addr h] at g4; cases g4)
  exact ⟨⟨none, 0, 0, by rw [hl0]; rfl, by rw [hl0]; exact Acc.nil _ _ _ _ _ hpos (by omega)⟩, u_d⟩
 refine go ?_
 refine x_l fun bk6 w7 ebk6 sbk6 B8 u9 => ?_
 refine go ?_
 refine t_copyE (enc := encHR) (z := .agg #[.int .i64 0, .int .i64 0, .slice none 0 0]) (bytes := 40) (k := 3) (ys := l) underlying34 (by kernel_rfl) rfl (by decide) (fun _ => rfl) (by intro x; simp [encHR, Value.oneCell']) rfl rfl rfl rfl B8 (hl.keep ((Upd.refl (fun _ => False) w0).nx u9) (fun _ h => h)) (by omega) (by decide) (fun ao1 g1 c1 w11 A13 u12 ge1 => ?_)
 have zu12 := u12.size
 refine go ?_
 refine f_1 results99 ?_
 obtain ⟨g9, ha9⟩ := Acc.lower (base' := w0.heap.size) A13 (by omega) hpos
 exact ⟨⟨ao1, g9, c1, rfl, ha9⟩, u_d⟩

end Go.Proofs.YtjdcpnaocjddoaaGreatDoor
namespace Go.Proofs.YtjdcpnaocjddoaaGreatDoor
open Go Go.RowKit Go.Proofs.Tryz
set_option maxHeartbeats 4000000 in
theorem insertC_c (l : List Crg) (ao : Option Addr) (gb cp base k bv : Nat) (s : Crg) (w0 : World) (ha : Acc encCrg 2 48 base w0 ao gb cp l) (hk : k ≤ l.length) (hll : l.length ≤ 100000) (hbs : base ≤ w0.heap.size) (hb : Blk w0 bv 48 (encCrg s)) (hvg0 : base ≤ gb → bv ≠ gb) :
    CallsV Tryz.prog 163 [.slice ao l.length cp, .int .i64 (k : Int), .slice (some ⟨bv, 0, none⟩) 1 1] w0 (fun v w' => (∃ ao' g' cp', v = .slice ao' (List.length (l.take k ++ s :: l.drop k)) cp' ∧ Acc encCrg 2 48 base w' ao' g' cp' (l.take k ++ s :: l.drop k) ∧ (g' = gb ∨ w0.heap.size ≤ g')) ∧ Upd (fun i => i = gb ∧ base ≤ i) w0 w') := by
 have hcl := ha.cap_le
 have hgl := ha.lt
 have hbl := hb.lt
 refine f_n func163 ?_
 refine go ?_
 refine t_sliceFrom (k) underlying35 sizeOf48 rfl rfl rfl rfl rfl hk hcl ?_
 refine go ?_
 refine q_p (fun g22 => ?_) fun g22 => ?_
 ·
  refine go ?_
  refine t_append2 (z := .agg #[.int .i64 0, .int .i64 0]) (bytes := 16) (k := 2) (base := base) s underlying35 underlying35 (by kernel_rfl) rfl (by decide) (fun _ => rfl) (by intro x; simp [encCrg, Value.oneCell']) rfl rfl rfl rfl ha hb (by omega) (by omega) (by decide) (fun ao10 gb11 cp12 w13 A14 u15 gegb11 lngb11 => ?_)
  have zu15 := u15.size
  have lt_gb11 := A14.lt
  refine go ?_
  refine f_1 results163 ?_
  have hxe : (l.take k ++ s :: l.drop k) = l ++ [s] := by rw [show k = l.length by omega, List.take_length, List.drop_length]
  exact ⟨⟨ao10, gb11, cp12, by rw [hxe], by rw [hxe]; exact A14, (by omega)⟩, u_d⟩
 have hkl : k < l.length := by omega
 obtain ⟨hao, hbg, hlc, hcM0, cs0, hB0, hB0l, hB0t⟩ := Acc.raw ha (.inr (by omega))
 subst hao
 have hvg : bv ≠ gb := hvg0 hbg
 have hAtk : At w0 gb 0 ((l.take k).flatMap encCrg) := by
   have h9 := (ha.sl (fun _ => rfl)).cellsFrom (k := 2) (by decide) (fun _ => rfl) 0 k
   rw [List.drop_zero, Nat.zero_add, Nat.zero_mul] at h9
   exact h9
 have hgl0 := hB0.lt
 refine go ?_
 refine t_cap underlying35 rfl rfl rfl rfl ?_
 refine go ?_
 refine q_p (fun g31 => ?_) fun g31 => ?_
 ·
  refine go ?_
  refine t_sliceTo (k) underlying35 sizeOf48 rfl rfl rfl rfl rfl (by omega) (t_same 34 (v := .slice (some ⟨gb, 0, none⟩) k cp) rfl (by rw [subAddr_some (by omega)]) ?_)
  refine go ?_
  refine t_appZ (cs := (l.take k).flatMap encCrg) (m := l.length + 1 - k) (n := l.length + 1) (off := 0) (z := .agg #[.int .i64 0, .int .i64 0]) (bytes := 16) (k := 2) underlying35 underlying3 (by kernel_rfl) rfl (by decide) rfl rfl rfl rfl (by omega) (by omega) (by omega) (by omega) (by rw [flatMap_len (k := 2) (fun _ => rfl), List.length_take]; omega) hAtk (by omega) (by decide) (fun cN w20 zs hcN hcM hzl B22 u21 => ?_)
  have zu21 := u21.size
  obtain ⟨C0, hC0⟩ : ∃ C, (l.take k).flatMap encCrg ++ zs = C := ⟨_, rfl⟩
  rw [hC0] at B22
  have hlN := B22.lt
  have hCl : C0.length = cN * 2 := by rw [← hC0, List.length_append, hzl, flatMap_len (k := 2) (fun _ => rfl), List.length_take]; omega
  have hCt : C0.take (k * 2) = (l.take k).flatMap encCrg := by rw [← hC0, List.take_left' (by rw [flatMap_len (k := 2) (fun _ => rfl), List.length_take]; omega)]
  refine go ?_
  refine t_sliceFrom (k) underlying35 sizeOf48 rfl rfl rfl rfl (by omega) (by omega) (by omega) (t_same 43 (v := .slice (some ⟨w0.heap.size, 0 + k * 2, none⟩) ((l.length + 1) - k) (cN - k)) rfl (by rw [subAddr_some (by omega)]) ?_)
  refine go ?_
  have B28 := (hb.kx u21)
  refine t_copyB (k := 2) (cs := C0) (vs := (encCrg s)) underlying35 sizeOf48 rfl rfl rfl rfl B22 (B28.at) (by show 2 = min _ _ * 2; omega) (by show 0 + k * 2 + 2 ≤ _; rw [hCl]; omega) (by exact encCrg_one s) (fun w25 sw25 B27 u26 => ?_)
  have zu26 := u26.size
  obtain ⟨C1, hC1⟩ : ∃ C, lay C0 (0 + k * 2) (encCrg s) = C := ⟨_, rfl⟩
  rw [hC1] at B27
  have lC1 : C1.length = C0.length := by rw [← hC1, lay_length]
  refine go ?_
  refine c_drawnM follows (fun i => i = w0.heap.size) (OTl [0, 2, 4, 6, 8, 10, 12, 14, 17]) (by kernel_rfl) fun w31 u32 => ?_
  have zu32 := u32.size
  refine go ?_
  refine y_sliceFrom ((k + 1)) underlying35 sizeOf48 rfl rfl rfl rfl (by omega) (by omega) (by omega) (y_same 50 (v := .slice (some ⟨w0.heap.size, 0 + (k + 1) * 2, none⟩) ((l.length + 1) - (k + 1)) (cN - (k + 1))) rfl (by rw [subAddr_some (by omega)]) ?_)
  refine go ?_
  refine y_sliceFrom (k) underlying35 sizeOf48 rfl rfl rfl rfl (by omega) (by omega) (by omega) (y_same 53 (v := .slice (some ⟨gb, 0 + k * 2, none⟩) (l.length - k) (cp - k)) rfl (by rw [subAddr_some (by omega)]) ?_)
  refine go ?_
  have D37 := (((ha.keep u21 (fun _ h => h)).keep u26 (fun hb => show ¬ (gb = w0.heap.size) by first | omega | assumption)).keep u32 (fun _ h => h))
  refine t_copyB (k := 2) (cs := C1) (vs := ((l.drop k).flatMap encCrg)) underlying35 sizeOf48 rfl rfl rfl rfl (B27.kx u32) (by have h9 := (D37.sl (fun _ => rfl)).cellsFrom (k := 2) (by decide) (fun _ => rfl) k (l.length - k); rwa [List.take_of_length_le (by rw [List.length_drop]; omega)] at h9) (by rw [flatMap_len (k := 2) (fun _ => rfl), List.length_drop]; omega) (by rw [flatMap_len (k := 2) (fun _ => rfl), List.length_drop]; rw [lC1, hCl]; omega) (by intro v hv; obtain ⟨x, _, hv⟩ := List.mem_flatMap.1 hv; exact encCrg_one x v hv) (fun w34 sw34 B36 u35 => ?_)
  have zu35 := u35.size
  obtain ⟨C2, hC2⟩ : ∃ C, lay C1 (0 + (k + 1) * 2) ((l.drop k).flatMap encCrg) = C := ⟨_, rfl⟩
  rw [hC2] at B36
  have lC2 : C2.length = C1.length := by rw [← hC2, lay_length]
  refine go ?_
  refine f_1 results163 ?_
  have hln : (l.take k ++ s :: l.drop k).length = l.length + 1 := by rw [List.length_append, List.length_cons, List.length_take, List.length_drop]; omega
  refine ⟨⟨some ⟨w0.heap.size, 0, none⟩, w0.heap.size, cN, by rw [hln], Acc.ofRaw (cs := C2) B36 (Nat.le_trans hbs (by omega)) (by rw [hln]; omega) hcM (by rw [lC2, lC1]; exact hCl) ?_, (by first | exact .inl rfl | exact .inr (by omega))⟩, u_d⟩
  rw [hln]
  have h9 := ins_rawA (k := 2) (s := s) (fun _ => rfl) rfl hkl (by rw [hCl]; omega) hCt
  rw [← hC2, ← hC1, Nat.zero_add, Nat.zero_add]
  exact h9
 refine go ?_
 refine t_sliceTo (l.length + 1) underlying35 sizeOf48 rfl rfl rfl rfl (by omega) (by omega) (t_same 60 (v := .slice (some ⟨gb, 0, none⟩) (l.length + 1) cp) rfl (by rw [subAddr_some (by omega)]) ?_)
 refine go ?_
 refine t_sliceFrom ((k + 1)) underlying35 sizeOf48 rfl rfl rfl rfl (by omega) (by omega) (by omega) (t_same 66 (v := .slice (some ⟨gb, 0 + (k + 1) * 2, none⟩) ((l.length + 1) - (k + 1)) (cp - (k + 1))) rfl (by rw [subAddr_some (by omega)]) (t_apart (tS := 35) (tR := 4) (e := 48) func180 (by kernel_rfl) (by kernel_rfl) (by kernel_rfl) (by kernel_rfl) underlying35 sizeOf48 rfl rfl rfl rfl rfl hb hB0 hvg (by rw [hB0l]; omega) ?_))
 refine go ?_
 refine c_drawnM follows (fun i => i = gb) (OTl [0, 2, 4, 6, 8, 10, 12, 14, 17]) (by kernel_rfl) fun w44 u45 => ?_
 have zu45 := u45.size
 refine go ?_
 refine y_sliceFrom ((k + 1)) underlying35 sizeOf48 rfl rfl rfl rfl (by omega) (by omega) (by omega) (y_same 73 (v := .slice (some ⟨gb, 0 + (k + 1) * 2, none⟩) ((l.length + 1) - (k + 1)) (cp - (k + 1))) rfl (by rw [subAddr_some (by omega)]) ?_)
 refine go ?_
 refine y_sliceFrom (k) underlying35 sizeOf48 rfl rfl rfl rfl (by omega) (by omega) (by omega) (y_same 76 (v := .slice (some ⟨gb, 0 + k * 2, none⟩) ((l.length + 1) - k) (cp - k)) rfl (by rw [subAddr_some (by omega)]) ?_)
 refine go ?_
 have D50 := (ha.keep u45 (fun _ h => h))
 refine t_copyB (k := 2) (cs := cs0) (vs := ((l.drop k).flatMap encCrg)) underlying35 sizeOf48 rfl rfl rfl rfl (hB0.kx u45) (by have h9 := (D50.sl (fun _ => rfl)).cellsFrom (k := 2) (by decide) (fun _ => rfl) k (l.length - k); rwa [List.take_of_length_le (by rw [List.length_drop]; omega)] at h9) (by rw [flatMap_len (k := 2) (fun _ => rfl), List.length_drop]; omega) (by rw [flatMap_len (k := 2) (fun _ => rfl), List.length_drop]; rw [hB0l]; omega) (by intro v hv; obtain ⟨x, _, hv⟩ := List.mem_flatMap.1 hv; exact encCrg_one x v hv) (fun w47 sw47 B49 u48 => ?_)
 have zu48 := u48.size
 obtain ⟨C1, hC1⟩ : ∃ C, lay cs0 (0 + (k + 1) * 2) ((l.drop k).flatMap encCrg) = C := ⟨_, rfl⟩
 rw [hC1] at B49
 have lC1 : C1.length = cs0.length := by rw [← hC1, lay_length]
 refine go ?_
 refine t_sliceFrom (k) underlying35 sizeOf48 rfl rfl rfl rfl (by omega) (by omega) (by omega) (t_same 80 (v := .slice (some ⟨gb, 0 + k * 2, none⟩) ((l.length + 1) - k) (cp - k)) rfl (by rw [subAddr_some (by omega)]) ?_)
 refine go ?_
 have B56 := ((hb.kx u45).keep u48 (by omega))
 refine t_copyB (k := 2) (cs := C1) (vs := (encCrg s)) underlying35 sizeOf48 rfl rfl rfl rfl B49 (B56.at) (by show 2 = min _ _ * 2; omega) (by show 0 + k * 2 + 2 ≤ _; rw [lC1, hB0l]; omega) (by exact encCrg_one s) (fun w53 sw53 B55 u54 => ?_)
 have zu54 := u54.size
 obtain ⟨C2, hC2⟩ : ∃ C, lay C1 (0 + k * 2) (encCrg s) = C := ⟨_, rfl⟩
 rw [hC2] at B55
 have lC2 : C2.length = C1.length := by rw [← hC2, lay_length]
 refine go ?_
 refine f_1 results163 ?_
 have hln : (l.take k ++ s :: l.drop k).length = l.length + 1 := by rw [List.length_append, List.length_cons, List.length_take, List.length_drop]; omega
 refine ⟨⟨some ⟨gb, 0, none⟩, gb, cp, by rw [hln], Acc.ofRaw (cs := C2) B55 (hbg) (by rw [hln]; omega) hcM0 (by rw [lC2, lC1]; exact hB0l) ?_, (by first | exact .inl rfl | exact .inr (by omega))⟩, u_d⟩
 rw [hln]
 have h9 := ins_rawB (k := 2) (s := s) (fun _ => rfl) rfl hkl (by rw [hB0l]; omega) (raw_take (k := 2) (fun _ => rfl) hB0t (by omega))
 rw [← hC2, ← hC1, Nat.zero_add, Nat.zero_add]
 exact h9

set_option maxHeartbeats 4000000 in
theorem insertH_c (l : List HR) (ao : Option Addr) (gb cp base k bv : Nat) (s : HR) (w0 : World) (ha : Acc encHR 3 46 base w0 ao gb cp l) (hk : k ≤ l.length) (hll : l.length ≤ 100000) (hbs : base ≤ w0.heap.size) (hb : Blk w0 bv 46 (encHR s)) (hvg0 : base ≤ gb → bv ≠ gb) :
    CallsV Tryz.prog 138 [.slice ao l.length cp, .int .i64 (k : Int), .slice (some ⟨bv, 0, none⟩) 1 1] w0 (fun v w' => (∃ ao' g' cp', v = .slice ao' (List.length (l.take k ++ s :: l.drop k)) cp' ∧ Acc encHR 3 46 base w' ao' g' cp' (l.take k ++ s :: l.drop k) ∧ (g' = gb ∨ w0.heap.size ≤ g')) ∧ Upd (fun i => i = gb ∧ base ≤ i) w0 w') := by
 have hcl := ha.cap_le
 have hgl := ha.lt
 have hbl := hb.lt
 refine f_n func138 ?_
 refine go ?_
 refine t_sliceFrom (k) underlying34 sizeOf46 rfl rfl rfl rfl rfl hk hcl ?_
 refine go ?_
 refine q_p (fun g22 => ?_) fun g22 => ?_
 ·
  refine go ?_
  refine t_append2 (z := .agg #[.int .i64 0, .int .i64 0, .slice none 0 0]) (bytes := 40) (k := 3) (base := base) s underlying34 underlying34 (by kernel_rfl) rfl (by decide) (fun _ => rfl) (by intro x; simp [encHR, Value.oneCell']) rfl rfl rfl rfl ha hb (by omega) (by omega) (by decide) (fun ao10 gb11 cp12 w13 A14 u15 gegb11 lngb11 => ?_)
  have zu15 := u15.size
  have lt_gb11 := A14.lt
  refine go ?_
  refine f_1 results138 ?_
  have hxe : (l.take k ++ s :: l.drop k) = l ++ [s] := by rw [show k = l.length by omega, List.take_length, List.drop_length]
  exact ⟨⟨ao10, gb11, cp12, by rw [hxe], by rw [hxe]; exact A14, (by omega)⟩, u_d⟩
 have hkl : k < l.length := by omega
 obtain ⟨hao, hbg, hlc, hcM0, cs0, hB0, hB0l, hB0t⟩ := Acc.raw ha (.inr (by omega))
 subst hao
 have hvg : bv ≠ gb := hvg0 hbg
 have hAtk : At w0 gb 0 ((l.take k).flatMap encHR) := by
   have h9 := (ha.sl (fun _ => rfl)).cellsFrom (k := 3) (by decide) (fun _ => rfl) 0 k
   rw [List.drop_zero, Nat.zero_add, Nat.zero_mul] at h9
   exact h9
 have hgl0 := hB0.lt
 refine go ?_
 refine t_cap underlying34 rfl rfl rfl rfl ?_
 refine go ?_
 refine q_p (fun g31 => ?_) fun g31 => ?_
 ·
  refine go ?_
  refine t_sliceTo (k) underlying34 sizeOf46 rfl rfl rfl rfl rfl (by omega) (t_same 34 (v := .slice (some ⟨gb, 0, none⟩) k cp) rfl (by rw [subAddr_some (by omega)]) ?_)
  refine go ?_
  refine t_appZ (cs := (l.take k).flatMap encHR) (m := l.length + 1 - k) (n := l.length + 1) (off := 0) (z := .agg #[.int .i64 0, .int .i64 0, .slice none 0 0]) (bytes := 40) (k := 3) underlying34 underlying3 (by kernel_rfl) rfl (by decide) rfl rfl rfl rfl (by omega) (by omega) (by omega) (by omega) (by rw [flatMap_len (k := 3) (fun _ => rfl), List.length_take]; omega) hAtk (by omega) (by decide) (fun cN w20 zs hcN hcM hzl B22 u21 => ?_)
  have zu21 := u21.size
  obtain ⟨C0, hC0⟩ : ∃ C, (l.take k).flatMap encHR ++ zs = C := ⟨_, rfl⟩
  rw [hC0] at B22
  have hlN := B22.lt
  have hCl : C0.length = cN * 3 := by rw [← hC0, List.length_append, hzl, flatMap_len (k := 3) (fun _ => rfl), List.length_take]; omega
  have hCt : C0.take (k * 3) = (l.take k).flatMap encHR := by rw [← hC0, List.take_left' (by rw [flatMap_len (k := 3) (fun _ => rfl), List.length_take]; omega)]
  refine go ?_
  refine t_sliceFrom (k) underlying34 sizeOf46 rfl rfl rfl rfl (by omega) (by omega) (by omega) (t_same 43 (v := .slice (some ⟨w0.heap.size, 0 + k * 3, none⟩) ((l.length + 1) - k) (cN - k)) rfl (by rw [subAddr_some (by omega)]) ?_)
  refine go ?_
  have B28 := (hb.kx u21)
  refine t_copyB (k := 3) (cs := C0) (vs := (encHR s)) underlying34 sizeOf46 rfl rfl rfl rfl B22 (B28.at) (by show 3 = min _ _ * 3; omega) (by show 0 + k * 3 + 3 ≤ _; rw [hCl]; omega) (by exact encHR_one s) (fun w25 sw25 B27 u26 => ?_)
  have zu26 := u26.size
  obtain ⟨C1, hC1⟩ : ∃ C, lay C0 (0 + k * 3) (encHR s) = C := ⟨_, rfl⟩
  rw [hC1] at B27
  have lC1 : C1.length = C0.length := by rw [← hC1, lay_length]
  refine go ?_
  refine c_drawnM follows (fun i => i = w0.heap.size) (OTl [0, 2, 4, 6, 8, 10, 12, 14, 17]) (by kernel_rfl) fun w31 u32 => ?_
  have zu32 := u32.size
  refine go ?_
  refine y_sliceFrom ((k + 1)) underlying34 sizeOf46 rfl rfl rfl rfl (by omega) (by omega) (by omega) (y_same 50 (v := .slice (some ⟨w0.heap.size, 0 + (k + 1) * 3, none⟩) ((l.length + 1) - (k + 1)) (cN - (k + 1))) rfl (by rw [subAddr_some (by omega)]) ?_)
  refine go ?_
  refine y_sliceFrom (k) underlying34 sizeOf46 rfl rfl rfl rfl (by omega) (by omega) (by omega) (y_same 53 (v := .slice (some ⟨gb, 0 + k * 3, none⟩) (l.length - k) (cp - k)) rfl (by rw [subAddr_some (by omega)]) ?_)
  refine go ?_
  have D37 := (((ha.keep u21 (fun _ h => h)).keep u26 (fun hb => show ¬ (gb = w0.heap.size) by first | omega | assumption)).keep u32 (fun _ h => h))
  refine t_copyB (k := 3) (cs := C1) (vs := ((l.drop k).flatMap encHR)) underlying34 sizeOf46 rfl rfl rfl rfl (B27.kx u32) (by have h9 := (D37.sl (fun _ => rfl)).cellsFrom (k := 3) (by decide) (fun _ => rfl) k (l.length - k); rwa [List.take_of_length_le (by rw [List.length_drop]; omega)] at h9) (by rw [flatMap_len (k := 3) (fun _ => rfl), List.length_drop]; omega) (by rw [flatMap_len (k := 3) (fun _ => rfl), List.length_drop]; rw [lC1, hCl]; omega) (by intro v hv; obtain ⟨x, _, hv⟩ := List.mem_flatMap.1 hv; exact encHR_one x v hv) (fun w34 sw34 B36 u35 => ?_)
  have zu35 := u35.size
  obtain ⟨C2, hC2⟩ : ∃ C, lay C1 (0 + (k + 1) * 3) ((l.drop k).flatMap encHR) = C := ⟨_, rfl⟩
  rw [hC2] at B36
  have lC2 : C2.length = C1.length := by rw [← hC2, lay_length]
  refine go ?_
  refine f_1 results138 ?_
  have hln : (l.take k ++ s :: l.drop k).length = l.length + 1 := by rw [List.length_append, List.length_cons, List.length_take, List.length_drop]; omega
  refine ⟨⟨some ⟨w0.heap.size, 0, none⟩, w0.heap.size, cN, by rw [hln], Acc.ofRaw (cs := C2) B36 (Nat.le_trans hbs (by omega)) (by rw [hln]; omega) hcM (by rw [lC2, lC1]; exact hCl) ?_, (by first | exact .inl rfl | exact .inr (by omega))⟩, u_d⟩
  rw [hln]
  have h9 := ins_rawA (k := 3) (s := s) (fun _ => rfl) rfl hkl (by rw [hCl]; omega) hCt
  rw [← hC2, ← hC1, Nat.zero_add, Nat.zero_add]
  exact h9
 refine go ?_
 refine t_sliceTo (l.length + 1) underlying34 sizeOf46 rfl rfl rfl rfl (by omega) (by omega) (t_same 60 (v := .slice (some ⟨gb, 0, none⟩) (l.length + 1) cp) rfl (by rw [subAddr_some (by omega)]) ?_)
 refine go ?_
 refine t_sliceFrom ((k + 1)) underlying34 sizeOf46 rfl rfl rfl rfl (by omega) (by omega) (by omega) (t_same 66 (v := .slice (some ⟨gb, 0 + (k + 1) * 3, none⟩) ((l.length + 1) - (k + 1)) (cp - (k + 1))) rfl (by rw [subAddr_some (by omega)]) (t_apart (tS := 34) (tR := 4) (e := 46) func165 (by kernel_rfl) (by kernel_rfl) (by kernel_rfl) (by kernel_rfl) underlying34 sizeOf46 rfl rfl rfl rfl rfl hb hB0 hvg (by rw [hB0l]; omega) ?_))
 refine go ?_
 refine c_drawnM follows (fun i => i = gb) (OTl [0, 2, 4, 6, 8, 10, 12, 14, 17]) (by kernel_rfl) fun w44 u45 => ?_
 have zu45 := u45.size
 refine go ?_
 refine y_sliceFrom ((k + 1)) underlying34 sizeOf46 rfl rfl rfl rfl (by omega) (by omega) (by omega) (y_same 73 (v := .slice (some ⟨gb, 0 + (k + 1) * 3, none⟩) ((l.length + 1) - (k + 1)) (cp - (k + 1))) rfl (by rw [subAddr_some (by omega)]) ?_)
 refine go ?_
 refine y_sliceFrom (k) underlying34 sizeOf46 rfl rfl rfl rfl (by omega) (by omega) (by omega) (y_same 76 (v := .slice (some ⟨gb, 0 + k * 3, none⟩) ((l.length + 1) - k) (cp - k)) rfl (by rw [subAddr_some (by omega)]) ?_)
 refine go ?_
 have D50 := (ha.keep u45 (fun _ h => h))
 refine t_copyB (k := 3) (cs := cs0) (vs := ((l.drop k).flatMap encHR)) underlying34 sizeOf46 rfl rfl rfl rfl (hB0.kx u45) (by have h9 := (D50.sl (fun _ => rfl)).cellsFrom (k := 3) (by decide) (fun _ => rfl) k (l.length - k); rwa [List.take_of_length_le (by rw [List.length_drop]; omega)] at h9) (by rw [flatMap_len (k := 3) (fun _ => rfl), List.length_drop]; omega) (by rw [flatMap_len (k := 3) (fun _ => rfl), List.length_drop]; rw [hB0l]; omega) (by intro v hv; obtain ⟨x, _, hv⟩ := List.mem_flatMap.1 hv; exact encHR_one x v hv) (fun w47 sw47 B49 u48 => ?_)
 have zu48 := u48.size
 obtain ⟨C1, hC1⟩ : ∃ C, lay cs0 (0 + (k + 1) * 3) ((l.drop k).flatMap encHR) = C := ⟨_, rfl⟩
 rw [hC1] at B49
 have lC1 : C1.length = cs0.length := by rw [← hC1, lay_length]
 refine go ?_
 refine t_sliceFrom (k) underlying34 sizeOf46 rfl rfl rfl rfl (by omega) (by omega) (by omega) (t_same 80 (v := .slice (some ⟨gb, 0 + k * 3, none⟩) ((l.length + 1) - k) (cp - k)) rfl (by rw [subAddr_some (by omega)]) ?_)
 refine go ?_
 have B56 := ((hb.kx u45).keep u48 (by omega))
 refine t_copyB (k := 3) (cs := C1) (vs := (encHR s)) underlying34 sizeOf46 rfl rfl rfl rfl B49 (B56.at) (by show 3 = min _ _ * 3; omega) (by show 0 + k * 3 + 3 ≤ _; rw [lC1, hB0l]; omega) (by exact encHR_one s) (fun w53 sw53 B55 u54 => ?_)
 have zu54 := u54.size
 obtain ⟨C2, hC2⟩ : ∃ C, lay C1 (0 + k * 3) (encHR s) = C := ⟨_, rfl⟩
 rw [hC2] at B55
 have lC2 : C2.length = C1.length := by rw [← hC2, lay_length]
 refine go ?_
 refine f_1 results138 ?_
 have hln : (l.take k ++ s :: l.drop k).length = l.length + 1 := by rw [List.length_append, List.length_cons, List.length_take, List.length_drop]; omega
 refine ⟨⟨some ⟨gb, 0, none⟩, gb, cp, by rw [hln], Acc.ofRaw (cs := C2) B55 (hbg) (by rw [hln]; omega) hcM0 (by rw [lC2, lC1]; exact hB0l) ?_, (by first | exact .inl rfl | exact .inr (by omega))⟩, u_d⟩
 rw [hln]
 have h9 := ins_rawB (k := 3) (s := s) (fun _ => rfl) rfl hkl (by rw [hB0l]; omega) (raw_take (k := 3) (fun _ => rfl) hB0t (by omega))
 rw [← hC2, ← hC1, Nat.zero_add, Nat.zero_add]
 exact h9

end Go.Proofs.YtjdcpnaocjddoaaGreatDoor
