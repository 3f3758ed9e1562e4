/-
  The law TowHolds returns true. Conditions: none.
-/
import Derived.Test.YtmicjleiheoieaaA13
import Derived.Test.YtmicjleiheoieaaA25
import Derived.Test.YtmicjleiheoieaaA36
namespace Go.Proofs.Ytmicjleiheoieaa
open Go Go.RowKit
theorem flat_int (ls : List Int) : ls.flatMap encI = ls.map (Value.int .i64) := by
  induction ls with
  | nil => rfl
  | cons a l ih => rw [List.flatMap_cons, ih]; rfl
theorem HoldsU_c (us : List HVoy) (ao : Option Addr) (b cap : Nat) (ns : List Nar) (an : Option Addr) (bn on cn : Nat) (most : Int) (vl : List Voy) (w0 : World) (hm : us.map HVoy.v = vl) (hs : Sl encHVoy 5 w0 ao b 0 us) (hruns : ∀ x ∈ us, Sl encRun 6 w0 x.ao x.b x.o x.v.runs) (hn : Sl encNar 4 w0 an bn on ns) (hl : vl.length ≤ 1000000) (hrl : ∀ v ∈ vl, v.runs.length ≤ 1000000) (hnl : ns.length ≤ 1000000) :
    CallsV Try.prog 23 [.slice ao us.length cap, .slice an ns.length cn, .int .i64 most] w0 (fun v w' => (∃ ls a e ao b cap, v = .tuple #[.slice ao ls.length cap, .int .i64 a, .int .i64 e] ∧ Sl encI 1 w' ao b 0 ls ∧ HoldsA vl ns most ls a e) ∧ Ext w0 w') := by
  subst hm
  refine (Holds_c us ns ao an b 0 bn on cap cn most w0 hs hruns (fun x hx => hrl x.v (List.mem_map.2 ⟨x, hx, rfl⟩)) hn (by rw [List.length_map] at hl; exact hl) hnl).mono ?_
  rintro v w' ⟨h, u⟩
  refine ⟨?_, u⟩
  rcases h with ⟨h1, rfl⟩ | ⟨h1, h2, rfl⟩ | ⟨h1, h2, rows, hr, h⟩
  · exact ⟨[], 0, _, none, 0, 0, rfl, Sl.nil _ _ _ _ _ _, .inl ⟨h1, rfl, rfl, rfl⟩⟩
  · exact ⟨[], 0, _, none, 0, 0, rfl, Sl.nil _ _ _ _ _ _, .inr (.inl ⟨h1, h2, rfl, rfl, rfl⟩)⟩
  · rcases h with ⟨b', ls, rfl, hB, hl2, hseq, _⟩ | ⟨q, ls, hh, rfl, hq, hl2, hseq, hq1, hq2⟩
    · refine ⟨ls, 0, 0, some ⟨b', 0, none⟩, b', us.length, by rw [hl2], Sl.ofBlk (enc := encI) (fun _ => rfl) (by rw [flat_int]; exact hB), .inr (.inr ⟨h1, h2, holds_full hr hl2 hseq⟩)⟩
    · exact ⟨[], (q : Int), 7, none, 0, 0, rfl, Sl.nil _ _ _ _ _ _, .inr (.inr ⟨h1, h2, holds_fail hr hq hseq hq1 hq2⟩)⟩
theorem hold_bad {vl : List Voy} {ns : List Nar} {most a e : Int} {ls : List Int} (h : HoldsA vl ns most ls a e) (h0 : OpenE vl ns ≠ 0) : ls.length = 0 ∧ a = 0 ∧ e = OpenE vl ns := by
  rcases h with ⟨_, rfl, h1, h2⟩ | ⟨h1, _⟩ | ⟨h1, _⟩
  · exact ⟨rfl, h1, h2⟩
  · exact absurd h1 h0
  · exact absurd h1 h0
theorem hold_far {vl : List Voy} {ns : List Nar} {most a e : Int} {ls : List Int} (h : HoldsA vl ns most ls a e) (h0 : OpenE vl ns = 0) (hm : ¬ (0 ≤ most ∧ most ≤ 5000)) : ls.length = 0 ∧ a = 0 ∧ e = 3 := by
  rcases h with ⟨h1, _⟩ | ⟨_, _, rfl, h1, h2⟩ | ⟨_, h1, _⟩
  · exact absurd h0 h1
  · exact ⟨rfl, h1, h2⟩
  · exact absurd h1 hm
theorem hold_ok {vl : List Voy} {ns : List Nar} {most a e : Int} {ls : List Int} (h : HoldsA vl ns most ls a e) (h0 : OpenE vl ns = 0) (hm : 0 ≤ most ∧ most ≤ 5000) : HoldsR vl ns most ls a e := by
  rcases h with ⟨h1, _⟩ | ⟨_, h1, _⟩ | ⟨_, _, h1⟩
  · exact absurd h0 h1
  · exact absurd hm h1
  · exact h1
theorem holdsR_len {vl : List Voy} {ns : List Nar} {most a e : Int} {ls : List Int} (h : HoldsR vl ns most ls a e) : ls.length ≤ vl.length := by
  rcases h with ⟨_, _, h, _⟩ | ⟨_, _, _, _, rfl, _⟩
  · omega
  · exact Nat.zero_le _
theorem lrg_no {vs : List HVoy} {ns : List Nar} (h : lrgB vs ns = false) : (∀ x ∈ vs, x.v.runs.length ≤ 25) ∧ vs.length ≤ 14 ∧ ns.length ≤ 25 := by
  unfold lrgB at h
  simp only [Bool.or_eq_false_iff, decide_eq_false_iff_not, List.any_eq_false, decide_eq_true_eq] at h
  exact ⟨fun x hx => by have := h.1.1 x hx; omega, by omega, by omega⟩

theorem own4 : Own Try.prog 4 := ⟨Try.f4, Try.func4, by kernel_rfl, by kernel_rfl⟩

set_option maxHeartbeats 1000000 in
theorem TowHolds_c (vs : List HVoy) (av : Option Addr) (bv ov cv : Nat) (ns : List Nar) (an : Option Addr) (bn on cn : Nat) (most : Int) (w0 : World) (hs : Sl encHVoy 5 w0 av bv ov vs) (hruns : ∀ x ∈ vs, Sl encRun 6 w0 x.ao x.b x.o x.v.runs) (hn : Sl encNar 4 w0 an bn on ns) (hvl : vs.length ≤ 9223372036854775807) (hnl : ns.length ≤ 9223372036854775807) :
    CallsV Try.prog 4 [.agg #[.slice av vs.length cv, .slice an ns.length cn], .int .i64 most] w0 (fun v w' => v = .bool true ∧ Ext w0 w') := by
 have E0 := Upd.refl (fun _ => False) w0
 refine f_enter (N := 117) Try.func4 rfl rfl rfl ?_
 change WC _ _ _ _ _ _ [(0, .agg #[.slice av vs.length cv, .slice an ns.length cn]), (1, .int .i64 most)] _
 refine c_seq fun K1 hK1 => (c_region (t_box (cs := [.slice av vs.length cv, .slice an ns.length cn]) rfl rfl rfl rfl (fun bk2 w3 ebk2 sbk2 B4 u5 => ?_)))
 have zu5 := u5.size
 have E6 := E0.next u5 (fun _ _ h => h.elim)
 refine t_assign rfl rfl rfl (t_nil' (hK1 _ _ (c_cut (γ := Unit) (fun _x => [(1, .int .i64 most), (2, .pointer (some ⟨bk2, 0, none⟩))]) (fun _x w => Upd (fun _ => False) w3 w ∧ (lrgB vs ns = false)) (fun K8 hK8 => ?_) ?_)))
 ·
  refine c_seq fun K11 hK11 => (c_region (t_loadN (vs := [.slice av vs.length cv, .slice an ns.length cn]) Try.isAgg37 Try.sizeOf37 rfl rfl rfl (B4.at.sub 0 2) rfl (t_call (vs := [.agg #[.slice av vs.length cv, .slice an ns.length cn]]) own22 rfl rfl rfl rfl (large_c vs av bv ov cv ns an bn on cn _ (hs.keep E6 (fun _ h => h)) (fun x hx => (hruns x hx).keep E6 (fun _ h => h)) (hn.keep E6 (fun _ h => h)) (by omega) (by omega)) (fun v12 w13 r15 => ?_))))
  obtain ⟨rfl, u14⟩ := r15
  have zu14 := u14.size
  have E16 := E6.next u14 (fun _ _ h => h.elim)
  refine t_move rfl rfl rfl (t_split 14 rfl (fun g14 => ?_) (fun g14 => ?_))
  ·
   refine t_skip rfl rfl rfl (t_skip rfl rfl rfl (t_skip rfl rfl rfl (t_skip rfl rfl rfl (t_skip rfl rfl rfl (t_skip rfl rfl rfl (t_skip rfl rfl rfl (t_skip rfl rfl rfl (t_skip rfl rfl rfl (t_skip rfl rfl rfl (t_skip rfl rfl rfl (t_skip rfl rfl rfl (t_skip rfl rfl rfl (t_skip rfl rfl rfl (t_skip rfl rfl rfl (t_skip rfl rfl rfl (t_skip rfl rfl rfl (t_skip rfl rfl rfl (t_skip rfl rfl rfl (t_skip rfl rfl rfl (t_skip rfl rfl rfl (t_skip rfl rfl rfl (t_pick_t rfl rfl rfl rfl (t_move rfl rfl rfl ?_)))))))))))))))))))))))
   refine t_skip rfl rfl rfl (t_skip rfl rfl rfl (t_skip rfl rfl rfl (t_skip rfl rfl rfl (t_skip rfl rfl rfl (t_skip rfl rfl rfl (t_pick_t rfl rfl rfl rfl (t_nil' (hK11 _ _ (c_cond_t rfl (c_seq fun K17 hK17 => (c_region (t_call (vs := []) own16 rfl rfl rfl rfl (known_c _) (fun v18 w19 r21 => ?_)))))))))))))
   obtain ⟨rfl, u20⟩ := r21
   have zu20 := u20.size
   have E22 := E16.next u20 (fun _ _ h => h.elim)
   refine t_assign rfl rfl rfl (t_nil' (hK17 _ _ (c_ret (f_ret1 (v := .bool true) Try.results4 rfl ?_))))
   exact ⟨rfl, E22⟩
  ·
   refine t_field Try.underlying37 rfl Try.sizeOf34 (0) rfl rfl rfl rfl ?_
   have B23 := (B4.keep u14 (fun h => h))
   refine t_load Try.isAgg34 rfl rfl rfl (B23.get rfl) (t_len Try.underlying34 rfl rfl rfl rfl (t_cmp rfl rfl rfl rfl rfl (t_move rfl rfl rfl (t_splitp 19 rfl (fun g19 => ?_) (fun g19 => ?_)))))
   ·
    refine t_skip rfl rfl rfl (t_skip rfl rfl rfl (t_skip rfl rfl rfl (t_skip rfl rfl rfl (t_pick_t rfl rfl rfl rfl (t_move rfl rfl rfl (t_field Try.underlying37 rfl Try.sizeOf34 (0) rfl rfl rfl rfl (t_load Try.isAgg34 rfl rfl rfl (B23.get rfl) (t_len Try.underlying34 rfl rfl rfl rfl (t_cmp rfl rfl rfl rfl rfl (t_pick_t rfl rfl rfl rfl (t_move rfl rfl rfl (t_splitp 31 rfl (fun g31 => ?_) (fun g31 => ?_)))))))))))))
    ·
     refine t_field Try.underlying37 rfl Try.sizeOf35 (1) rfl rfl rfl rfl (t_load Try.isAgg35 rfl rfl rfl (B23.get rfl) (t_len Try.underlying35 rfl rfl rfl rfl (t_cmp rfl rfl rfl rfl rfl (t_pick_t rfl rfl rfl rfl (t_pick_f rfl rfl rfl rfl (t_move rfl rfl rfl (t_splitp 38 rfl (fun g38 => ?_) (fun g38 => ?_))))))))
     ·
      refine t_skip rfl rfl rfl (t_skip rfl rfl rfl (t_skip rfl rfl rfl (t_skip rfl rfl rfl (t_skip rfl rfl rfl (t_skip rfl rfl rfl (t_pick_t rfl rfl rfl rfl (t_nil' (hK11 _ _ (c_cond_t rfl (c_seq fun K24 hK24 => (c_region (t_call (vs := []) own16 rfl rfl rfl rfl (known_c _) (fun v25 w26 r28 => ?_)))))))))))))
      obtain ⟨rfl, u27⟩ := r28
      have zu27 := u27.size
      have E29 := E16.next u27 (fun _ _ h => h.elim)
      refine t_assign rfl rfl rfl (t_nil' (hK24 _ _ (c_ret (f_ret1 (v := .bool true) Try.results4 rfl ?_))))
      exact ⟨rfl, E29⟩
     ·
      refine t_move rfl rfl rfl (t_cmp rfl rfl rfl rfl rfl (t_move rfl rfl rfl (t_splitp 41 rfl (fun g41 => ?_) (fun g41 => ?_))))
      ·
       refine t_move rfl rfl rfl (t_cmp rfl rfl rfl rfl rfl (t_pick_t rfl rfl rfl rfl (t_pick_f rfl rfl rfl rfl (t_nil' (hK11 _ _ (c_condp rfl (fun g45 => ?_) (fun g45 => ?_)))))))
       ·
        refine c_seq fun K30 hK30 => (c_region (t_call (vs := []) own16 rfl rfl rfl rfl (known_c _) (fun v31 w32 r34 => ?_)))
        obtain ⟨rfl, u33⟩ := r34
        have zu33 := u33.size
        have E35 := E16.next u33 (fun _ _ h => h.elim)
        refine t_assign rfl rfl rfl (t_nil' (hK30 _ _ (c_ret (f_ret1 (v := .bool true) Try.results4 rfl ?_))))
        exact ⟨rfl, E35⟩
       ·
        refine c_skip ?_
        exact hK8 () _ _ ⟨rfl, rfl, trivial⟩ ⟨((Upd.refl _ _).next u14 (fun _ _ h => h.elim)), g14⟩
      ·
       refine t_skip rfl rfl rfl (t_skip rfl rfl rfl (t_pick_f rfl rfl rfl rfl (t_pick_f rfl rfl rfl rfl (t_nil' (hK11 _ _ (c_cond_f rfl (c_skip ?_)))))))
       exact hK8 () _ _ ⟨rfl, rfl, trivial⟩ ⟨((Upd.refl _ _).next u14 (fun _ _ h => h.elim)), g14⟩
    ·
     refine t_skip rfl rfl rfl (t_skip rfl rfl rfl (t_skip rfl rfl rfl (t_skip rfl rfl rfl (t_pick_f rfl rfl rfl rfl (t_pick_f rfl rfl rfl rfl (t_move rfl rfl rfl (t_move rfl rfl rfl (t_cmp rfl rfl rfl rfl rfl (t_move rfl rfl rfl (t_splitp 41 rfl (fun g41 => ?_) (fun g41 => ?_)))))))))))
     ·
      refine t_move rfl rfl rfl (t_cmp rfl rfl rfl rfl rfl (t_pick_t rfl rfl rfl rfl (t_pick_f rfl rfl rfl rfl (t_nil' (hK11 _ _ (c_condp rfl (fun g45 => ?_) (fun g45 => ?_)))))))
      ·
       refine c_seq fun K36 hK36 => (c_region (t_call (vs := []) own16 rfl rfl rfl rfl (known_c _) (fun v37 w38 r40 => ?_)))
       obtain ⟨rfl, u39⟩ := r40
       have zu39 := u39.size
       have E41 := E16.next u39 (fun _ _ h => h.elim)
       refine t_assign rfl rfl rfl (t_nil' (hK36 _ _ (c_ret (f_ret1 (v := .bool true) Try.results4 rfl ?_))))
       exact ⟨rfl, E41⟩
      ·
       refine c_skip ?_
       exact hK8 () _ _ ⟨rfl, rfl, trivial⟩ ⟨((Upd.refl _ _).next u14 (fun _ _ h => h.elim)), g14⟩
     ·
      refine t_skip rfl rfl rfl (t_skip rfl rfl rfl (t_pick_f rfl rfl rfl rfl (t_pick_f rfl rfl rfl rfl (t_nil' (hK11 _ _ (c_cond_f rfl (c_skip ?_)))))))
      exact hK8 () _ _ ⟨rfl, rfl, trivial⟩ ⟨((Upd.refl _ _).next u14 (fun _ _ h => h.elim)), g14⟩
   ·
    refine t_field Try.underlying37 rfl Try.sizeOf35 (1) rfl rfl rfl rfl (t_load Try.isAgg35 rfl rfl rfl (B23.get rfl) (t_len Try.underlying35 rfl rfl rfl rfl (t_cmp rfl rfl rfl rfl rfl (t_pick_f rfl rfl rfl rfl (t_move rfl rfl rfl (t_splitp 25 rfl (fun g25 => ?_) (fun g25 => ?_)))))))
    ·
     refine t_field Try.underlying37 rfl Try.sizeOf34 (0) rfl rfl rfl rfl (t_load Try.isAgg34 rfl rfl rfl (B23.get rfl) (t_len Try.underlying34 rfl rfl rfl rfl (t_cmp rfl rfl rfl rfl rfl (t_pick_t rfl rfl rfl rfl (t_move rfl rfl rfl (t_splitp 31 rfl (fun g31 => ?_) (fun g31 => ?_)))))))
     ·
      refine t_field Try.underlying37 rfl Try.sizeOf35 (1) rfl rfl rfl rfl (t_load Try.isAgg35 rfl rfl rfl (B23.get rfl) (t_len Try.underlying35 rfl rfl rfl rfl (t_cmp rfl rfl rfl rfl rfl (t_pick_t rfl rfl rfl rfl (t_pick_f rfl rfl rfl rfl (t_move rfl rfl rfl (t_splitp 38 rfl (fun g38 => ?_) (fun g38 => ?_))))))))
      ·
       refine t_skip rfl rfl rfl (t_skip rfl rfl rfl (t_skip rfl rfl rfl (t_skip rfl rfl rfl (t_skip rfl rfl rfl (t_skip rfl rfl rfl (t_pick_t rfl rfl rfl rfl (t_nil' (hK11 _ _ (c_cond_t rfl (c_seq fun K42 hK42 => (c_region (t_call (vs := []) own16 rfl rfl rfl rfl (known_c _) (fun v43 w44 r46 => ?_)))))))))))))
       obtain ⟨rfl, u45⟩ := r46
       have zu45 := u45.size
       have E47 := E16.next u45 (fun _ _ h => h.elim)
       refine t_assign rfl rfl rfl (t_nil' (hK42 _ _ (c_ret (f_ret1 (v := .bool true) Try.results4 rfl ?_))))
       exact ⟨rfl, E47⟩
      ·
       refine t_move rfl rfl rfl (t_cmp rfl rfl rfl rfl rfl (t_move rfl rfl rfl (t_splitp 41 rfl (fun g41 => ?_) (fun g41 => ?_))))
       ·
        refine t_move rfl rfl rfl (t_cmp rfl rfl rfl rfl rfl (t_pick_t rfl rfl rfl rfl (t_pick_f rfl rfl rfl rfl (t_nil' (hK11 _ _ (c_condp rfl (fun g45 => ?_) (fun g45 => ?_)))))))
        ·
         refine c_seq fun K48 hK48 => (c_region (t_call (vs := []) own16 rfl rfl rfl rfl (known_c _) (fun v49 w50 r52 => ?_)))
         obtain ⟨rfl, u51⟩ := r52
         have zu51 := u51.size
         have E53 := E16.next u51 (fun _ _ h => h.elim)
         refine t_assign rfl rfl rfl (t_nil' (hK48 _ _ (c_ret (f_ret1 (v := .bool true) Try.results4 rfl ?_))))
         exact ⟨rfl, E53⟩
        ·
         refine c_skip ?_
         exact hK8 () _ _ ⟨rfl, rfl, trivial⟩ ⟨((Upd.refl _ _).next u14 (fun _ _ h => h.elim)), g14⟩
       ·
        refine t_skip rfl rfl rfl (t_skip rfl rfl rfl (t_pick_f rfl rfl rfl rfl (t_pick_f rfl rfl rfl rfl (t_nil' (hK11 _ _ (c_cond_f rfl (c_skip ?_)))))))
        exact hK8 () _ _ ⟨rfl, rfl, trivial⟩ ⟨((Upd.refl _ _).next u14 (fun _ _ h => h.elim)), g14⟩
     ·
      refine t_skip rfl rfl rfl (t_skip rfl rfl rfl (t_skip rfl rfl rfl (t_skip rfl rfl rfl (t_pick_f rfl rfl rfl rfl (t_pick_f rfl rfl rfl rfl (t_move rfl rfl rfl (t_move rfl rfl rfl (t_cmp rfl rfl rfl rfl rfl (t_move rfl rfl rfl (t_splitp 41 rfl (fun g41 => ?_) (fun g41 => ?_)))))))))))
      ·
       refine t_move rfl rfl rfl (t_cmp rfl rfl rfl rfl rfl (t_pick_t rfl rfl rfl rfl (t_pick_f rfl rfl rfl rfl (t_nil' (hK11 _ _ (c_condp rfl (fun g45 => ?_) (fun g45 => ?_)))))))
       ·
        refine c_seq fun K54 hK54 => (c_region (t_call (vs := []) own16 rfl rfl rfl rfl (known_c _) (fun v55 w56 r58 => ?_)))
        obtain ⟨rfl, u57⟩ := r58
        have zu57 := u57.size
        have E59 := E16.next u57 (fun _ _ h => h.elim)
        refine t_assign rfl rfl rfl (t_nil' (hK54 _ _ (c_ret (f_ret1 (v := .bool true) Try.results4 rfl ?_))))
        exact ⟨rfl, E59⟩
       ·
        refine c_skip ?_
        exact hK8 () _ _ ⟨rfl, rfl, trivial⟩ ⟨((Upd.refl _ _).next u14 (fun _ _ h => h.elim)), g14⟩
      ·
       refine t_skip rfl rfl rfl (t_skip rfl rfl rfl (t_pick_f rfl rfl rfl rfl (t_pick_f rfl rfl rfl rfl (t_nil' (hK11 _ _ (c_cond_f rfl (c_skip ?_)))))))
       exact hK8 () _ _ ⟨rfl, rfl, trivial⟩ ⟨((Upd.refl _ _).next u14 (fun _ _ h => h.elim)), g14⟩
    ·
     refine t_skip rfl rfl rfl (t_skip rfl rfl rfl (t_skip rfl rfl rfl (t_skip rfl rfl rfl (t_pick_f rfl rfl rfl rfl (t_move rfl rfl rfl (t_skip rfl rfl rfl (t_skip rfl rfl rfl (t_skip rfl rfl rfl (t_skip rfl rfl rfl (t_pick_f rfl rfl rfl rfl (t_pick_f rfl rfl rfl rfl (t_move rfl rfl rfl (t_move rfl rfl rfl (t_cmp rfl rfl rfl rfl rfl (t_move rfl rfl rfl (t_splitp 41 rfl (fun g41 => ?_) (fun g41 => ?_)))))))))))))))))
     ·
      refine t_move rfl rfl rfl (t_cmp rfl rfl rfl rfl rfl (t_pick_t rfl rfl rfl rfl (t_pick_f rfl rfl rfl rfl (t_nil' (hK11 _ _ (c_condp rfl (fun g45 => ?_) (fun g45 => ?_)))))))
      ·
       refine c_seq fun K60 hK60 => (c_region (t_call (vs := []) own16 rfl rfl rfl rfl (known_c _) (fun v61 w62 r64 => ?_)))
       obtain ⟨rfl, u63⟩ := r64
       have zu63 := u63.size
       have E65 := E16.next u63 (fun _ _ h => h.elim)
       refine t_assign rfl rfl rfl (t_nil' (hK60 _ _ (c_ret (f_ret1 (v := .bool true) Try.results4 rfl ?_))))
       exact ⟨rfl, E65⟩
      ·
       refine c_skip ?_
       exact hK8 () _ _ ⟨rfl, rfl, trivial⟩ ⟨((Upd.refl _ _).next u14 (fun _ _ h => h.elim)), g14⟩
     ·
      refine t_skip rfl rfl rfl (t_skip rfl rfl rfl (t_pick_f rfl rfl rfl rfl (t_pick_f rfl rfl rfl rfl (t_nil' (hK11 _ _ (c_cond_f rfl (c_skip ?_)))))))
      exact hK8 () _ _ ⟨rfl, rfl, trivial⟩ ⟨((Upd.refl _ _).next u14 (fun _ _ h => h.elim)), g14⟩
 ·
  intro _x w9 hW
  obtain ⟨u10, I66⟩ := hW
  have zu10 := u10.size
  have E67 := E6.next u10 (fun _ _ h => h.elim)
  have hno := I66; clear I66
  have hlr := lrg_no hno
  have hrl : ∀ x ∈ vs, x.v.runs.length ≤ 1000000 := fun x hx => Nat.le_trans (hlr.1 x hx) (by decide)
  have hvl2 : (vs.map HVoy.v).length ≤ 1000000 := by rw [List.length_map]; omega
  have hrl2 : ∀ v ∈ (vs.map HVoy.v), v.runs.length ≤ 1000000 := fun v hv => by obtain ⟨x, hx, rfl⟩ := List.mem_map.1 hv; exact hrl x hx
  refine c_seq fun K68 hK68 => ?_
  have B69 := (B4.keep u10 (fun h => h))
  refine WC.weak [(1, .int .i64 most), (2, .pointer (some ⟨bk2, 0, none⟩))] ⟨rfl, rfl, trivial⟩ (c_drawn follows 15 [some (48, some (.pointer (some ⟨bk2, 0, none⟩))), some (49, some (.slice av vs.length cv)), some (50, none), some (51, some (.pointer (some ⟨bk2, 1, none⟩))), some (52, some (.slice an ns.length cn)), some (53, none), some (54, some (.int .i64 most)), some (55, none), some (47, none), some (56, none), some (57, none), some (58, none), some (5, none), some (6, none), some (7, none)] [[],[0],[1],[],[3],[4,2],[],[2,5,6,5],[7],[8],[8],[8],[9,7,0,1,2,3,4,5,6,7,8,9],[10,12,0,1,2,3,4,5,6,7,8,9,10,12],[11,13,0,1,2,3,4,5,6,7,8,9,10,11,12,13]] (fun D ρ w => Upd (fun _ => False) w9 w ∧ (D 2 = true → ∃ us aoU bU cpU, ρ 2 = .slice aoU us.length cpU ∧ (D 7 = false → (us.map HVoy.v = vs.map HVoy.v ∧ Sl encHVoy 5 w aoU bU 0 us ∧ ∀ x ∈ us, Sl encRun 6 w x.ao x.b x.o x.v.runs))) ∧ (D 5 = true → ∃ aoN bN cpN, ρ 5 = .slice aoN ns.length cpN ∧ (D 7 = false → Sl encNar 4 w aoN bN 0 ns)) ∧ (D 7 = true → ∃ lsA atA eA aoA bA cpA, ρ 7 = .tuple #[.slice aoA lsA.length cpA, .int .i64 atA, .int .i64 eA] ∧ (Sl encI 1 w aoA bA 0 lsA ∧ HoldsA (vs.map HVoy.v) ns most lsA atA eA) ∧ (D 8 = true → ρ 8 = .tuple #[.slice aoA lsA.length cpA, .int .i64 atA, .int .i64 eA]) ∧ (D 9 = true → ρ 9 = .slice aoA lsA.length cpA) ∧ (D 10 = true → ρ 10 = .int .i64 atA) ∧ (D 11 = true → ρ 11 = .int .i64 eA) ∧ (D 12 = true → ρ 12 = .slice aoA lsA.length cpA) ∧ (D 13 = true → ρ 13 = .int .i64 atA) ∧ (D 14 = true → ρ 14 = .int .i64 eA))) rfl rfl rfl (by kernel_rfl) (by kernel_rfl) ⟨(Upd.drew _).to, (fun h => by cases h), (fun h => by cases h), (fun h => by cases h)⟩ ⟨?_, ?_, ?_, ?_, ?_, ?_, ?_, ?_, ?_, ?_, ?_, ?_, ?_, ?_, ?_, trivial⟩ ?_)
  · exact pzf Try.underlying37 rfl Try.sizeOf34 (0) rfl rfl rfl rfl rfl fun _ _ _ h => h
  · exact fun D ρ w88 hcD hnD hdD hW => ⟨_, kf_fr [48], fun Lr => t_load Try.isAgg34 rfl rfl rfl ((B69.keep hW.1 (fun h => h)).get rfl) (dz rfl hW)⟩
  ·
   intro D ρ w95 hcD hnD hdD hW
   obtain ⟨u96, F97, F98, F99⟩ := hW
   have zu96 := u96.size
   have E100 := E67.next u96 (fun _ _ h => h.elim)
   refine ⟨_, kf_fr [49], fun Lr => ?_⟩
   refine t_call (vs := [.slice av vs.length cv]) own24 rfl rfl rfl rfl (all_c vs av bv ov cv _ (hs.keep E100 (fun _ h => h)) (fun x hx => (hruns x hx).keep E100 (fun _ h => h)) (by omega) hrl) (fun v101 w102 r104 => ?_)
   obtain ⟨⟨us, aoU, bU, cpU, rfl, hU⟩, u103⟩ := r104
   have zu103 := u103.size
   exact dzn rfl ⟨(u96.next u103 (fun _ _ h => h.elim)), (fun _ => ⟨us, aoU, bU, cpU, rfl, fun _ => hU⟩), (fun h => by obtain ⟨aoN, bN, cpN, e, hB⟩ := F98 h; exact ⟨aoN, bN, cpN, e, fun h2 => ((hB h2).keep u103 (fun _ h => h))⟩), (fun h => by obtain ⟨lsA, atA, eA, aoA, bA, cpA, e, hB, k8_, k9_, k10_, k11_, k12_, k13_, k14_⟩ := F99 h; exact ⟨lsA, atA, eA, aoA, bA, cpA, e, ⟨(hB.1.keep u103 (fun _ h => h)), hB.2⟩, k8_, k9_, k10_, k11_, k12_, k13_, k14_⟩)⟩
  · exact pzf Try.underlying37 rfl Try.sizeOf35 (1) rfl rfl rfl rfl rfl fun _ _ _ h => h
  · exact fun D ρ w106 hcD hnD hdD hW => ⟨_, kf_fr [51], fun Lr => t_load Try.isAgg35 rfl rfl rfl ((B69.keep hW.1 (fun h => h)).get rfl) (dz rfl hW)⟩
  ·
   intro D ρ w113 hcD hnD hdD hW
   obtain ⟨u114, F115, F116, F117⟩ := hW
   have zu114 := u114.size
   have E118 := E67.next u114 (fun _ _ h => h.elim)
   refine ⟨_, kf_fr [52], fun Lr => ?_⟩
   refine t_call (vs := [.slice an ns.length cn]) own25 rfl rfl rfl rfl (narrows_c ns an bn on cn _ (hn.keep E118 (fun _ h => h)) (by omega)) (fun v119 w120 r122 => ?_)
   obtain ⟨⟨aoN, bN, cpN, rfl, hN, _⟩, u121⟩ := r122
   have zu121 := u121.size
   exact dzn rfl ⟨(u114.next u121 (fun _ _ h => h.elim)), (fun h => by obtain ⟨us, aoU, bU, cpU, e, hB⟩ := F115 h; exact ⟨us, aoU, bU, cpU, e, fun h2 => ⟨(hB h2).1, ((hB h2).2.1.keep u121 (fun _ h => h)), fun x hx => (((hB h2).2.2 x hx).keep u121 (fun _ h => h))⟩⟩), (fun _ => ⟨aoN, bN, cpN, rfl, fun _ => hN⟩), (fun h => by obtain ⟨lsA, atA, eA, aoA, bA, cpA, e, hB, k8_, k9_, k10_, k11_, k12_, k13_, k14_⟩ := F117 h; exact ⟨lsA, atA, eA, aoA, bA, cpA, e, ⟨(hB.1.keep u121 (fun _ h => h)), hB.2⟩, k8_, k9_, k10_, k11_, k12_, k13_, k14_⟩)⟩
  · exact pz rfl rfl rfl rfl fun _ _ _ h => h
  ·
   intro D ρ w124 hcD hnD hdD hW
   obtain ⟨u125, F126, F127, F128⟩ := hW
   have zu125 := u125.size
   obtain ⟨us, aoU, bU, cpU, e130, H131⟩ := F126 (hdD 2 rfl)
   have H132 := H131 hnD
   obtain ⟨aoN, bN, cpN, e133, H134⟩ := F127 (hdD 5 rfl)
   have H135 := H134 hnD
   refine ⟨[(50, .slice aoU us.length cpU), (53, .slice aoN ns.length cpN), (54, .int .i64 most)], ⟨fi 2 rfl rfl e130.symm, fi 5 rfl rfl e133.symm, fi 6 rfl rfl rfl, trivial⟩, fun Lr => ?_⟩
   refine t_call (vs := [.slice aoU us.length cpU, .slice aoN ns.length cpN, .int .i64 most]) own23 rfl rfl rfl rfl (HoldsU_c us aoU bU cpU ns aoN bN 0 cpN most (vs.map HVoy.v) _ H132.1 H132.2.1 (show ∀ x ∈ us, Sl encRun 6 w124 x.ao x.b x.o x.v.runs from H132.2.2) H135 hvl2 hrl2 (by omega)) (fun v136 w137 r139 => ?_)
   obtain ⟨⟨lsA, atA, eA, aoA, bA, cpA, rfl, hHA⟩, u138⟩ := r139
   have zu138 := u138.size
   exact dzn rfl ⟨(u125.next u138 (fun _ _ h => h.elim)), (fun h => by obtain ⟨us, aoU, bU, cpU, e, _⟩ := F126 h; exact ⟨us, aoU, bU, cpU, e, fun h => by cases h⟩), (fun h => by obtain ⟨aoN, bN, cpN, e, _⟩ := F127 h; exact ⟨aoN, bN, cpN, e, fun h => by cases h⟩), (fun _ => ⟨lsA, atA, eA, aoA, bA, cpA, rfl, hHA, (fun h => absurd ((hcD.late 8 hnD rfl).symm.trans h) (by decide)), (fun h => absurd ((hcD.late 9 (hcD.late 8 hnD rfl) rfl).symm.trans h) (by decide)), (fun h => absurd ((hcD.late 10 (hcD.late 8 hnD rfl) rfl).symm.trans h) (by decide)), (fun h => absurd ((hcD.late 11 (hcD.late 8 hnD rfl) rfl).symm.trans h) (by decide)), (fun h => absurd ((hcD.late 12 hnD rfl).symm.trans h) (by decide)), (fun h => absurd ((hcD.late 13 hnD rfl).symm.trans h) (by decide)), (fun h => absurd ((hcD.late 14 hnD rfl).symm.trans h) (by decide))⟩)⟩
  ·
   intro D ρ w141 hcD hnD hdD hW
   obtain ⟨u142, F143, F144, F145⟩ := hW
   have zu142 := u142.size
   obtain ⟨lsA, atA, eA, aoA, bA, cpA, e147, H148, k149, k150, k151, k152, k153, k154, k155⟩ := F145 (hdD 7 rfl)
   have hA := H148.2
   refine ⟨[(55, .tuple #[.slice aoA lsA.length cpA, .int .i64 atA, .int .i64 eA])], ⟨fi 7 rfl rfl e147.symm, trivial⟩, fun Lr => ?_⟩
   refine t_move rfl rfl rfl ?_
   exact dzn rfl ⟨u142, F143, F144, (fun _ => ⟨lsA, atA, eA, aoA, bA, cpA, e147, H148, (fun _ => rfl), k150, k151, k152, k153, k154, k155⟩)⟩
  ·
   intro D ρ w156 hcD hnD hdD hW
   obtain ⟨u157, F158, F159, F160⟩ := hW
   have zu157 := u157.size
   obtain ⟨lsA, atA, eA, aoA, bA, cpA, e162, H163, k164, k165, k166, k167, k168, k169, k170⟩ := F160 (hcD 8 (hdD 8 rfl) 7 (memB_iff.1 rfl))
   have hA := H163.2
   refine ⟨[(47, .tuple #[.slice aoA lsA.length cpA, .int .i64 atA, .int .i64 eA])], ⟨fi 8 rfl rfl (k164 (hdD 8 rfl)).symm, trivial⟩, fun Lr => ?_⟩
   refine t_extract (vs := [.slice aoA lsA.length cpA, .int .i64 atA, .int .i64 eA]) rfl rfl rfl rfl ?_
   exact dzn rfl ⟨u157, F158, F159, (fun _ => ⟨lsA, atA, eA, aoA, bA, cpA, e162, H163, k164, (fun _ => rfl), k166, k167, k168, k169, k170⟩)⟩
  ·
   intro D ρ w171 hcD hnD hdD hW
   obtain ⟨u172, F173, F174, F175⟩ := hW
   have zu172 := u172.size
   obtain ⟨lsA, atA, eA, aoA, bA, cpA, e177, H178, k179, k180, k181, k182, k183, k184, k185⟩ := F175 (hcD 8 (hdD 8 rfl) 7 (memB_iff.1 rfl))
   have hA := H178.2
   refine ⟨[(47, .tuple #[.slice aoA lsA.length cpA, .int .i64 atA, .int .i64 eA])], ⟨fi 8 rfl rfl (k179 (hdD 8 rfl)).symm, trivial⟩, fun Lr => ?_⟩
   refine t_extract (vs := [.slice aoA lsA.length cpA, .int .i64 atA, .int .i64 eA]) rfl rfl rfl rfl ?_
   exact dzn rfl ⟨u172, F173, F174, (fun _ => ⟨lsA, atA, eA, aoA, bA, cpA, e177, H178, k179, k180, (fun _ => rfl), k182, k183, k184, k185⟩)⟩
  ·
   intro D ρ w186 hcD hnD hdD hW
   obtain ⟨u187, F188, F189, F190⟩ := hW
   have zu187 := u187.size
   obtain ⟨lsA, atA, eA, aoA, bA, cpA, e192, H193, k194, k195, k196, k197, k198, k199, k200⟩ := F190 (hcD 8 (hdD 8 rfl) 7 (memB_iff.1 rfl))
   have hA := H193.2
   refine ⟨[(47, .tuple #[.slice aoA lsA.length cpA, .int .i64 atA, .int .i64 eA])], ⟨fi 8 rfl rfl (k194 (hdD 8 rfl)).symm, trivial⟩, fun Lr => ?_⟩
   refine t_extract (vs := [.slice aoA lsA.length cpA, .int .i64 atA, .int .i64 eA]) rfl rfl rfl rfl ?_
   exact dzn rfl ⟨u187, F188, F189, (fun _ => ⟨lsA, atA, eA, aoA, bA, cpA, e192, H193, k194, k195, k196, (fun _ => rfl), k198, k199, k200⟩)⟩
  ·
   intro D ρ w201 hcD hnD hdD hW
   obtain ⟨u202, F203, F204, F205⟩ := hW
   have zu202 := u202.size
   obtain ⟨lsA, atA, eA, aoA, bA, cpA, e207, H208, k209, k210, k211, k212, k213, k214, k215⟩ := F205 (hdD 7 rfl)
   have hA := H208.2
   refine ⟨[(56, .slice aoA lsA.length cpA)], ⟨fi 9 rfl rfl (k210 (hdD 9 rfl)).symm, trivial⟩, fun Lr => ?_⟩
   refine t_assign rfl rfl rfl ?_
   exact dzn rfl ⟨u202, F203, F204, (fun _ => ⟨lsA, atA, eA, aoA, bA, cpA, e207, H208, k209, k210, k211, k212, (fun _ => rfl), k214, k215⟩)⟩
  ·
   intro D ρ w216 hcD hnD hdD hW
   obtain ⟨u217, F218, F219, F220⟩ := hW
   have zu217 := u217.size
   obtain ⟨lsA, atA, eA, aoA, bA, cpA, e222, H223, k224, k225, k226, k227, k228, k229, k230⟩ := F220 (hdD 7 rfl)
   have hA := H223.2
   refine ⟨[(57, .int .i64 atA)], ⟨fi 10 rfl rfl (k226 (hdD 10 rfl)).symm, trivial⟩, fun Lr => ?_⟩
   refine t_assign rfl rfl rfl ?_
   exact dzn rfl ⟨u217, F218, F219, (fun _ => ⟨lsA, atA, eA, aoA, bA, cpA, e222, H223, k224, k225, k226, k227, k228, (fun _ => rfl), k230⟩)⟩
  ·
   intro D ρ w231 hcD hnD hdD hW
   obtain ⟨u232, F233, F234, F235⟩ := hW
   have zu232 := u232.size
   obtain ⟨lsA, atA, eA, aoA, bA, cpA, e237, H238, k239, k240, k241, k242, k243, k244, k245⟩ := F235 (hdD 7 rfl)
   have hA := H238.2
   refine ⟨[(58, .int .i64 eA)], ⟨fi 11 rfl rfl (k242 (hdD 11 rfl)).symm, trivial⟩, fun Lr => ?_⟩
   refine t_assign rfl rfl rfl ?_
   exact dzn rfl ⟨u232, F233, F234, (fun _ => ⟨lsA, atA, eA, aoA, bA, cpA, e237, H238, k239, k240, k241, k242, k243, k244, (fun _ => rfl)⟩)⟩
  intro ρ w246 hW
  obtain ⟨u247, F248, F249, F250⟩ := hW
  have zu247 := u247.size
  have E251 := E67.next u247 (fun _ _ h => h.elim)
  obtain ⟨lsA, atA, eA, aoA, bA, cpA, e254, H255, k256, k257, k258, k259, k260, k261, k262⟩ := F250 rfl
  have hA := H255.2
  refine QK.weak [(1, .int .i64 most), (2, .pointer (some ⟨bk2, 0, none⟩)), (5, .slice aoA lsA.length cpA), (6, .int .i64 atA), (7, .int .i64 eA)] ⟨rfl, rfl, (look_nd (j := 12) rfl rfl rfl (k260 rfl)), (look_nd (j := 13) rfl rfl rfl (k261 rfl)), (look_nd (j := 14) rfl rfl rfl (k262 rfl)), trivial⟩ (hK68 _ _ (c_seq fun K263 hK263 => (c_region (t_field Try.underlying37 rfl Try.sizeOf34 (0) rfl rfl rfl rfl ?_))))
  have B264 := (B69.keep u247 (fun h => h))
  refine t_load Try.isAgg34 rfl rfl rfl (B264.get rfl) (t_field Try.underlying37 rfl Try.sizeOf35 (1) rfl rfl rfl rfl (t_load Try.isAgg35 rfl rfl rfl (B264.get rfl) (t_call (vs := [.slice av vs.length cv, .slice an ns.length cn]) own26 rfl rfl rfl rfl (rStart_c vs av bv ov cv ns an bn on cn _ (hs.keep E251 (fun _ h => h)) (fun x hx => (hruns x hx).keep E251 (fun _ h => h)) (hn.keep E251 (fun _ h => h)) (by omega) (by omega) hrl) (fun v265 w266 r268 => ?_))))
  obtain ⟨rfl, u267⟩ := r268
  have zu267 := u267.size
  have E269 := E251.next u267 (fun _ _ h => h.elim)
  refine t_assign rfl rfl rfl (t_nil' (hK263 _ _ (c_seq fun K270 hK270 => (c_seq fun K271 hK271 => (c_region (t_move rfl rfl rfl (t_cmp rfl rfl rfl rfl rfl (t_move rfl rfl rfl (t_splitp 66 rfl (fun g66 => ?_) (fun g66 => ?_))))))))))
  ·
   refine t_move rfl rfl rfl (t_cmp rfl rfl rfl rfl rfl (t_move rfl rfl rfl (t_splitp 69 rfl (fun g69 => ?_) (fun g69 => ?_))))
   ·
    refine t_skip rfl rfl rfl (t_skip rfl rfl rfl (t_pick_t rfl rfl rfl rfl (t_pick_t rfl rfl rfl rfl (t_nil' (hK271 _ _ (c_cond_t rfl (c_region (t_assign rfl rfl rfl (t_nil' (hK270 _ _ (c_seq fun K272 hK272 => (c_seq fun K273 hK273 => (c_region (t_move rfl rfl rfl (t_cmp rfl rfl rfl rfl rfl (t_samehd (v := .bool true) rfl (t_nil' (hK273 _ _ (c_cond_t rfl (c_seq fun K274 hK274 => (c_region ?_)))))))))))))))))))))
    obtain ⟨hx1, hx2, hx3⟩ := hold_far hA g66 (by omega)
    refine t_move rfl rfl rfl (t_move rfl rfl rfl (t_cmp rfl rfl rfl rfl rfl (t_same 78 (v := .bool true) rfl (congrArg Value.bool (decide_eq_true (by omega))) (t_move rfl rfl rfl (t_move rfl rfl rfl (t_len Try.underlying27 rfl rfl rfl rfl (t_cmp rfl rfl rfl rfl rfl (t_same 82 (v := .bool true) rfl (congrArg Value.bool (decide_eq_true (by omega))) (t_pick_t rfl rfl rfl rfl (t_move rfl rfl rfl (t_move rfl rfl rfl (t_cmp rfl rfl rfl rfl rfl (t_same 86 (v := .bool true) rfl (congrArg Value.bool (decide_eq_true (by omega))) (t_pick_t rfl rfl rfl rfl (t_move rfl rfl rfl (t_call (vs := []) own16 rfl rfl rfl rfl (known_c _) (fun v275 w276 r278 => ?_)))))))))))))))))
    obtain ⟨rfl, u277⟩ := r278
    have zu277 := u277.size
    have E279 := E269.next u277 (fun _ _ h => h.elim)
    refine t_pick_t rfl rfl rfl rfl (t_assign rfl rfl rfl (t_nil' (hK274 _ _ (c_ret (f_ret1 (v := .bool true) Try.results4 rfl ?_)))))
    exact ⟨rfl, E279⟩
   ·
    refine t_move rfl rfl rfl (t_cmp rfl rfl rfl rfl rfl (t_pick_f rfl rfl rfl rfl (t_pick_t rfl rfl rfl rfl (t_nil' (hK271 _ _ (c_condp rfl (fun g73 => ?_) (fun g73 => ?_)))))))
    ·
     refine c_region (t_assign rfl rfl rfl (t_nil' (hK270 _ _ (c_seq fun K280 hK280 => (c_seq fun K281 hK281 => (c_region (t_move rfl rfl rfl (t_cmp rfl rfl rfl rfl rfl (t_samehd (v := .bool true) rfl (t_nil' (hK281 _ _ (c_cond_t rfl (c_seq fun K282 hK282 => (c_region ?_))))))))))))))
     obtain ⟨hx1, hx2, hx3⟩ := hold_far hA g66 (by omega)
     refine t_move rfl rfl rfl (t_move rfl rfl rfl (t_cmp rfl rfl rfl rfl rfl (t_same 78 (v := .bool true) rfl (congrArg Value.bool (decide_eq_true (by omega))) (t_move rfl rfl rfl (t_move rfl rfl rfl (t_len Try.underlying27 rfl rfl rfl rfl (t_cmp rfl rfl rfl rfl rfl (t_same 82 (v := .bool true) rfl (congrArg Value.bool (decide_eq_true (by omega))) (t_pick_t rfl rfl rfl rfl (t_move rfl rfl rfl (t_move rfl rfl rfl (t_cmp rfl rfl rfl rfl rfl (t_same 86 (v := .bool true) rfl (congrArg Value.bool (decide_eq_true (by omega))) (t_pick_t rfl rfl rfl rfl (t_move rfl rfl rfl (t_call (vs := []) own16 rfl rfl rfl rfl (known_c _) (fun v283 w284 r286 => ?_)))))))))))))))))
     obtain ⟨rfl, u285⟩ := r286
     have zu285 := u285.size
     have E287 := E269.next u285 (fun _ _ h => h.elim)
     refine t_pick_t rfl rfl rfl rfl (t_assign rfl rfl rfl (t_nil' (hK282 _ _ (c_ret (f_ret1 (v := .bool true) Try.results4 rfl ?_)))))
     exact ⟨rfl, E287⟩
    ·
     refine c_skip (hK270 _ _ (c_seq fun K288 hK288 => (c_seq fun K289 hK289 => (c_region (t_move rfl rfl rfl (t_cmp rfl rfl rfl rfl rfl (t_nil' (hK289 _ _ (c_condp rfl (fun g75 => ?_) (fun g75 => ?_))))))))))
     ·
      refine c_seq fun K290 hK290 => (c_region ?_)
      obtain ⟨hx1, hx2, hx3⟩ := (absurd g66 g75 : lsA.length = 0 ∧ atA = 0 ∧ eA = OpenE (vs.map HVoy.v) ns)
      refine t_move rfl rfl rfl (t_move rfl rfl rfl (t_cmp rfl rfl rfl rfl rfl (t_same 78 (v := .bool true) rfl (congrArg Value.bool (decide_eq_true (by omega))) (t_move rfl rfl rfl (t_move rfl rfl rfl (t_len Try.underlying27 rfl rfl rfl rfl (t_cmp rfl rfl rfl rfl rfl (t_same 82 (v := .bool true) rfl (congrArg Value.bool (decide_eq_true (by omega))) (t_pick_t rfl rfl rfl rfl (t_move rfl rfl rfl (t_move rfl rfl rfl (t_cmp rfl rfl rfl rfl rfl (t_same 86 (v := .bool true) rfl (congrArg Value.bool (decide_eq_true (by omega))) (t_pick_t rfl rfl rfl rfl (t_move rfl rfl rfl (t_call (vs := []) own16 rfl rfl rfl rfl (known_c _) (fun v291 w292 r294 => ?_)))))))))))))))))
      obtain ⟨rfl, u293⟩ := r294
      have zu293 := u293.size
      have E295 := E269.next u293 (fun _ _ h => h.elim)
      refine t_pick_t rfl rfl rfl rfl (t_assign rfl rfl rfl (t_nil' (hK290 _ _ (c_ret (f_ret1 (v := .bool true) Try.results4 rfl ?_)))))
      exact ⟨rfl, E295⟩
     ·
      have hE : OpenE (vs.map HVoy.v) ns = 0 := by omega
      have hm5 : 0 ≤ most ∧ most ≤ 5000 := by omega
      have hto := thr_of_open hE
      have hokv : ∀ x ∈ vs, okVoy x.v = true := fun x hx => hto.1 x.v (List.mem_map.2 ⟨x, hx, rfl⟩)
      have hokn := hto.2.1
      have hthr : ∀ x ∈ vs, ∀ n ∈ ns, thrE x.v n = 0 := fun x hx => hto.2.2 x.v (List.mem_map.2 ⟨x, hx, rfl⟩)
      have hRA := hold_ok hA hE hm5
      have hlsl := holdsR_len hRA
      rw [List.length_map] at hlsl
      refine c_skip (hK288 _ _ (c_seq fun K296 hK296 => (c_region (t_field Try.underlying37 rfl Try.sizeOf34 (0) rfl rfl rfl rfl ?_))))
      have B297 := (B264.keep u267 (fun h => h))
      refine t_load Try.isAgg34 rfl rfl rfl (B297.get rfl) (t_field Try.underlying37 rfl Try.sizeOf35 (1) rfl rfl rfl rfl (t_load Try.isAgg35 rfl rfl rfl (B297.get rfl) (t_move rfl rfl rfl (t_call (vs := [.slice av vs.length cv, .slice an ns.length cn, .int .i64 most]) own27 rfl rfl rfl rfl (rHolds_c vs av bv ov cv ns an bn on cn most _ (hs.keep E269 (fun _ h => h)) (fun x hx => (hruns x hx).keep E269 (fun _ h => h)) (hn.keep E269 (fun _ h => h)) (by omega) (by omega) hokv hokn hthr hm5) (fun v298 w299 r301 => ?_)))))
      obtain ⟨⟨lsB, atB, eB, aoB, bB, cpB, rfl, hHB⟩, u300⟩ := r301
      have zu300 := u300.size
      have E302 := E269.next u300 (fun _ _ h => h.elim)
      obtain ⟨hu1, hu2, hu3⟩ := HoldsR.unique hRA hHB.2
      subst hu1 hu2 hu3
      refine t_move rfl rfl rfl (t_extract (vs := [.slice aoB lsA.length cpB, .int .i64 atA, .int .i64 eA]) rfl rfl rfl rfl (t_extract (vs := [.slice aoB lsA.length cpB, .int .i64 atA, .int .i64 eA]) rfl rfl rfl rfl (t_extract (vs := [.slice aoB lsA.length cpB, .int .i64 atA, .int .i64 eA]) rfl rfl rfl rfl (t_assign rfl rfl rfl (t_assign rfl rfl rfl (t_assign rfl rfl rfl (t_nil' (hK296 _ _ (c_seq fun K303 hK303 => (c_region (t_move rfl rfl rfl (t_move rfl rfl rfl (t_cmp rfl rfl rfl rfl rfl (t_samehd (v := .bool true) (by simp) (t_move rfl rfl rfl (t_move rfl rfl rfl (t_move rfl rfl rfl ?_)))))))))))))))))
      have D304 := ((H255.1.keep u267 (fun _ h => h)).keep u300 (fun _ h => h))
      refine t_call (vs := [.slice aoA lsA.length cpA, .slice aoB lsA.length cpB]) own21 rfl rfl rfl rfl (equal_c lsA aoA bA 0 cpA aoB bB 0 cpB _ D304 hHB.1 (by omega)) (fun v305 w306 r308 => ?_)
      obtain ⟨rfl, u307⟩ := r308
      have zu307 := u307.size
      have E309 := E302.next u307 (fun _ _ h => h.elim)
      refine t_pick_t rfl rfl rfl rfl (t_move rfl rfl rfl (t_move rfl rfl rfl (t_move rfl rfl rfl (t_cmp rfl rfl rfl rfl rfl (t_samehd (v := .bool true) (by simp) (t_pick_t rfl rfl rfl rfl (t_move rfl rfl rfl (t_call (vs := []) own16 rfl rfl rfl rfl (known_c _) (fun v310 w311 r313 => ?_)))))))))
      obtain ⟨rfl, u312⟩ := r313
      have zu312 := u312.size
      have E314 := E309.next u312 (fun _ _ h => h.elim)
      refine t_pick_t rfl rfl rfl rfl (t_assign rfl rfl rfl (t_nil' (hK303 _ _ (c_ret (f_ret1 (v := .bool true) Try.results4 rfl ?_)))))
      exact ⟨rfl, E314⟩
  ·
   refine t_skip rfl rfl rfl (t_skip rfl rfl rfl (t_skip rfl rfl rfl (t_skip rfl rfl rfl (t_skip rfl rfl rfl (t_skip rfl rfl rfl (t_pick_f rfl rfl rfl rfl (t_nil' (hK271 _ _ (c_cond_f rfl (c_skip (hK270 _ _ (c_seq fun K315 hK315 => (c_seq fun K316 hK316 => (c_region (t_move rfl rfl rfl (t_cmp rfl rfl rfl rfl rfl (t_nil' (hK316 _ _ (c_condp rfl (fun g75 => ?_) (fun g75 => ?_))))))))))))))))))))
   ·
    refine c_seq fun K317 hK317 => (c_region ?_)
    obtain ⟨hx1, hx2, hx3⟩ := hold_bad hA g75
    refine t_move rfl rfl rfl (t_move rfl rfl rfl (t_cmp rfl rfl rfl rfl rfl (t_same 78 (v := .bool true) rfl (congrArg Value.bool (decide_eq_true (by omega))) (t_move rfl rfl rfl (t_move rfl rfl rfl (t_len Try.underlying27 rfl rfl rfl rfl (t_cmp rfl rfl rfl rfl rfl (t_same 82 (v := .bool true) rfl (congrArg Value.bool (decide_eq_true (by omega))) (t_pick_t rfl rfl rfl rfl (t_move rfl rfl rfl (t_move rfl rfl rfl (t_cmp rfl rfl rfl rfl rfl (t_same 86 (v := .bool true) rfl (congrArg Value.bool (decide_eq_true (by omega))) (t_pick_t rfl rfl rfl rfl (t_move rfl rfl rfl (t_call (vs := []) own16 rfl rfl rfl rfl (known_c _) (fun v318 w319 r321 => ?_)))))))))))))))))
    obtain ⟨rfl, u320⟩ := r321
    have zu320 := u320.size
    have E322 := E269.next u320 (fun _ _ h => h.elim)
    refine t_pick_t rfl rfl rfl rfl (t_assign rfl rfl rfl (t_nil' (hK317 _ _ (c_ret (f_ret1 (v := .bool true) Try.results4 rfl ?_)))))
    exact ⟨rfl, E322⟩
   ·
    have hE : OpenE (vs.map HVoy.v) ns = 0 := by omega
    have hm5 : 0 ≤ most ∧ most ≤ 5000 := by omega
    have hto := thr_of_open hE
    have hokv : ∀ x ∈ vs, okVoy x.v = true := fun x hx => hto.1 x.v (List.mem_map.2 ⟨x, hx, rfl⟩)
    have hokn := hto.2.1
    have hthr : ∀ x ∈ vs, ∀ n ∈ ns, thrE x.v n = 0 := fun x hx => hto.2.2 x.v (List.mem_map.2 ⟨x, hx, rfl⟩)
    have hRA := hold_ok hA hE hm5
    have hlsl := holdsR_len hRA
    rw [List.length_map] at hlsl
    refine c_skip (hK315 _ _ (c_seq fun K323 hK323 => (c_region (t_field Try.underlying37 rfl Try.sizeOf34 (0) rfl rfl rfl rfl ?_))))
    have B324 := (B264.keep u267 (fun h => h))
    refine t_load Try.isAgg34 rfl rfl rfl (B324.get rfl) (t_field Try.underlying37 rfl Try.sizeOf35 (1) rfl rfl rfl rfl (t_load Try.isAgg35 rfl rfl rfl (B324.get rfl) (t_move rfl rfl rfl (t_call (vs := [.slice av vs.length cv, .slice an ns.length cn, .int .i64 most]) own27 rfl rfl rfl rfl (rHolds_c vs av bv ov cv ns an bn on cn most _ (hs.keep E269 (fun _ h => h)) (fun x hx => (hruns x hx).keep E269 (fun _ h => h)) (hn.keep E269 (fun _ h => h)) (by omega) (by omega) hokv hokn hthr hm5) (fun v325 w326 r328 => ?_)))))
    obtain ⟨⟨lsB, atB, eB, aoB, bB, cpB, rfl, hHB⟩, u327⟩ := r328
    have zu327 := u327.size
    have E329 := E269.next u327 (fun _ _ h => h.elim)
    obtain ⟨hu1, hu2, hu3⟩ := HoldsR.unique hRA hHB.2
    subst hu1 hu2 hu3
    refine t_move rfl rfl rfl (t_extract (vs := [.slice aoB lsA.length cpB, .int .i64 atA, .int .i64 eA]) rfl rfl rfl rfl (t_extract (vs := [.slice aoB lsA.length cpB, .int .i64 atA, .int .i64 eA]) rfl rfl rfl rfl (t_extract (vs := [.slice aoB lsA.length cpB, .int .i64 atA, .int .i64 eA]) rfl rfl rfl rfl (t_assign rfl rfl rfl (t_assign rfl rfl rfl (t_assign rfl rfl rfl (t_nil' (hK323 _ _ (c_seq fun K330 hK330 => (c_region (t_move rfl rfl rfl (t_move rfl rfl rfl (t_cmp rfl rfl rfl rfl rfl (t_samehd (v := .bool true) (by simp) (t_move rfl rfl rfl (t_move rfl rfl rfl (t_move rfl rfl rfl ?_)))))))))))))))))
    have D331 := ((H255.1.keep u267 (fun _ h => h)).keep u327 (fun _ h => h))
    refine t_call (vs := [.slice aoA lsA.length cpA, .slice aoB lsA.length cpB]) own21 rfl rfl rfl rfl (equal_c lsA aoA bA 0 cpA aoB bB 0 cpB _ D331 hHB.1 (by omega)) (fun v332 w333 r335 => ?_)
    obtain ⟨rfl, u334⟩ := r335
    have zu334 := u334.size
    have E336 := E329.next u334 (fun _ _ h => h.elim)
    refine t_pick_t rfl rfl rfl rfl (t_move rfl rfl rfl (t_move rfl rfl rfl (t_move rfl rfl rfl (t_cmp rfl rfl rfl rfl rfl (t_samehd (v := .bool true) (by simp) (t_pick_t rfl rfl rfl rfl (t_move rfl rfl rfl (t_call (vs := []) own16 rfl rfl rfl rfl (known_c _) (fun v337 w338 r340 => ?_)))))))))
    obtain ⟨rfl, u339⟩ := r340
    have zu339 := u339.size
    have E341 := E336.next u339 (fun _ _ h => h.elim)
    refine t_pick_t rfl rfl rfl rfl (t_assign rfl rfl rfl (t_nil' (hK330 _ _ (c_ret (f_ret1 (v := .bool true) Try.results4 rfl ?_)))))
    exact ⟨rfl, E341⟩

end Go.Proofs.Ytmicjleiheoieaa
