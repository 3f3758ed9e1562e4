/-
  The reference's Losses, and the law TraceLosses: the walks. Conditions: none.
-/
import Derived.Test.YtgkkgpenmppjcaaA21
namespace Go.Proofs.Ytgkkgpenmppjcaa
open Go Go.RowKit

theorem fitbad_take {us : List Sur} {n : Nat} (h : n ≤ us.length) : FitBad (us.take n) (us.take n).length ↔ FitBad us n := by
  rw [List.length_take, Nat.min_eq_left h]
  unfold FitBad
  rw [spK_take (Nat.le_refl n)]
theorem fitbad_nil {us : List Sur} : ¬ FitBad us 0 := fit_ok (fun j hj => absurd hj (by omega))
/-- What the reference's Losses returns. -/
def RLosPost (us : List Sur) (v : Value) (w' : World) : Prop :=
  (∃ i : Nat, v = .tuple #[.slice none 0 0, .int .i64 (i : Int)] ∧ i < us.length ∧ FitBad us (i + 1) ∧ ∀ j, j < i → ¬ FitBad us (j + 1)) ∨
  ((∀ j, j < us.length → ¬ FitBad us (j + 1)) ∧ ∃ ao g cp out, v = .tuple #[.slice ao (List.length out) cp, .int .i64 (-1)] ∧ out.length = us.length ∧ LosR (spK us us.length) 0 out ∧ Sl encBd 2 w' ao g 0 out)
/-- What Losses returns, in words of single surveys. -/
def PLosPost (us : List Sur) (v : Value) (w' : World) : Prop :=
  (100 < us.length ∧ v = .tuple #[.slice none 0 0, .int .i64 0, .int .i64 5]) ∨ ((us.length ≤ 100 ∧ (us.any fun x => !okSur x) = true) ∧ v = .tuple #[.slice none 0 0, .int .i64 0, .int .i64 2]) ∨
  ((us.length ≤ 100 ∧ ∀ x ∈ us, okSur x = true) ∧ ∃ i : Nat, (i < us.length ∧ FitBad us (i + 1) ∧ ∀ j, j < i → ¬ FitBad us (j + 1)) ∧ v = .tuple #[.slice none 0 0, .int .i64 (i : Int), .int .i64 9]) ∨
  ((us.length ≤ 100 ∧ ∀ x ∈ us, okSur x = true) ∧ (∀ j, j < us.length → ¬ FitBad us (j + 1)) ∧ ∃ g M, v = .tuple #[.slice (some ⟨g, 0, none⟩) us.length us.length, .int .i64 0, .int .i64 0] ∧ Sl encBd 2 w' (some ⟨g, 0, none⟩) g 0 M ∧ M.length = us.length ∧ LosR (spK us us.length) 0 M)
theorem span_at {sp : List Span} {n : Nat} (h : SpE sp n) {i : Nat} (hi : i < n) : ∃ q, q < sp.length ∧ begS sp q ≤ i ∧ (i : Int) < (nth sp q).en := by
  have hp := h.pos
  have key : ∀ m, m < sp.length → (i : Int) < (nth sp m).en → ∃ q, q < sp.length ∧ begS sp q ≤ i ∧ (i : Int) < (nth sp q).en := by
    intro m
    induction m with
    | zero => intro hm h1; exact ⟨0, hm, by unfold begS; simp, h1⟩
    | succ m ih =>
      intro hm h1
      by_cases hc : (i : Int) < (nth sp m).en
      · exact ih (by omega) hc
      · have e : begS sp (m + 1) = (nth sp m).en := by unfold begS; rw [if_neg (by omega)]; rfl
        exact ⟨m + 1, hm, by omega, h1⟩
  have he := h.end_
  exact key (sp.length - 1) (by omega) (by omega)
theorem los_eq {us : List Sur} {M out : List Bd} (h1 : LosR (spK us us.length) 0 M) (h2 : LosR (spK us us.length) 0 out) {i : Nat} (hi : i < us.length) : nth M i = nth out i := by
  obtain ⟨q, a, b, c⟩ := span_at (spE us us.length) hi
  rw [h1 q (Nat.zero_le _) a i b c, h2 q (Nat.zero_le _) a i b c]
theorem own30 : Own Try.prog 30 := ⟨Try.f30, Try.func30, by kernel_rfl, by kernel_rfl⟩
theorem own5 : Own Try.prog 5 := ⟨Try.f5, Try.func5, by kernel_rfl, by kernel_rfl⟩

theorem FitN_c (us : List Sur) (n : Nat) (hn : us.length = n) (ao : Option Addr) (b o cap : Nat) (w0 : World) (hl : Sl encSur 4 w0 ao b o us) (hll : us.length ≤ 1000000) (hok : ∀ x ∈ us, okSur x = true) : CallsV Try.prog 64 [.slice ao n cap] w0 (fun v w' => FitPost us v w' ∧ Ext w0 w') := by
  subst hn; exact Fit_c us ao b o cap w0 hl hll hok
theorem LossesN_c (us : List Sur) (ao : Option Addr) (b o cap : Nat) (w0 : World) (hl : Sl encSur 4 w0 ao b o us) (hll : us.length ≤ 1000000) : CallsV Try.prog 28 [.slice ao us.length cap] w0 (fun v w' => PLosPost us v w' ∧ Ext w0 w') := by
  refine (Losses_c us ao b o cap w0 hl hll).mono ?_
  rintro v w' ⟨h, u⟩
  refine ⟨?_, u⟩
  have hval : (us.any fun x => !okSur x) = false → ∀ x ∈ us, okSur x = true := fun hv x hx => by have := List.any_eq_false.1 hv x hx; simpa using this
  rcases h with h | ⟨h1, h2, h3⟩ | ⟨h1, h2, ⟨i, h3, h4⟩ | ⟨h3, g, M, h4, h5, h6, h7⟩⟩
  · exact .inl h
  · exact .inr (.inl ⟨⟨h1, h2⟩, h3⟩)
  · rcases run_cases us with ⟨k, hk, hr, hb, hn⟩ | ⟨hr, _⟩
    · rw [h3] at hr
      injection hr with _ hr
      have e : i = k := by omega
      subst e
      exact .inr (.inr (.inl ⟨⟨h1, hval h2⟩, i, ⟨hk, fit_bad hb, fun j hj => fit_ok (fun j2 hj2 => hn j2 (by omega))⟩, h4⟩))
    · rw [h3] at hr
      injection hr with _ hr
      omega
  · rcases run_cases us with ⟨k, hk, hr, hb, hn⟩ | ⟨hr, hn⟩
    · rw [hr] at h3
      have h3 : (k : Int) = -1 := h3
      omega
    · rw [hr] at h7
      exact .inr (.inr (.inr ⟨⟨h1, hval h2⟩, fun j hj => fit_ok (fun j2 hj2 => hn j2 (by omega)), g, M, h4, h5, h6, h7⟩))

set_option maxHeartbeats 1000000 in
theorem RLosses_c (us : List Sur) (ao : Option Addr) (b o cap : Nat) (w0 : World) (hl : Sl encSur 4 w0 ao b o us) (hll : us.length ≤ 1000000) (hcap : us.length ≤ cap) (hok : ∀ x ∈ us, okSur x = true) :
    CallsV Try.prog 30 [.slice ao us.length cap] w0 (fun v w' => RLosPost us v w' ∧ Ext w0 w') := by
 have E0 := Upd.refl (fun _ => False) w0
 refine f_enter (N := 32) Try.func30 rfl rfl rfl ?_
 change WC _ _ _ _ _ _ [(0, .slice ao us.length cap)] _
 refine c_seq fun K1 hK1 => (c_region (t_assign rfl rfl rfl (t_assign rfl rfl rfl (t_nil' (hK1 _ _ (c_seq fun K2 hK2 => (c_seq fun K3 hK3 => (c_region (t_assign rfl rfl rfl (t_nil' (hK3 _ _ (c_block (c_loop (γ := Nat) (fun k => [(0, .slice ao us.length cap), (4, .int .i64 (k : Int))]) (fun k w => Upd (fun _ => False) w0 w ∧ (k ≤ us.length) ∧ (∀ j, j < k → ¬ FitBad us (j + 1))) (fun k => us.length - k) 0 ⟨rfl, rfl, trivial⟩ ⟨Upd.refl _ _, (Nat.zero_le _), (fun j hj => absurd hj (by omega))⟩ ?_)))))))))))))
 intro k w5 hW K4 hK4
 obtain ⟨u6, I7, I8⟩ := hW
 have zu6 := u6.size
 have E9 := E0.next u6 (fun _ _ h => h.elim)
 have hk := I7; clear I7
 have hall := I8; clear I8
 refine c_seq fun K10 hK10 => (c_seq fun K11 hK11 => (c_region (t_move rfl rfl rfl (t_move rfl rfl rfl (t_len Try.underlying72 rfl rfl rfl rfl (t_cmp rfl rfl rfl rfl rfl (t_nil' (hK11 _ _ (c_condp rfl (fun g12 => ?_) (fun g12 => ?_))))))))))
 ·
  refine c_skip (hK10 _ _ (c_seq fun K12 hK12 => (c_block (c_seq fun K13 hK13 => (c_region (t_move rfl rfl rfl (t_move rfl rfl rfl (t_ari rfl rfl rfl rfl rfl (by omega) (t_sliceTo ((k + 1)) Try.underlying72 Try.sizeOf79 rfl rfl rfl rfl (by omega) (by omega) (t_call (vs := [.slice (subAddr ao cap 0 4) (k + 1) cap]) own64 rfl rfl rfl rfl (FitN_c ((us).take (k + 1)) (k + 1) (by rw [List.length_take]; omega) (subAddr ao cap 0 4) b o cap _ (Sl.subTo (hl.keep E9 (fun _ h => h)) cap (k + 1) (by omega)) (by rw [List.length_take]; omega) (fun x hx => hok x (List.mem_of_mem_take hx))) (fun v14 w15 r17 => ?_)))))))))))
  rcases r17 with ⟨⟨rfl, hbadT⟩ | ⟨hgoodT, ao8T, g8T, c8T, out8T, rfl, hol8T, hlr8T, hs8T⟩, u16⟩
  ·
   have zu16 := u16.size
   have E18 := E9.next u16 (fun _ _ h => h.elim)
   refine t_move rfl rfl rfl (t_extract (vs := [.slice none 0 0, .bool false]) rfl rfl rfl rfl (t_extract (vs := [.slice none 0 0, .bool false]) rfl rfl rfl rfl (t_assign rfl rfl rfl (t_assign rfl rfl rfl (t_nil' (hK13 _ _ (c_seq fun K19 hK19 => (c_region (t_move rfl rfl rfl (t_not rfl rfl rfl (t_nil' (hK19 _ _ (c_cond_t rfl (c_seq fun K20 hK20 => (c_region (t_move rfl rfl rfl (t_assign rfl rfl rfl (t_assign rfl rfl rfl (t_nil' (hK20 _ _ (c_ret (f_ret2 (v1 := .slice none 0 0) (v2 := .int .i64 (k : Int)) Try.results30 rfl rfl ?_))))))))))))))))))))))
   exact ⟨.inl ⟨k, rfl, by omega, (fitbad_take (by omega)).1 hbadT, hall⟩, E18⟩
  ·
   have zu16 := u16.size
   refine t_move rfl rfl rfl (t_extract (vs := [.slice ao8T out8T.length c8T, .bool true]) rfl rfl rfl rfl (t_extract (vs := [.slice ao8T out8T.length c8T, .bool true]) rfl rfl rfl rfl (t_assign rfl rfl rfl (t_assign rfl rfl rfl (t_nil' (hK13 _ _ (c_seq fun K22 hK22 => (c_region (t_move rfl rfl rfl (t_not rfl rfl rfl (t_nil' (hK22 _ _ (c_cond_f rfl (c_skip (hK12 _ _ (c_region (t_move rfl rfl rfl (t_ari rfl rfl rfl rfl rfl (by omega) (t_assign rfl rfl rfl (t_nil' ?_))))))))))))))))))))
   exact hK4 (k + 1) _ _ (by omega) ⟨rfl, rfl, trivial⟩ ⟨(u6.next u16 (fun _ _ h => h.elim)), (by omega), (fun j hj => by
     rcases Nat.lt_or_ge j k with h9 | h9
     · exact hall j h9
     · have e : j = k := by omega
       subst e
       exact fun h => hgoodT ((fitbad_take (by omega)).2 h))⟩
 ·
  refine c_exit (hK2 _ _ (c_seq fun K23 hK23 => (c_region (t_move rfl rfl rfl (t_call (vs := [.slice ao us.length cap]) own64 rfl rfl rfl rfl (FitN_c us us.length rfl ao b o cap _ (hl.keep E9 (fun _ h => h)) (by omega) hok) (fun v24 w25 r27 => ?_))))))
  rcases r27 with ⟨⟨rfl, hbad⟩ | ⟨hgood, ao8, g8, c8, out8, rfl, hol8, hlr8, hs8⟩, u26⟩
  ·
   have zu26 := u26.size
   refine t_move rfl rfl rfl (t_extract (vs := [.slice none 0 0, .bool false]) rfl rfl rfl rfl (t_extract (vs := [.slice none 0 0, .bool false]) rfl rfl rfl rfl (t_assign rfl rfl rfl (t_assign rfl rfl rfl (t_nil' (hK23 _ _ (c_seq fun K29 hK29 => (c_region (t_move rfl rfl rfl (t_assign rfl rfl rfl (t_assign rfl rfl rfl (t_nil' (hK29 _ _ (c_ret (f_ret2 (v1 := .slice none 0 0) (v2 := .int .i64 (-1)) Try.results30 rfl rfl ?_)))))))))))))))
   exfalso
   rcases Nat.eq_zero_or_pos us.length with h0 | h0
   · rw [h0] at hbad; exact fitbad_nil hbad
   · have h9 := hall (us.length - 1) (by omega)
     rw [show us.length - 1 + 1 = us.length by omega] at h9
     exact h9 hbad
  ·
   have zu26 := u26.size
   have E30 := E9.next u26 (fun _ _ h => h.elim)
   refine t_move rfl rfl rfl (t_extract (vs := [.slice ao8 out8.length c8, .bool true]) rfl rfl rfl rfl (t_extract (vs := [.slice ao8 out8.length c8, .bool true]) rfl rfl rfl rfl (t_assign rfl rfl rfl (t_assign rfl rfl rfl (t_nil' (hK23 _ _ (c_seq fun K31 hK31 => (c_region (t_move rfl rfl rfl (t_assign rfl rfl rfl (t_assign rfl rfl rfl (t_nil' (hK31 _ _ (c_ret (f_ret2 (v1 := .slice ao8 out8.length c8) (v2 := .int .i64 (-1)) Try.results30 rfl rfl ?_)))))))))))))))
   exact ⟨.inr ⟨fun j hj => hall j (by omega), ao8, g8, c8, out8, rfl, hol8, hlr8, hs8⟩, E30⟩

set_option maxHeartbeats 4000000 in
theorem TraceLosses_c (us : List Sur) (ao : Option Addr) (b o cap : Nat) (w0 : World) (hl : Sl encSur 4 w0 ao b o us) (hll : us.length ≤ 9223372036854775807) (hcap : us.length ≤ cap) :
    CallsV Try.prog 5 [.slice ao us.length cap] w0 (fun v w' => v = .bool true ∧ Ext w0 w') := by
 have E0 := Upd.refl (fun _ => False) w0
 refine f_enter (N := 121) Try.func5 rfl rfl rfl ?_
 change WC _ _ _ _ _ _ [(0, .slice ao us.length cap)] _
 refine c_seq fun K1 hK1 => (c_region (t_assign rfl rfl rfl (t_nil' (hK1 _ _ (c_seq fun K2 hK2 => (c_seq fun K3 hK3 => (c_region (t_move rfl rfl rfl (t_len Try.underlying72 rfl rfl rfl rfl (t_cmp rfl rfl rfl rfl rfl (t_nil' (hK3 _ _ (c_condp rfl (fun g14 => ?_) (fun g14 => ?_))))))))))))))
 ·
  refine c_seq fun K4 hK4 => (c_region (t_call (vs := []) own11 rfl rfl rfl rfl (known_c _) (fun v5 w6 r8 => ?_)))
  obtain ⟨rfl, u7⟩ := r8
  have zu7 := u7.size
  have E9 := E0.next u7 (fun _ _ h => h.elim)
  refine t_assign rfl rfl rfl (t_nil' (hK4 _ _ (c_ret (f_ret1 (v := .bool true) Try.results5 rfl ?_))))
  exact ⟨rfl, E9⟩
 ·
  refine c_skip (hK2 _ _ (c_seq fun K10 hK10 => (c_region (t_bslice (ps := []) (cs := []) (e := 79) rfl rfl ⟨rfl, rfl⟩ (fun w => by kernel_rfl) (fun bk11 w12 ebk11 sbk11 B13 u14 => ?_)))))
  have zu14 := u14.size
  have E15 := E0.next u14 (fun _ _ h => h.elim)
  refine t_move rfl rfl rfl (t_copy (enc := encSur) (z := .agg #[.int .i64 0, .int .i64 0, .int .i64 0, .bool false]) (bytes := 32) (k := 4) (ys := us) Try.underlying72 (by kernel_rfl) rfl (by decide) (fun _ => rfl) (by intro x; simp [encSur, Value.oneCell']) rfl rfl rfl rfl B13 (hl.keep E15 (fun _ h => h)) (by omega) (by decide) (fun ao16 gb17 cp18 w19 A20 u21 gegb17 => ?_))
  have zu21 := u21.size
  have E22 := E15.next u21 (fun i hi (h : (i = bk11 ∧ bk11 ≤ i)) => show False by first | omega | assumption)
  have lt_gb17 := A20.lt
  refine t_assign rfl rfl rfl (t_nil' (hK10 _ _ (c_seq fun K23 hK23 => (c_region (t_move rfl rfl rfl (t_call (vs := [.slice ao16 us.length cp18]) own28 rfl rfl rfl rfl (LossesN_c us ao16 gb17 0 cp18 _ (A20.sl (fun _ => rfl)) (by omega)) (fun v24 w25 r27 => ?_)))))))
  rcases r27 with ⟨⟨h100, rfl⟩ | ⟨⟨h100, hany⟩, rfl⟩ | ⟨⟨h100, hok⟩, iC, ⟨hiC, hbC, hnC⟩, rfl⟩ | ⟨⟨h100, hok⟩, hnD, gM, M, rfl, hsM, hMl, hMr⟩, u26⟩
  ·
   have zu26 := u26.size
   have E28 := E22.next u26 (fun _ _ h => h.elim)
   refine t_move rfl rfl rfl (t_extract (vs := [.slice none 0 0, .int .i64 0, .int .i64 5]) rfl rfl rfl rfl (t_extract (vs := [.slice none 0 0, .int .i64 0, .int .i64 5]) rfl rfl rfl rfl (t_extract (vs := [.slice none 0 0, .int .i64 0, .int .i64 5]) rfl rfl rfl rfl (t_assign rfl rfl rfl (t_assign rfl rfl rfl (t_assign rfl rfl rfl (t_nil' (hK23 _ _ (c_seq fun K29 hK29 => (c_region (t_assign rfl rfl rfl (t_nil' (hK29 _ _ (c_seq fun K30 hK30 => (c_seq fun K31 hK31 => (c_region (t_move rfl rfl rfl (t_len Try.underlying72 rfl rfl rfl rfl (t_cmp rfl rfl rfl rfl rfl (t_nil' (hK31 _ _ (c_condp rfl (fun g27 => ?_) (fun g27 => ?_)))))))))))))))))))))))
   ·
    refine c_region (t_assign rfl rfl rfl (t_nil' (hK30 _ _ (c_seq fun K32 hK32 => (c_seq fun K33 hK33 => (c_region (t_assign rfl rfl rfl (t_nil' (hK33 _ _ (c_block (c_loop (γ := Nat) (fun k => [(0, .slice ao us.length cap), (3, .slice ao16 us.length cp18), (4, .slice none 0 0), (5, .int .i64 0), (6, .int .i64 5), (7, .int .i64 5), (8, .int .i64 (k : Int))]) (fun k w => Upd (fun _ => False) w25 w ∧ (k ≤ us.length)) (fun k => us.length - k) 0 ⟨rfl, rfl, rfl, rfl, rfl, rfl, rfl, trivial⟩ ⟨Upd.refl _ _, (Nat.zero_le _)⟩ ?_)))))))))))
    intro k w35 hW K34 hK34
    obtain ⟨u36, I37⟩ := hW
    have zu36 := u36.size
    have E38 := E28.next u36 (fun _ _ h => h.elim)
    have hk := I37; clear I37
    refine c_seq fun K39 hK39 => (c_seq fun K40 hK40 => (c_region (t_move rfl rfl rfl (t_move rfl rfl rfl (t_len Try.underlying72 rfl rfl rfl rfl (t_cmp rfl rfl rfl rfl rfl (t_nil' (hK40 _ _ (c_condp rfl (fun g31 => ?_) (fun g31 => ?_))))))))))
    ·
     refine c_skip (hK39 _ _ (c_seq fun K41 hK41 => (c_block (c_seq fun K42 hK42 => (c_seq fun K43 hK43 => (WC.weak [(0, .slice ao us.length cap), (3, .slice ao16 us.length cp18), (4, .slice none 0 0), (5, .int .i64 0), (6, .int .i64 5), (7, .int .i64 5), (8, .int .i64 (k : Int))] ⟨rfl, rfl, rfl, rfl, rfl, rfl, rfl, trivial⟩ (c_drawn follows 9 [some (34, some (.slice ao16 us.length cp18)), some (35, some (.int .i64 (k : Int))), some (36, some (.pointer (some ⟨gb17, 0 + k * 4, none⟩))), some (37, some (.agg #[.int .i64 ((nth us k).book), .int .i64 ((nth us k).lo), .int .i64 ((nth us k).hi), .bool ((nth us k).sealed)])), some (38, some (.slice ao us.length cap)), some (39, some (.int .i64 (k : Int))), some (40, some (.pointer (some ⟨b, o + k * 4, none⟩))), some (41, some (.agg #[.int .i64 ((nth us k).book), .int .i64 ((nth us k).lo), .int .i64 ((nth us k).hi), .bool ((nth us k).sealed)])), some (42, some (.bool false))] [[],[],[0,1],[2],[],[],[4,5],[6],[3,7]] (fun _ _ w => Upd (fun _ => False) w35 w) rfl rfl rfl (by kernel_rfl) (by kernel_rfl) (Upd.drew _).to ⟨?_, ?_, ?_, ?_, ?_, ?_, ?_, ?_, ?_, trivial⟩ ?_)))))))
     · exact pz rfl rfl rfl rfl fun _ _ _ h => h
     · exact pz rfl rfl rfl rfl fun _ _ _ h => h
     ·
      intro D ρ w47 hcD hnD hdD hW
      have zhW := hW.size
      refine ⟨_, kf_fr [34, 35], fun Lr => ?_⟩
      have D50 := (((A20.keep u26 (fun _ h => h)).keep u36 (fun _ h => h)).keep hW (fun _ h => h))
      have i51 : k < us.length := (by omega)
      refine t_index (j := k) Try.underlying72 Try.sizeOf79 rfl rfl rfl rfl ((D50.sl (fun _ => rfl)).addr (by omega)) rfl i51 ?_
      exact dz rfl hW
     ·
      intro D ρ w52 hcD hnD hdD hW
      have zhW := hW.size
      refine ⟨_, kf_fr [36], fun Lr => ?_⟩
      have D55 := (((A20.keep u26 (fun _ h => h)).keep u36 (fun _ h => h)).keep hW (fun _ h => h))
      refine t_loadN (vs := [.int .i64 ((nth us k).book), .int .i64 ((nth us k).lo), .int .i64 ((nth us k).hi), .bool ((nth us k).sealed)]) Try.isAgg79 Try.sizeOf79 rfl rfl rfl (((D55.sl (fun _ => rfl)).at_ k (by omega)).sub 0 4) rfl ?_
      exact dz rfl hW
     · exact pz rfl rfl rfl rfl fun _ _ _ h => h
     · exact pz rfl rfl rfl rfl fun _ _ _ h => h
     ·
      intro D ρ w56 hcD hnD hdD hW
      have zhW := hW.size
      have E58 := E38.next hW (fun _ _ h => h.elim)
      refine ⟨_, kf_fr [38, 39], fun Lr => ?_⟩
      have i59 : k < us.length := (by omega)
      refine t_index (j := k) Try.underlying72 Try.sizeOf79 rfl rfl rfl rfl ((hl.keep E58 (fun _ h => h)).addr (by omega)) rfl i59 ?_
      exact dz rfl hW
     ·
      intro D ρ w60 hcD hnD hdD hW
      have zhW := hW.size
      have E62 := E38.next hW (fun _ _ h => h.elim)
      refine ⟨_, kf_fr [40], fun Lr => ?_⟩
      refine t_loadN (vs := [.int .i64 ((nth us k).book), .int .i64 ((nth us k).lo), .int .i64 ((nth us k).hi), .bool ((nth us k).sealed)]) Try.isAgg79 Try.sizeOf79 rfl rfl rfl (((hl.keep E62 (fun _ h => h)).at_ k (by omega)).sub 0 4) rfl ?_
      exact dz rfl hW
     ·
      intro D ρ w63 hcD hnD hdD hW
      have zhW := hW.size
      refine ⟨_, kf_fr [37, 41], fun Lr => ?_⟩
      refine t_neS (xs := [.int .i64 ((nth us k).book), .int .i64 ((nth us k).lo), .int .i64 ((nth us k).hi), .bool ((nth us k).sealed)]) (ys := [.int .i64 ((nth us k).book), .int .i64 ((nth us k).lo), .int .i64 ((nth us k).hi), .bool ((nth us k).sealed)]) (by kernel_rfl) (eqIn79 9997 ((nth us k).book) ((nth us k).lo) ((nth us k).hi) ((nth us k).sealed) ((nth us k).book) ((nth us k).lo) ((nth us k).hi) ((nth us k).sealed)) rfl rfl rfl rfl (t_samehd (v := .bool false) (by simp) ?_)
      exact dz rfl hW
     intro ρ w66 hW
     have u67 : Upd (fun _ => False) w35 w66 := hW
     have zu67 := u67.size
     refine QK.weak [(0, .slice ao us.length cap), (3, .slice ao16 us.length cp18), (4, .slice none 0 0), (5, .int .i64 0), (6, .int .i64 5), (7, .int .i64 5), (8, .int .i64 (k : Int)), (42, .bool false)] ⟨rfl, rfl, rfl, rfl, rfl, rfl, rfl, rfl, trivial⟩ (hK43 _ _ (c_cond_f rfl (c_skip (hK42 _ _ (c_seq fun K69 hK69 => (c_region (t_move rfl rfl rfl (t_cmp rfl rfl rfl rfl rfl (t_samehd (v := .bool false) rfl (t_move rfl rfl rfl (t_skip rfl rfl rfl (t_skip rfl rfl rfl (t_skip rfl rfl rfl (t_skip rfl rfl rfl (t_skip rfl rfl rfl (t_skip rfl rfl rfl (t_pick_f rfl rfl rfl rfl (t_nil' (hK69 _ _ (c_cond_f rfl (c_skip (hK41 _ _ (c_region ?_)))))))))))))))))))))))
     refine t_move rfl rfl rfl (t_ari rfl rfl rfl rfl rfl (by omega) (t_assign rfl rfl rfl (t_nil' ?_)))
     exact hK34 (k + 1) _ _ (by omega) ⟨rfl, rfl, rfl, rfl, rfl, rfl, rfl, trivial⟩ ⟨(u36.next u67 (fun _ _ h => h.elim)), (by omega)⟩
    ·
     refine c_exit (hK32 _ _ (c_seq fun K70 hK70 => (c_seq fun K71 hK71 => (c_region (t_move rfl rfl rfl (t_cmp rfl rfl rfl rfl rfl (t_samehd (v := .bool true) rfl (t_nil' (hK71 _ _ (c_cond_t rfl (c_seq fun K72 hK72 => (c_region (t_move rfl rfl rfl (t_move rfl rfl rfl (t_cmp rfl rfl rfl rfl rfl (t_samehd (v := .bool true) rfl (t_move rfl rfl rfl (t_move rfl rfl rfl (t_cmp rfl rfl rfl rfl rfl (t_samehd (v := .bool true) rfl (t_pick_t rfl rfl rfl rfl (t_move rfl rfl rfl (t_move rfl rfl rfl ?_)))))))))))))))))))))))
     refine t_len Try.underlying73 rfl rfl rfl rfl (t_cmp rfl rfl rfl rfl rfl (t_samehd (v := .bool true) rfl (t_pick_t rfl rfl rfl rfl (t_move rfl rfl rfl (t_call (vs := []) own11 rfl rfl rfl rfl (known_c _) (fun v73 w74 r76 => ?_))))))
     obtain ⟨rfl, u75⟩ := r76
     have zu75 := u75.size
     have E77 := E38.next u75 (fun _ _ h => h.elim)
     refine t_pick_t rfl rfl rfl rfl (t_assign rfl rfl rfl (t_nil' (hK72 _ _ (c_ret (f_ret1 (v := .bool true) Try.results5 rfl ?_)))))
     exact ⟨rfl, E77⟩
   ·
    exfalso; omega
  ·
   have zu26 := u26.size
   have E78 := E22.next u26 (fun _ _ h => h.elim)
   refine t_move rfl rfl rfl (t_extract (vs := [.slice none 0 0, .int .i64 0, .int .i64 2]) rfl rfl rfl rfl (t_extract (vs := [.slice none 0 0, .int .i64 0, .int .i64 2]) rfl rfl rfl rfl (t_extract (vs := [.slice none 0 0, .int .i64 0, .int .i64 2]) rfl rfl rfl rfl (t_assign rfl rfl rfl (t_assign rfl rfl rfl (t_assign rfl rfl rfl (t_nil' (hK23 _ _ (c_seq fun K79 hK79 => (c_region (t_assign rfl rfl rfl (t_nil' (hK79 _ _ (c_seq fun K80 hK80 => (c_seq fun K81 hK81 => (c_region (t_move rfl rfl rfl (t_len Try.underlying72 rfl rfl rfl rfl (t_cmp rfl rfl rfl rfl rfl (t_nil' (hK81 _ _ (c_condp rfl (fun g27 => ?_) (fun g27 => ?_)))))))))))))))))))))))
   ·
    exfalso; omega
   ·
    refine c_skip (hK80 _ _ (c_seq fun K82 hK82 => (c_seq fun K83 hK83 => (c_region (t_assign rfl rfl rfl (t_nil' (hK83 _ _ (c_block (c_loop (γ := Nat × Int) (fun gg => [(0, .slice ao us.length cap), (3, .slice ao16 us.length cp18), (4, .slice none 0 0), (5, .int .i64 0), (6, .int .i64 2), (7, .int .i64 gg.2), (8, .int .i64 (gg.1 : Int))]) (fun gg w => Upd (fun _ => False) w25 w ∧ (gg.1 ≤ us.length) ∧ ((gg.2 = 0 ∧ (us.take gg.1).any (fun x => !okSur x) = false) ∨ gg.2 = 2)) (fun gg => us.length - gg.1) (0, 0) ⟨rfl, rfl, rfl, rfl, rfl, rfl, rfl, trivial⟩ ⟨Upd.refl _ _, (Nat.zero_le _), (.inl ⟨rfl, rfl⟩)⟩ ?_)))))))))
    intro gg w85 hW K84 hK84
    obtain ⟨k, wn⟩ := gg
    change WC _ _ _ _ _ _ [(0, .slice ao us.length cap), (3, .slice ao16 us.length cp18), (4, .slice none 0 0), (5, .int .i64 0), (6, .int .i64 2), (7, .int .i64 wn), (8, .int .i64 (k : Int))] _
    change Upd (fun _ => False) w25 w85 ∧ (k ≤ us.length) ∧ ((wn = 0 ∧ (us.take k).any (fun x => !okSur x) = false) ∨ wn = 2) at hW
    obtain ⟨u86, I87, I88⟩ := hW
    have zu86 := u86.size
    have E89 := E78.next u86 (fun _ _ h => h.elim)
    have hk := I87; clear I87
    have hwn := I88; clear I88
    refine c_seq fun K90 hK90 => (c_seq fun K91 hK91 => (c_region (t_move rfl rfl rfl (t_move rfl rfl rfl (t_len Try.underlying72 rfl rfl rfl rfl (t_cmp rfl rfl rfl rfl rfl (t_nil' (hK91 _ _ (c_condp rfl (fun g31 => ?_) (fun g31 => ?_))))))))))
    ·
     refine c_skip (hK90 _ _ (c_seq fun K92 hK92 => (c_block (c_seq fun K93 hK93 => (c_seq fun K94 hK94 => (WC.weak [(0, .slice ao us.length cap), (3, .slice ao16 us.length cp18), (4, .slice none 0 0), (5, .int .i64 0), (6, .int .i64 2), (7, .int .i64 wn), (8, .int .i64 (k : Int))] ⟨rfl, rfl, rfl, rfl, rfl, rfl, rfl, trivial⟩ (c_drawn follows 9 [some (34, some (.slice ao16 us.length cp18)), some (35, some (.int .i64 (k : Int))), some (36, some (.pointer (some ⟨gb17, 0 + k * 4, none⟩))), some (37, some (.agg #[.int .i64 ((nth us k).book), .int .i64 ((nth us k).lo), .int .i64 ((nth us k).hi), .bool ((nth us k).sealed)])), some (38, some (.slice ao us.length cap)), some (39, some (.int .i64 (k : Int))), some (40, some (.pointer (some ⟨b, o + k * 4, none⟩))), some (41, some (.agg #[.int .i64 ((nth us k).book), .int .i64 ((nth us k).lo), .int .i64 ((nth us k).hi), .bool ((nth us k).sealed)])), some (42, some (.bool false))] [[],[],[0,1],[2],[],[],[4,5],[6],[3,7]] (fun _ _ w => Upd (fun _ => False) w85 w) rfl rfl rfl (by kernel_rfl) (by kernel_rfl) (Upd.drew _).to ⟨?_, ?_, ?_, ?_, ?_, ?_, ?_, ?_, ?_, trivial⟩ ?_)))))))
     · exact pz rfl rfl rfl rfl fun _ _ _ h => h
     · exact pz rfl rfl rfl rfl fun _ _ _ h => h
     ·
      intro D ρ w98 hcD hnD hdD hW
      have zhW := hW.size
      refine ⟨_, kf_fr [34, 35], fun Lr => ?_⟩
      have D101 := (((A20.keep u26 (fun _ h => h)).keep u86 (fun _ h => h)).keep hW (fun _ h => h))
      have i102 : k < us.length := (by omega)
      refine t_index (j := k) Try.underlying72 Try.sizeOf79 rfl rfl rfl rfl ((D101.sl (fun _ => rfl)).addr (by omega)) rfl i102 ?_
      exact dz rfl hW
     ·
      intro D ρ w103 hcD hnD hdD hW
      have zhW := hW.size
      refine ⟨_, kf_fr [36], fun Lr => ?_⟩
      have D106 := (((A20.keep u26 (fun _ h => h)).keep u86 (fun _ h => h)).keep hW (fun _ h => h))
      refine t_loadN (vs := [.int .i64 ((nth us k).book), .int .i64 ((nth us k).lo), .int .i64 ((nth us k).hi), .bool ((nth us k).sealed)]) Try.isAgg79 Try.sizeOf79 rfl rfl rfl (((D106.sl (fun _ => rfl)).at_ k (by omega)).sub 0 4) rfl ?_
      exact dz rfl hW
     · exact pz rfl rfl rfl rfl fun _ _ _ h => h
     · exact pz rfl rfl rfl rfl fun _ _ _ h => h
     ·
      intro D ρ w107 hcD hnD hdD hW
      have zhW := hW.size
      have E109 := E89.next hW (fun _ _ h => h.elim)
      refine ⟨_, kf_fr [38, 39], fun Lr => ?_⟩
      have i110 : k < us.length := (by omega)
      refine t_index (j := k) Try.underlying72 Try.sizeOf79 rfl rfl rfl rfl ((hl.keep E109 (fun _ h => h)).addr (by omega)) rfl i110 ?_
      exact dz rfl hW
     ·
      intro D ρ w111 hcD hnD hdD hW
      have zhW := hW.size
      have E113 := E89.next hW (fun _ _ h => h.elim)
      refine ⟨_, kf_fr [40], fun Lr => ?_⟩
      refine t_loadN (vs := [.int .i64 ((nth us k).book), .int .i64 ((nth us k).lo), .int .i64 ((nth us k).hi), .bool ((nth us k).sealed)]) Try.isAgg79 Try.sizeOf79 rfl rfl rfl (((hl.keep E113 (fun _ h => h)).at_ k (by omega)).sub 0 4) rfl ?_
      exact dz rfl hW
     ·
      intro D ρ w114 hcD hnD hdD hW
      have zhW := hW.size
      refine ⟨_, kf_fr [37, 41], fun Lr => ?_⟩
      refine t_neS (xs := [.int .i64 ((nth us k).book), .int .i64 ((nth us k).lo), .int .i64 ((nth us k).hi), .bool ((nth us k).sealed)]) (ys := [.int .i64 ((nth us k).book), .int .i64 ((nth us k).lo), .int .i64 ((nth us k).hi), .bool ((nth us k).sealed)]) (by kernel_rfl) (eqIn79 9997 ((nth us k).book) ((nth us k).lo) ((nth us k).hi) ((nth us k).sealed) ((nth us k).book) ((nth us k).lo) ((nth us k).hi) ((nth us k).sealed)) rfl rfl rfl rfl (t_samehd (v := .bool false) (by simp) ?_)
      exact dz rfl hW
     intro ρ w117 hW
     have u118 : Upd (fun _ => False) w85 w117 := hW
     have zu118 := u118.size
     have E119 := E89.next u118 (fun _ _ h => h.elim)
     refine QK.weak [(0, .slice ao us.length cap), (3, .slice ao16 us.length cp18), (4, .slice none 0 0), (5, .int .i64 0), (6, .int .i64 2), (7, .int .i64 wn), (8, .int .i64 (k : Int)), (42, .bool false)] ⟨rfl, rfl, rfl, rfl, rfl, rfl, rfl, rfl, trivial⟩ (hK94 _ _ (c_cond_f rfl (c_skip (hK93 _ _ (c_seq fun K120 hK120 => (c_region (t_move rfl rfl rfl (t_cmp rfl rfl rfl rfl rfl (t_move rfl rfl rfl (t_splitp 45 rfl (fun g45 => ?_) (fun g45 => ?_)))))))))))
     ·
      refine t_move rfl rfl rfl (t_move rfl rfl rfl ?_)
      have i121 : k < us.length := (by omega)
      refine t_index (j := k) Try.underlying72 Try.sizeOf79 rfl rfl rfl rfl ((hl.keep E119 (fun _ h => h)).addr (by omega)) rfl i121 (t_loadN (vs := [.int .i64 ((nth us k).book), .int .i64 ((nth us k).lo), .int .i64 ((nth us k).hi), .bool ((nth us k).sealed)]) Try.isAgg79 Try.sizeOf79 rfl rfl rfl (((hl.keep E119 (fun _ h => h)).at_ k (by omega)).sub 0 4) rfl (t_call (vs := [.agg #[.int .i64 ((nth us k).book), .int .i64 ((nth us k).lo), .int .i64 ((nth us k).hi), .bool ((nth us k).sealed)]]) own29 rfl rfl rfl rfl (Survey_c (nth us k) _) (fun v122 w123 r125 => ?_)))
      obtain ⟨rfl, u124⟩ := r125
      have zu124 := u124.size
      refine t_not rfl rfl rfl (t_pick_t rfl rfl rfl rfl (t_nil' (hK120 _ _ (c_cond rfl (fun g52 => ?_) (fun g52 => ?_)))))
      ·
       refine c_region (t_assign rfl rfl rfl (t_nil' (hK92 _ _ (c_region (t_move rfl rfl rfl (t_ari rfl rfl rfl rfl rfl (by omega) (t_assign rfl rfl rfl (t_nil' ?_))))))))
       exact hK84 (k + 1, 2) _ _ (by show us.length - (k + 1) < us.length - k; omega) ⟨rfl, rfl, rfl, rfl, rfl, rfl, rfl, trivial⟩ ⟨((u86.next u118 (fun _ _ h => h.elim)).next u124 (fun _ _ h => h.elim)), (by omega), (.inr rfl)⟩
      ·
       refine c_skip (hK92 _ _ (c_region (t_move rfl rfl rfl (t_ari rfl rfl rfl rfl rfl (by omega) (t_assign rfl rfl rfl (t_nil' ?_))))))
       exact hK84 (k + 1, wn) _ _ (by show us.length - (k + 1) < us.length - k; omega) ⟨rfl, rfl, rfl, rfl, rfl, rfl, rfl, trivial⟩ ⟨((u86.next u118 (fun _ _ h => h.elim)).next u124 (fun _ _ h => h.elim)), (by omega), (by
         rcases hwn with ⟨h1, h2⟩ | h1
         · exact .inl ⟨h1, any_snoc (by omega) h2 (by simp_all)⟩
         · exact .inr h1)⟩
     ·
      refine t_skip rfl rfl rfl (t_skip rfl rfl rfl (t_skip rfl rfl rfl (t_skip rfl rfl rfl (t_skip rfl rfl rfl (t_skip rfl rfl rfl (t_pick_f rfl rfl rfl rfl (t_nil' (hK120 _ _ (c_cond_f rfl (c_skip (hK92 _ _ (c_region (t_move rfl rfl rfl (t_ari rfl rfl rfl rfl rfl (by omega) (t_assign rfl rfl rfl (t_nil' ?_))))))))))))))))
      exact hK84 (k + 1, wn) _ _ (by show us.length - (k + 1) < us.length - k; omega) ⟨rfl, rfl, rfl, rfl, rfl, rfl, rfl, trivial⟩ ⟨(u86.next u118 (fun _ _ h => h.elim)), (by omega), (by
        rcases hwn with ⟨h1, h2⟩ | h1
        · exact .inl ⟨h1, any_snoc (by omega) h2 (by simp_all)⟩
        · exact .inr h1)⟩
    ·
     have hw2 : wn = 2 := by
       rcases hwn with ⟨_, h2⟩ | h1
       · rw [List.take_of_length_le (by omega), hany] at h2; cases h2
       · exact h1
     refine c_same 7 (v := .int .i64 2) rfl (congrArg (Value.int .i64) hw2) (c_exit (hK82 _ _ (c_seq fun K127 hK127 => (c_seq fun K128 hK128 => (c_region (t_move rfl rfl rfl (t_cmp rfl rfl rfl rfl rfl (t_samehd (v := .bool true) rfl (t_nil' (hK128 _ _ (c_cond_t rfl (c_seq fun K129 hK129 => (c_region (t_move rfl rfl rfl (t_move rfl rfl rfl (t_cmp rfl rfl rfl rfl rfl (t_samehd (v := .bool true) rfl (t_move rfl rfl rfl (t_move rfl rfl rfl (t_cmp rfl rfl rfl rfl rfl (t_samehd (v := .bool true) rfl (t_pick_t rfl rfl rfl rfl (t_move rfl rfl rfl ?_)))))))))))))))))))))))
     refine t_move rfl rfl rfl (t_len Try.underlying73 rfl rfl rfl rfl (t_cmp rfl rfl rfl rfl rfl (t_samehd (v := .bool true) rfl (t_pick_t rfl rfl rfl rfl (t_move rfl rfl rfl (t_call (vs := []) own11 rfl rfl rfl rfl (known_c _) (fun v130 w131 r133 => ?_)))))))
     obtain ⟨rfl, u132⟩ := r133
     have zu132 := u132.size
     have E134 := E89.next u132 (fun _ _ h => h.elim)
     refine t_pick_t rfl rfl rfl rfl (t_assign rfl rfl rfl (t_nil' (hK129 _ _ (c_ret (f_ret1 (v := .bool true) Try.results5 rfl ?_)))))
     exact ⟨rfl, E134⟩
  ·
   have zu26 := u26.size
   have E135 := E22.next u26 (fun _ _ h => h.elim)
   refine t_move rfl rfl rfl (t_extract (vs := [.slice none 0 0, .int .i64 (iC : Int), .int .i64 9]) rfl rfl rfl rfl (t_extract (vs := [.slice none 0 0, .int .i64 (iC : Int), .int .i64 9]) rfl rfl rfl rfl (t_extract (vs := [.slice none 0 0, .int .i64 (iC : Int), .int .i64 9]) rfl rfl rfl rfl (t_assign rfl rfl rfl (t_assign rfl rfl rfl (t_assign rfl rfl rfl (t_nil' (hK23 _ _ (c_seq fun K136 hK136 => (c_region (t_assign rfl rfl rfl (t_nil' (hK136 _ _ (c_seq fun K137 hK137 => (c_seq fun K138 hK138 => (c_region (t_move rfl rfl rfl (t_len Try.underlying72 rfl rfl rfl rfl (t_cmp rfl rfl rfl rfl rfl (t_nil' (hK138 _ _ (c_condp rfl (fun g27 => ?_) (fun g27 => ?_)))))))))))))))))))))))
   ·
    exfalso; omega
   ·
    refine c_skip (hK137 _ _ (c_seq fun K139 hK139 => (c_seq fun K140 hK140 => (c_region (t_assign rfl rfl rfl (t_nil' (hK140 _ _ (c_block (c_loop (γ := Nat) (fun k => [(0, .slice ao us.length cap), (3, .slice ao16 us.length cp18), (4, .slice none 0 0), (5, .int .i64 (iC : Int)), (6, .int .i64 9), (7, .int .i64 0), (8, .int .i64 (k : Int))]) (fun k w => Upd (fun _ => False) w25 w ∧ (k ≤ us.length)) (fun k => us.length - k) 0 ⟨rfl, rfl, rfl, rfl, rfl, rfl, rfl, trivial⟩ ⟨Upd.refl _ _, (Nat.zero_le _)⟩ ?_)))))))))
    intro k w142 hW K141 hK141
    obtain ⟨u143, I144⟩ := hW
    have zu143 := u143.size
    have E145 := E135.next u143 (fun _ _ h => h.elim)
    have hk := I144; clear I144
    refine c_seq fun K146 hK146 => (c_seq fun K147 hK147 => (c_region (t_move rfl rfl rfl (t_move rfl rfl rfl (t_len Try.underlying72 rfl rfl rfl rfl (t_cmp rfl rfl rfl rfl rfl (t_nil' (hK147 _ _ (c_condp rfl (fun g31 => ?_) (fun g31 => ?_))))))))))
    ·
     refine c_skip (hK146 _ _ (c_seq fun K148 hK148 => (c_block (c_seq fun K149 hK149 => (c_seq fun K150 hK150 => (WC.weak [(0, .slice ao us.length cap), (3, .slice ao16 us.length cp18), (4, .slice none 0 0), (5, .int .i64 (iC : Int)), (6, .int .i64 9), (7, .int .i64 0), (8, .int .i64 (k : Int))] ⟨rfl, rfl, rfl, rfl, rfl, rfl, rfl, trivial⟩ (c_drawn follows 9 [some (34, some (.slice ao16 us.length cp18)), some (35, some (.int .i64 (k : Int))), some (36, some (.pointer (some ⟨gb17, 0 + k * 4, none⟩))), some (37, some (.agg #[.int .i64 ((nth us k).book), .int .i64 ((nth us k).lo), .int .i64 ((nth us k).hi), .bool ((nth us k).sealed)])), some (38, some (.slice ao us.length cap)), some (39, some (.int .i64 (k : Int))), some (40, some (.pointer (some ⟨b, o + k * 4, none⟩))), some (41, some (.agg #[.int .i64 ((nth us k).book), .int .i64 ((nth us k).lo), .int .i64 ((nth us k).hi), .bool ((nth us k).sealed)])), some (42, some (.bool false))] [[],[],[0,1],[2],[],[],[4,5],[6],[3,7]] (fun _ _ w => Upd (fun _ => False) w142 w) rfl rfl rfl (by kernel_rfl) (by kernel_rfl) (Upd.drew _).to ⟨?_, ?_, ?_, ?_, ?_, ?_, ?_, ?_, ?_, trivial⟩ ?_)))))))
     · exact pz rfl rfl rfl rfl fun _ _ _ h => h
     · exact pz rfl rfl rfl rfl fun _ _ _ h => h
     ·
      intro D ρ w154 hcD hnD hdD hW
      have zhW := hW.size
      refine ⟨_, kf_fr [34, 35], fun Lr => ?_⟩
      have D157 := (((A20.keep u26 (fun _ h => h)).keep u143 (fun _ h => h)).keep hW (fun _ h => h))
      have i158 : k < us.length := (by omega)
      refine t_index (j := k) Try.underlying72 Try.sizeOf79 rfl rfl rfl rfl ((D157.sl (fun _ => rfl)).addr (by omega)) rfl i158 ?_
      exact dz rfl hW
     ·
      intro D ρ w159 hcD hnD hdD hW
      have zhW := hW.size
      refine ⟨_, kf_fr [36], fun Lr => ?_⟩
      have D162 := (((A20.keep u26 (fun _ h => h)).keep u143 (fun _ h => h)).keep hW (fun _ h => h))
      refine t_loadN (vs := [.int .i64 ((nth us k).book), .int .i64 ((nth us k).lo), .int .i64 ((nth us k).hi), .bool ((nth us k).sealed)]) Try.isAgg79 Try.sizeOf79 rfl rfl rfl (((D162.sl (fun _ => rfl)).at_ k (by omega)).sub 0 4) rfl ?_
      exact dz rfl hW
     · exact pz rfl rfl rfl rfl fun _ _ _ h => h
     · exact pz rfl rfl rfl rfl fun _ _ _ h => h
     ·
      intro D ρ w163 hcD hnD hdD hW
      have zhW := hW.size
      have E165 := E145.next hW (fun _ _ h => h.elim)
      refine ⟨_, kf_fr [38, 39], fun Lr => ?_⟩
      have i166 : k < us.length := (by omega)
      refine t_index (j := k) Try.underlying72 Try.sizeOf79 rfl rfl rfl rfl ((hl.keep E165 (fun _ h => h)).addr (by omega)) rfl i166 ?_
      exact dz rfl hW
     ·
      intro D ρ w167 hcD hnD hdD hW
      have zhW := hW.size
      have E169 := E145.next hW (fun _ _ h => h.elim)
      refine ⟨_, kf_fr [40], fun Lr => ?_⟩
      refine t_loadN (vs := [.int .i64 ((nth us k).book), .int .i64 ((nth us k).lo), .int .i64 ((nth us k).hi), .bool ((nth us k).sealed)]) Try.isAgg79 Try.sizeOf79 rfl rfl rfl (((hl.keep E169 (fun _ h => h)).at_ k (by omega)).sub 0 4) rfl ?_
      exact dz rfl hW
     ·
      intro D ρ w170 hcD hnD hdD hW
      have zhW := hW.size
      refine ⟨_, kf_fr [37, 41], fun Lr => ?_⟩
      refine t_neS (xs := [.int .i64 ((nth us k).book), .int .i64 ((nth us k).lo), .int .i64 ((nth us k).hi), .bool ((nth us k).sealed)]) (ys := [.int .i64 ((nth us k).book), .int .i64 ((nth us k).lo), .int .i64 ((nth us k).hi), .bool ((nth us k).sealed)]) (by kernel_rfl) (eqIn79 9997 ((nth us k).book) ((nth us k).lo) ((nth us k).hi) ((nth us k).sealed) ((nth us k).book) ((nth us k).lo) ((nth us k).hi) ((nth us k).sealed)) rfl rfl rfl rfl (t_samehd (v := .bool false) (by simp) ?_)
      exact dz rfl hW
     intro ρ w173 hW
     have u174 : Upd (fun _ => False) w142 w173 := hW
     have zu174 := u174.size
     have E175 := E145.next u174 (fun _ _ h => h.elim)
     refine QK.weak [(0, .slice ao us.length cap), (3, .slice ao16 us.length cp18), (4, .slice none 0 0), (5, .int .i64 (iC : Int)), (6, .int .i64 9), (7, .int .i64 0), (8, .int .i64 (k : Int)), (42, .bool false)] ⟨rfl, rfl, rfl, rfl, rfl, rfl, rfl, rfl, trivial⟩ (hK150 _ _ (c_cond_f rfl (c_skip (hK149 _ _ (c_seq fun K176 hK176 => (c_region (t_move rfl rfl rfl (t_cmp rfl rfl rfl rfl rfl (t_samehd (v := .bool true) rfl (t_move rfl rfl rfl (t_move rfl rfl rfl (t_move rfl rfl rfl ?_))))))))))))
     have i177 : k < us.length := (by omega)
     refine t_index (j := k) Try.underlying72 Try.sizeOf79 rfl rfl rfl rfl ((hl.keep E175 (fun _ h => h)).addr (by omega)) rfl i177 (t_loadN (vs := [.int .i64 ((nth us k).book), .int .i64 ((nth us k).lo), .int .i64 ((nth us k).hi), .bool ((nth us k).sealed)]) Try.isAgg79 Try.sizeOf79 rfl rfl rfl (((hl.keep E175 (fun _ h => h)).at_ k (by omega)).sub 0 4) rfl (t_call (vs := [.agg #[.int .i64 ((nth us k).book), .int .i64 ((nth us k).lo), .int .i64 ((nth us k).hi), .bool ((nth us k).sealed)]]) own29 rfl rfl rfl rfl (Survey_c (nth us k) _) (fun v178 w179 r181 => ?_)))
     obtain ⟨rfl, u180⟩ := r181
     have zu180 := u180.size
     refine t_not rfl rfl rfl (t_pick_t rfl rfl rfl rfl (t_nil' (hK176 _ _ (c_cond rfl (fun g52 => ?_) (fun g52 => ?_)))))
     ·
      have hok9 := hok _ (nth_mem (xs := us) (i := k) (by omega))
      exact absurd g52 (by rw [hok9]; decide)
     ·
      refine c_skip (hK148 _ _ (c_region (t_move rfl rfl rfl (t_ari rfl rfl rfl rfl rfl (by omega) (t_assign rfl rfl rfl (t_nil' ?_))))))
      exact hK141 (k + 1) _ _ (by omega) ⟨rfl, rfl, rfl, rfl, rfl, rfl, rfl, trivial⟩ ⟨((u143.next u174 (fun _ _ h => h.elim)).next u180 (fun _ _ h => h.elim)), (by omega)⟩
    ·
     refine c_exit (hK139 _ _ (c_seq fun K183 hK183 => (c_seq fun K184 hK184 => (c_region (t_move rfl rfl rfl (t_cmp rfl rfl rfl rfl rfl (t_samehd (v := .bool false) rfl (t_nil' (hK184 _ _ (c_cond_f rfl (c_skip (hK183 _ _ (c_seq fun K185 hK185 => (c_region (t_move rfl rfl rfl (t_call (vs := [.slice ao us.length cap]) own30 rfl rfl rfl rfl (RLosses_c us ao b o cap _ (hl.keep E145 (fun _ h => h)) (by omega) hcap hok) (fun v186 w187 r189 => ?_)))))))))))))))))
     rcases r189 with ⟨⟨iR, rfl, hiR, hbR, hnR⟩ | ⟨hnR, aoR, gR, cR, outR, rfl, hlR, hrR, hsR⟩, u188⟩
     ·
      have zu188 := u188.size
      have E190 := E145.next u188 (fun _ _ h => h.elim)
      have hii : iC = iR := by
        rcases Nat.lt_trichotomy iC iR with h | h | h
        · exact absurd hbC (hnR iC h)
        · exact h
        · exact absurd hbR (hnC iR h)
      refine t_move rfl rfl rfl (t_extract (vs := [.slice none 0 0, .int .i64 (iR : Int)]) rfl rfl rfl rfl (t_extract (vs := [.slice none 0 0, .int .i64 (iR : Int)]) rfl rfl rfl rfl (t_assign rfl rfl rfl (t_assign rfl rfl rfl (t_nil' (hK185 _ _ (c_seq fun K191 hK191 => (c_seq fun K192 hK192 => (c_region (t_move rfl rfl rfl (t_cmp rfl rfl rfl rfl rfl (t_nil' (hK192 _ _ (c_condp rfl (fun g76 => ?_) (fun g76 => ?_)))))))))))))))
      ·
       refine c_seq fun K193 hK193 => (c_region (t_move rfl rfl rfl (t_cmp rfl rfl rfl rfl rfl (t_samehd (v := .bool true) rfl (t_move rfl rfl rfl (t_move rfl rfl rfl (t_move rfl rfl rfl (t_cmp rfl rfl rfl rfl rfl (t_pick_t rfl rfl rfl rfl (t_move rfl rfl rfl (t_splitp 84 rfl (fun g84 => ?_) (fun g84 => ?_))))))))))))
       ·
        refine t_move rfl rfl rfl (t_len Try.underlying73 rfl rfl rfl rfl (t_cmp rfl rfl rfl rfl rfl (t_samehd (v := .bool true) rfl (t_pick_t rfl rfl rfl rfl (t_move rfl rfl rfl (t_call (vs := []) own11 rfl rfl rfl rfl (known_c _) (fun v194 w195 r197 => ?_)))))))
        obtain ⟨rfl, u196⟩ := r197
        have zu196 := u196.size
        have E198 := E190.next u196 (fun _ _ h => h.elim)
        refine t_pick_t rfl rfl rfl rfl (t_assign rfl rfl rfl (t_nil' (hK193 _ _ (c_ret (f_ret1 (v := .bool true) Try.results5 rfl ?_)))))
        exact ⟨rfl, E198⟩
       ·
        exact absurd (by omega) g84
      ·
       exact absurd (by omega) g76
     ·
      have zu188 := u188.size
      have hfalse : False := hnR iC hiC hbC
      refine t_move rfl rfl rfl (t_extract (vs := [.slice aoR outR.length cR, .int .i64 (-1)]) rfl rfl rfl rfl (t_extract (vs := [.slice aoR outR.length cR, .int .i64 (-1)]) rfl rfl rfl rfl (t_assign rfl rfl rfl (t_assign rfl rfl rfl (t_nil' (hK185 _ _ (c_seq fun K200 hK200 => (c_seq fun K201 hK201 => (c_region (t_move rfl rfl rfl (t_cmp rfl rfl rfl rfl rfl (t_samehd (v := .bool false) rfl (t_nil' (hK201 _ _ (c_cond_f rfl (c_skip (hK200 _ _ (c_seq fun K202 hK202 => (c_seq fun K203 hK203 => (c_region (t_move rfl rfl rfl (t_cmp rfl rfl rfl rfl rfl (t_samehd (v := .bool true) rfl ?_)))))))))))))))))))))))
      refine t_move rfl rfl rfl (t_skip rfl rfl rfl (t_skip rfl rfl rfl (t_pick_t rfl rfl rfl rfl (t_move rfl rfl rfl (t_skip rfl rfl rfl (t_skip rfl rfl rfl (t_skip rfl rfl rfl (t_skip rfl rfl rfl (t_skip rfl rfl rfl (t_pick_t rfl rfl rfl rfl (t_nil' (hK203 _ _ (c_cond_t rfl (c_seq fun K204 hK204 => (c_region (t_assign rfl rfl rfl (t_nil' (hK204 _ _ (c_ret (f_ret1 (v := .bool false) Try.results5 rfl ?_))))))))))))))))))))
      exact hfalse.elim
  ·
   have zu26 := u26.size
   have E205 := E22.next u26 (fun _ _ h => h.elim)
   refine t_move rfl rfl rfl (t_extract (vs := [.slice (some ⟨gM, 0, none⟩) us.length us.length, .int .i64 0, .int .i64 0]) rfl rfl rfl rfl (t_extract (vs := [.slice (some ⟨gM, 0, none⟩) us.length us.length, .int .i64 0, .int .i64 0]) rfl rfl rfl rfl (t_extract (vs := [.slice (some ⟨gM, 0, none⟩) us.length us.length, .int .i64 0, .int .i64 0]) rfl rfl rfl rfl (t_assign rfl rfl rfl (t_assign rfl rfl rfl (t_assign rfl rfl rfl (t_nil' (hK23 _ _ (c_seq fun K206 hK206 => (c_region (t_assign rfl rfl rfl (t_nil' (hK206 _ _ (c_seq fun K207 hK207 => (c_seq fun K208 hK208 => (c_region (t_move rfl rfl rfl (t_len Try.underlying72 rfl rfl rfl rfl (t_cmp rfl rfl rfl rfl rfl (t_nil' (hK208 _ _ (c_condp rfl (fun g27 => ?_) (fun g27 => ?_)))))))))))))))))))))))
   ·
    exfalso; omega
   ·
    refine c_skip (hK207 _ _ (c_seq fun K209 hK209 => (c_seq fun K210 hK210 => (c_region (t_assign rfl rfl rfl (t_nil' (hK210 _ _ (c_block (c_loop (γ := Nat) (fun k => [(0, .slice ao us.length cap), (3, .slice ao16 us.length cp18), (4, .slice (some ⟨gM, 0, none⟩) us.length us.length), (5, .int .i64 0), (6, .int .i64 0), (7, .int .i64 0), (8, .int .i64 (k : Int))]) (fun k w => Upd (fun _ => False) w25 w ∧ (k ≤ us.length)) (fun k => us.length - k) 0 ⟨rfl, rfl, rfl, rfl, rfl, rfl, rfl, trivial⟩ ⟨Upd.refl _ _, (Nat.zero_le _)⟩ ?_)))))))))
    intro k w212 hW K211 hK211
    obtain ⟨u213, I214⟩ := hW
    have zu213 := u213.size
    have E215 := E205.next u213 (fun _ _ h => h.elim)
    have hk := I214; clear I214
    refine c_seq fun K216 hK216 => (c_seq fun K217 hK217 => (c_region (t_move rfl rfl rfl (t_move rfl rfl rfl (t_len Try.underlying72 rfl rfl rfl rfl (t_cmp rfl rfl rfl rfl rfl (t_nil' (hK217 _ _ (c_condp rfl (fun g31 => ?_) (fun g31 => ?_))))))))))
    ·
     refine c_skip (hK216 _ _ (c_seq fun K218 hK218 => (c_block (c_seq fun K219 hK219 => (c_seq fun K220 hK220 => (WC.weak [(0, .slice ao us.length cap), (3, .slice ao16 us.length cp18), (4, .slice (some ⟨gM, 0, none⟩) us.length us.length), (5, .int .i64 0), (6, .int .i64 0), (7, .int .i64 0), (8, .int .i64 (k : Int))] ⟨rfl, rfl, rfl, rfl, rfl, rfl, rfl, trivial⟩ (c_drawn follows 9 [some (34, some (.slice ao16 us.length cp18)), some (35, some (.int .i64 (k : Int))), some (36, some (.pointer (some ⟨gb17, 0 + k * 4, none⟩))), some (37, some (.agg #[.int .i64 ((nth us k).book), .int .i64 ((nth us k).lo), .int .i64 ((nth us k).hi), .bool ((nth us k).sealed)])), some (38, some (.slice ao us.length cap)), some (39, some (.int .i64 (k : Int))), some (40, some (.pointer (some ⟨b, o + k * 4, none⟩))), some (41, some (.agg #[.int .i64 ((nth us k).book), .int .i64 ((nth us k).lo), .int .i64 ((nth us k).hi), .bool ((nth us k).sealed)])), some (42, some (.bool false))] [[],[],[0,1],[2],[],[],[4,5],[6],[3,7]] (fun _ _ w => Upd (fun _ => False) w212 w) rfl rfl rfl (by kernel_rfl) (by kernel_rfl) (Upd.drew _).to ⟨?_, ?_, ?_, ?_, ?_, ?_, ?_, ?_, ?_, trivial⟩ ?_)))))))
     · exact pz rfl rfl rfl rfl fun _ _ _ h => h
     · exact pz rfl rfl rfl rfl fun _ _ _ h => h
     ·
      intro D ρ w224 hcD hnD hdD hW
      have zhW := hW.size
      refine ⟨_, kf_fr [34, 35], fun Lr => ?_⟩
      have D227 := (((A20.keep u26 (fun _ h => h)).keep u213 (fun _ h => h)).keep hW (fun _ h => h))
      have i228 : k < us.length := (by omega)
      refine t_index (j := k) Try.underlying72 Try.sizeOf79 rfl rfl rfl rfl ((D227.sl (fun _ => rfl)).addr (by omega)) rfl i228 ?_
      exact dz rfl hW
     ·
      intro D ρ w229 hcD hnD hdD hW
      have zhW := hW.size
      refine ⟨_, kf_fr [36], fun Lr => ?_⟩
      have D232 := (((A20.keep u26 (fun _ h => h)).keep u213 (fun _ h => h)).keep hW (fun _ h => h))
      refine t_loadN (vs := [.int .i64 ((nth us k).book), .int .i64 ((nth us k).lo), .int .i64 ((nth us k).hi), .bool ((nth us k).sealed)]) Try.isAgg79 Try.sizeOf79 rfl rfl rfl (((D232.sl (fun _ => rfl)).at_ k (by omega)).sub 0 4) rfl ?_
      exact dz rfl hW
     · exact pz rfl rfl rfl rfl fun _ _ _ h => h
     · exact pz rfl rfl rfl rfl fun _ _ _ h => h
     ·
      intro D ρ w233 hcD hnD hdD hW
      have zhW := hW.size
      have E235 := E215.next hW (fun _ _ h => h.elim)
      refine ⟨_, kf_fr [38, 39], fun Lr => ?_⟩
      have i236 : k < us.length := (by omega)
      refine t_index (j := k) Try.underlying72 Try.sizeOf79 rfl rfl rfl rfl ((hl.keep E235 (fun _ h => h)).addr (by omega)) rfl i236 ?_
      exact dz rfl hW
     ·
      intro D ρ w237 hcD hnD hdD hW
      have zhW := hW.size
      have E239 := E215.next hW (fun _ _ h => h.elim)
      refine ⟨_, kf_fr [40], fun Lr => ?_⟩
      refine t_loadN (vs := [.int .i64 ((nth us k).book), .int .i64 ((nth us k).lo), .int .i64 ((nth us k).hi), .bool ((nth us k).sealed)]) Try.isAgg79 Try.sizeOf79 rfl rfl rfl (((hl.keep E239 (fun _ h => h)).at_ k (by omega)).sub 0 4) rfl ?_
      exact dz rfl hW
     ·
      intro D ρ w240 hcD hnD hdD hW
      have zhW := hW.size
      refine ⟨_, kf_fr [37, 41], fun Lr => ?_⟩
      refine t_neS (xs := [.int .i64 ((nth us k).book), .int .i64 ((nth us k).lo), .int .i64 ((nth us k).hi), .bool ((nth us k).sealed)]) (ys := [.int .i64 ((nth us k).book), .int .i64 ((nth us k).lo), .int .i64 ((nth us k).hi), .bool ((nth us k).sealed)]) (by kernel_rfl) (eqIn79 9997 ((nth us k).book) ((nth us k).lo) ((nth us k).hi) ((nth us k).sealed) ((nth us k).book) ((nth us k).lo) ((nth us k).hi) ((nth us k).sealed)) rfl rfl rfl rfl (t_samehd (v := .bool false) (by simp) ?_)
      exact dz rfl hW
     intro ρ w243 hW
     have u244 : Upd (fun _ => False) w212 w243 := hW
     have zu244 := u244.size
     have E245 := E215.next u244 (fun _ _ h => h.elim)
     refine QK.weak [(0, .slice ao us.length cap), (3, .slice ao16 us.length cp18), (4, .slice (some ⟨gM, 0, none⟩) us.length us.length), (5, .int .i64 0), (6, .int .i64 0), (7, .int .i64 0), (8, .int .i64 (k : Int)), (42, .bool false)] ⟨rfl, rfl, rfl, rfl, rfl, rfl, rfl, rfl, trivial⟩ (hK220 _ _ (c_cond_f rfl (c_skip (hK219 _ _ (c_seq fun K246 hK246 => (c_region (t_move rfl rfl rfl (t_cmp rfl rfl rfl rfl rfl (t_samehd (v := .bool true) rfl (t_move rfl rfl rfl (t_move rfl rfl rfl (t_move rfl rfl rfl ?_))))))))))))
     have i247 : k < us.length := (by omega)
     refine t_index (j := k) Try.underlying72 Try.sizeOf79 rfl rfl rfl rfl ((hl.keep E245 (fun _ h => h)).addr (by omega)) rfl i247 (t_loadN (vs := [.int .i64 ((nth us k).book), .int .i64 ((nth us k).lo), .int .i64 ((nth us k).hi), .bool ((nth us k).sealed)]) Try.isAgg79 Try.sizeOf79 rfl rfl rfl (((hl.keep E245 (fun _ h => h)).at_ k (by omega)).sub 0 4) rfl (t_call (vs := [.agg #[.int .i64 ((nth us k).book), .int .i64 ((nth us k).lo), .int .i64 ((nth us k).hi), .bool ((nth us k).sealed)]]) own29 rfl rfl rfl rfl (Survey_c (nth us k) _) (fun v248 w249 r251 => ?_)))
     obtain ⟨rfl, u250⟩ := r251
     have zu250 := u250.size
     refine t_not rfl rfl rfl (t_pick_t rfl rfl rfl rfl (t_nil' (hK246 _ _ (c_cond rfl (fun g52 => ?_) (fun g52 => ?_)))))
     ·
      have hok9 := hok _ (nth_mem (xs := us) (i := k) (by omega))
      exact absurd g52 (by rw [hok9]; decide)
     ·
      refine c_skip (hK218 _ _ (c_region (t_move rfl rfl rfl (t_ari rfl rfl rfl rfl rfl (by omega) (t_assign rfl rfl rfl (t_nil' ?_))))))
      exact hK211 (k + 1) _ _ (by omega) ⟨rfl, rfl, rfl, rfl, rfl, rfl, rfl, trivial⟩ ⟨((u213.next u244 (fun _ _ h => h.elim)).next u250 (fun _ _ h => h.elim)), (by omega)⟩
    ·
     refine c_exit (hK209 _ _ (c_seq fun K253 hK253 => (c_seq fun K254 hK254 => (c_region (t_move rfl rfl rfl (t_cmp rfl rfl rfl rfl rfl (t_samehd (v := .bool false) rfl (t_nil' (hK254 _ _ (c_cond_f rfl (c_skip (hK253 _ _ (c_seq fun K255 hK255 => (c_region (t_move rfl rfl rfl (t_call (vs := [.slice ao us.length cap]) own30 rfl rfl rfl rfl (RLosses_c us ao b o cap _ (hl.keep E215 (fun _ h => h)) (by omega) hcap hok) (fun v256 w257 r259 => ?_)))))))))))))))))
     rcases r259 with ⟨⟨iR, rfl, hiR, hbR, hnR⟩ | ⟨hnR, aoR, gR, cR, outR, rfl, hlR, hrR, hsR⟩, u258⟩
     ·
      have zu258 := u258.size
      have hfalse : False := hnD iR hiR hbR
      refine t_move rfl rfl rfl (t_extract (vs := [.slice none 0 0, .int .i64 (iR : Int)]) rfl rfl rfl rfl (t_extract (vs := [.slice none 0 0, .int .i64 (iR : Int)]) rfl rfl rfl rfl (t_assign rfl rfl rfl (t_assign rfl rfl rfl (t_nil' (hK255 _ _ (c_seq fun K261 hK261 => (c_seq fun K262 hK262 => (c_region (t_move rfl rfl rfl (t_cmp rfl rfl rfl rfl rfl (t_nil' (hK262 _ _ (c_condp rfl (fun g76 => ?_) (fun g76 => ?_)))))))))))))))
      ·
       refine c_seq fun K263 hK263 => (c_region (t_move rfl rfl rfl (t_cmp rfl rfl rfl rfl rfl (t_samehd (v := .bool false) rfl (t_move rfl rfl rfl (t_skip rfl rfl rfl (t_skip rfl rfl rfl (t_skip rfl rfl rfl (t_pick_f rfl rfl rfl rfl (t_move rfl rfl rfl (t_skip rfl rfl rfl (t_skip rfl rfl rfl (t_skip rfl rfl rfl (t_pick_f rfl rfl rfl rfl (t_move rfl rfl rfl (t_skip rfl rfl rfl (t_pick_f rfl rfl rfl rfl (t_assign rfl rfl rfl (t_nil' (hK263 _ _ (c_ret (f_ret1 (v := .bool false) Try.results5 rfl ?_))))))))))))))))))))))
       exact hfalse.elim
      ·
       exact absurd (by omega) g76
     ·
      have zu258 := u258.size
      have E264 := E215.next u258 (fun _ _ h => h.elim)
      refine t_move rfl rfl rfl (t_extract (vs := [.slice aoR outR.length cR, .int .i64 (-1)]) rfl rfl rfl rfl (t_extract (vs := [.slice aoR outR.length cR, .int .i64 (-1)]) rfl rfl rfl rfl (t_assign rfl rfl rfl (t_assign rfl rfl rfl (t_nil' (hK255 _ _ (c_seq fun K265 hK265 => (c_seq fun K266 hK266 => (c_region (t_move rfl rfl rfl (t_cmp rfl rfl rfl rfl rfl (t_samehd (v := .bool false) rfl (t_nil' (hK266 _ _ (c_cond_f rfl (c_skip (hK265 _ _ (c_seq fun K267 hK267 => (c_seq fun K268 hK268 => (c_region (t_move rfl rfl rfl (t_cmp rfl rfl rfl rfl rfl (t_samehd (v := .bool false) rfl ?_)))))))))))))))))))))))
      refine t_move rfl rfl rfl (t_move rfl rfl rfl (t_cmp rfl rfl rfl rfl rfl (t_samehd (v := .bool false) rfl (t_pick_f rfl rfl rfl rfl (t_move rfl rfl rfl (t_move rfl rfl rfl (t_len Try.underlying73 rfl rfl rfl rfl (t_move rfl rfl rfl (t_len Try.underlying73 rfl rfl rfl rfl (t_cmp rfl rfl rfl rfl rfl (t_pick_f rfl rfl rfl rfl (t_nil' (hK268 _ _ (c_condp rfl (fun g104 => ?_) (fun g104 => ?_)))))))))))))))
      ·
       exact absurd (by omega) g104
      ·
       refine c_skip (hK267 _ _ (c_seq fun K269 hK269 => (c_seq fun K270 hK270 => (c_region (t_assign rfl rfl rfl (t_nil' (hK270 _ _ (c_block (c_loop (γ := Nat) (fun k3 => [(4, .slice (some ⟨gM, 0, none⟩) us.length us.length), (9, .slice aoR outR.length cR), (11, .int .i64 (k3 : Int))]) (fun k3 w => Upd (fun _ => False) w257 w ∧ (k3 ≤ us.length)) (fun k3 => us.length - k3) 0 ⟨rfl, rfl, rfl, trivial⟩ ⟨Upd.refl _ _, (Nat.zero_le _)⟩ ?_)))))))))
       intro k3 w272 hW K271 hK271
       obtain ⟨u273, I274⟩ := hW
       have zu273 := u273.size
       have E275 := E264.next u273 (fun _ _ h => h.elim)
       have hk3 := I274; clear I274
       refine c_seq fun K276 hK276 => (c_seq fun K277 hK277 => (c_region (t_move rfl rfl rfl (t_move rfl rfl rfl (t_len Try.underlying73 rfl rfl rfl rfl (t_cmp rfl rfl rfl rfl rfl (t_nil' (hK277 _ _ (c_condp rfl (fun g108 => ?_) (fun g108 => ?_))))))))))
       ·
        have hEq := los_eq hMr hrR (i := k3) (by omega)
        refine c_skip (hK276 _ _ (c_seq fun K278 hK278 => (c_block (c_seq fun K279 hK279 => (WC.weak [(4, .slice (some ⟨gM, 0, none⟩) us.length us.length), (9, .slice aoR outR.length cR), (11, .int .i64 (k3 : Int))] ⟨rfl, rfl, rfl, trivial⟩ (c_drawn follows 9 [some (111, some (.slice (some ⟨gM, 0, none⟩) us.length us.length)), some (112, some (.int .i64 (k3 : Int))), some (113, some (.pointer (some ⟨gM, 0 + k3 * 2, none⟩))), some (114, some (.agg #[.int .i64 ((nth M k3).lo), .int .i64 ((nth M k3).hi)])), some (115, some (.slice aoR outR.length cR)), some (116, some (.int .i64 (k3 : Int))), some (117, some (.pointer (some ⟨gR, 0 + k3 * 2, none⟩))), some (118, some (.agg #[.int .i64 ((nth outR k3).lo), .int .i64 ((nth outR k3).hi)])), some (119, some (.bool (!(decide ((nth M k3).lo = (nth outR k3).lo) && decide ((nth M k3).hi = (nth outR k3).hi)))))] [[],[],[0,1],[2],[],[],[4,5],[6],[3,7]] (fun _ _ w => Upd (fun _ => False) w272 w) rfl rfl rfl (by kernel_rfl) (by kernel_rfl) (Upd.drew _).to ⟨?_, ?_, ?_, ?_, ?_, ?_, ?_, ?_, ?_, trivial⟩ ?_))))))
        · exact pz rfl rfl rfl rfl fun _ _ _ h => h
        · exact pz rfl rfl rfl rfl fun _ _ _ h => h
        ·
         intro D ρ w284 hcD hnD hdD hW
         have zhW := hW.size
         refine ⟨_, kf_fr [111, 112], fun Lr => ?_⟩
         have D287 := ((((hsM.keep u213 (fun _ h => h)).keep u258 (fun _ h => h)).keep u273 (fun _ h => h)).keep hW (fun _ h => h))
         have i288 : k3 < M.length := (by omega)
         refine t_index (j := k3) Try.underlying73 Try.sizeOf77 rfl rfl rfl rfl (D287.addr (by omega)) rfl (by omega) ?_
         exact dz rfl hW
        ·
         intro D ρ w289 hcD hnD hdD hW
         have zhW := hW.size
         refine ⟨_, kf_fr [113], fun Lr => ?_⟩
         have D292 := ((((hsM.keep u213 (fun _ h => h)).keep u258 (fun _ h => h)).keep u273 (fun _ h => h)).keep hW (fun _ h => h))
         refine t_loadN (vs := [.int .i64 ((nth M k3).lo), .int .i64 ((nth M k3).hi)]) Try.isAgg77 Try.sizeOf77 rfl rfl rfl ((D292.at_ k3 (by omega)).sub 0 2) rfl ?_
         exact dz rfl hW
        · exact pz rfl rfl rfl rfl fun _ _ _ h => h
        · exact pz rfl rfl rfl rfl fun _ _ _ h => h
        ·
         intro D ρ w293 hcD hnD hdD hW
         have zhW := hW.size
         refine ⟨_, kf_fr [115, 116], fun Lr => ?_⟩
         have D296 := ((hsR.keep u273 (fun _ h => h)).keep hW (fun _ h => h))
         have i297 : k3 < outR.length := (by omega)
         refine t_index (j := k3) Try.underlying73 Try.sizeOf77 rfl rfl rfl rfl (D296.addr (by omega)) rfl i297 ?_
         exact dz rfl hW
        ·
         intro D ρ w298 hcD hnD hdD hW
         have zhW := hW.size
         refine ⟨_, kf_fr [117], fun Lr => ?_⟩
         have D301 := ((hsR.keep u273 (fun _ h => h)).keep hW (fun _ h => h))
         refine t_loadN (vs := [.int .i64 ((nth outR k3).lo), .int .i64 ((nth outR k3).hi)]) Try.isAgg77 Try.sizeOf77 rfl rfl rfl ((D301.at_ k3 (by omega)).sub 0 2) rfl ?_
         exact dz rfl hW
        · exact fun D ρ w _ _ _ hW => ⟨[(114, .agg #[.int .i64 ((nth M k3).lo), .int .i64 ((nth M k3).hi)]), (118, .agg #[.int .i64 ((nth outR k3).lo), .int .i64 ((nth outR k3).hi)])], ⟨fi 3 rfl rfl rfl, fi 7 rfl rfl rfl, trivial⟩, fun Lr => t_neS (xs := [.int .i64 ((nth M k3).lo), .int .i64 ((nth M k3).hi)]) (ys := [.int .i64 ((nth outR k3).lo), .int .i64 ((nth outR k3).hi)]) (by kernel_rfl) (eqIn77 9998 ((nth M k3).lo) ((nth M k3).hi) ((nth outR k3).lo) ((nth outR k3).hi)) rfl rfl rfl rfl (dz rfl hW)⟩
        intro ρ w302 hW
        have u303 : Upd (fun _ => False) w272 w302 := hW
        have zu303 := u303.size
        refine QK.weak [(4, .slice (some ⟨gM, 0, none⟩) us.length us.length), (9, .slice aoR outR.length cR), (11, .int .i64 (k3 : Int)), (119, .bool (!(decide ((nth M k3).lo = (nth outR k3).lo) && decide ((nth M k3).hi = (nth outR k3).hi))))] ⟨rfl, rfl, rfl, rfl, trivial⟩ (hK279 _ _ (c_cond rfl (fun g119 => ?_) (fun g119 => ?_)))
        ·
         exact absurd g119 (by rw [hEq]; simp)
        ·
         refine c_skip (hK278 _ _ (c_region (t_move rfl rfl rfl (t_ari rfl rfl rfl rfl rfl (by omega) (t_assign rfl rfl rfl (t_nil' ?_))))))
         exact hK271 (k3 + 1) _ _ (by omega) ⟨rfl, rfl, rfl, trivial⟩ ⟨(u273.next u303 (fun _ _ h => h.elim)), (by omega)⟩
       ·
        refine c_exit (hK269 _ _ (c_seq fun K305 hK305 => (c_region (t_call (vs := []) own11 rfl rfl rfl rfl (known_c _) (fun v306 w307 r309 => ?_)))))
        obtain ⟨rfl, u308⟩ := r309
        have zu308 := u308.size
        have E310 := E275.next u308 (fun _ _ h => h.elim)
        refine t_assign rfl rfl rfl (t_nil' (hK305 _ _ (c_ret (f_ret1 (v := .bool true) Try.results5 rfl ?_))))
        exact ⟨rfl, E310⟩

end Go.Proofs.Ytgkkgpenmppjcaa
