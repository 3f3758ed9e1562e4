/-
  Part 16 of the proof: contracts and plain laws. Conditions: none.
-/
import Derived.Test.YtgoajalaomakpaaGreatHK15
namespace Go.Proofs.YtgoajalaomakpaaGreat
open Go Go.RowKit Go.Proofs.Tryz

theorem cmpB_ne {sg : Int} (hsg : sg = 1 ∨ sg = -1) {a b : Bid} (h : ¬ cmpB sg b a < 0) (hp : a.p ≠ b.p) : cmpB sg a b < 0 := by
  rw [cmpB_lt hsg] at *
  rcases hsg with rfl | rfl <;> omega
abbrev BLt (sg : Int) (a b : Bid) : Prop := cmpB sg a b < 0
theorem BLt.asym {sg : Int} (hsg : sg = 1 ∨ sg = -1) (a b : Bid) (h : BLt sg a b) : ¬ BLt sg b a := by
  unfold BLt at *
  rw [cmpB_lt hsg] at *
  rcases hsg with rfl | rfl <;> omega
/-- A sorted queue of different parties is in strict order. -/
theorem queue_strict {sg : Int} (hsg : sg = 1 ∨ sg = -1) {yb F : List Bid} (hp : yb.Perm F) (ha : Asc (cmpB sg) yb) (hn : (F.map Bid.p).Nodup) : yb.Pairwise (BLt sg) := by
  have h2 : yb.Pairwise (fun a b => a.p ≠ b.p) := by
    refine hp.symm.pairwise ?_ (fun {a b} q => fun e => q e.symm)
    unfold List.Nodup at hn
    rwa [List.pairwise_map] at hn
  exact (ha.pw.and h2).imp (fun q => cmpB_ne hsg q.1 q.2)
theorem queue_uniq {sg : Int} (hsg : sg = 1 ∨ sg = -1) {yb F zs : List Bid} (hp : yb.Perm F) (ha : Asc (cmpB sg) yb) (hn : (F.map Bid.p).Nodup) (hz : zs.Pairwise (BLt sg)) (hm : ∀ x, x ∈ zs ↔ x ∈ F) : yb = zs :=
  sorted_ext (BLt.asym hsg) (queue_strict hsg hp ha hn) hz (fun x => by rw [hp.mem_iff, hm])
def kBd : List Bid := [⟨1, 1000, 900, 0⟩, ⟨2, 500, 800, 0⟩]
def kAs : List Bid := [⟨3, 800, 700, 0⟩, ⟨4, 900, 850, 0⟩]
def kT : List Trd := [⟨1, 3, 800⟩, ⟨1, 4, 200⟩]
def kR : List Fre := [⟨1000, 1440⟩]
def kF : List Msg := [⟨0, 7, 0, 1, 0, 0⟩, ⟨0, 8, 0, 5, 40, 1000⟩, ⟨0, 9, 0, 6, 40, 180⟩, ⟨0, 5, 1, 2, 500, 0⟩, ⟨0, 2, 0, 3, 560, 0⟩, ⟨0, 1, 0, 4, 3000, 0⟩]
def kL : Lc := ⟨360, 1440, 700, 0⟩
def kX : Bl := ⟨1020000, 204000, 70000, 0, 61200, 1294000⟩
def kO : List Off := [⟨0, 100, 0, 600, 50000⟩, ⟨100, 300, 700, 1500, 40000⟩, ⟨0, 300, 0, 1400, 80000⟩]
def kH : Hul := ⟨10, 0, 5, 100⟩
theorem k_mt {p e : Int} {ts : List Trd} (h : MtR kBd kAs p ts e) : p = 850 ∧ ts = kT ∧ e = 0 := by
  have e0 : mtErr kBd kAs = 0 := by kernel_rfl
  obtain ⟨he, h⟩ := h
  rw [e0] at he
  rcases h with ⟨q, _⟩ | ⟨_, hp, yb, ya, p1, a1, p2, a2, k, hk, hj, ht⟩
  · exact absurd he q
  have hp2 : p = 850 := hp.trans (by kernel_rfl)
  subst hp2
  have hm : (mtBest kBd kAs).t = 1000 := by kernel_rfl
  have f1 : (kBd.filter fun x => trd (-1) x 850) = [⟨1, 1000, 900, 0⟩] := by kernel_rfl
  have f2 : (kAs.filter fun x => trd 1 x 850) = kAs := by kernel_rfl
  rw [f1] at p1
  rw [f2] at p2
  obtain rfl := List.perm_singleton.1 p1
  obtain rfl : ya = kAs := queue_uniq (.inl rfl) p2 a2 (by decide) (by decide) (fun x => Iff.rfl)
  rw [hm] at hk hj ht
  obtain rfl : k = 2 := by
    rcases k with _ | _ | _ | k
    · exact absurd hk (by decide)
    · exact absurd hk (by decide)
    · rfl
    · exact absurd (hj 2 (by omega)) (by decide)
  exact ⟨rfl, ht.trans (by kernel_rfl), he⟩
theorem k_rdE : rdE kM = 0 := by kernel_rfl
theorem k_noEd : NoEd kM := by unfold NoEd edK kM; decide
theorem k_mem (x : Msg) : x ∈ kF ↔ LastIn kM x := by
  constructor
  · intro h
    have : ∀ x ∈ kF, x ∈ kM ∧ x.k ≠ 7 ∧ ∀ m ∈ kM, m.c = x.c → m.n = x.n → m.r ≤ x.r := by decide
    exact this x h
  · rintro ⟨h1, h2, h3⟩
    have : ∀ x ∈ kM, (∀ m ∈ kM, m.c = x.c → m.n = x.n → m.r ≤ x.r) → x ∈ kF := by decide
    exact this x h1 h3
theorem k_facts {out : List Msg} (h : RdR kM out 0) : out = kF :=
  sorted_ext FLt.asym h.spec.2.2.1 (by decide) (fun x => by rw [h.spec.2.2.2, k_mem])
theorem k_op : opEB kR kF = 0 := by kernel_rfl
theorem k_lc : lcM 1440 3000 360 (exc (opS 3000 kR kF 6).ex) = kL := by
  have e : (opS 3000 kR kF 6).ex = [⟨1000, 1440⟩, ⟨500, 560⟩] := by kernel_rfl
  have e2 : exc (opS 3000 kR kF 6).ex = exc [(⟨500, 560⟩ : Fre), ⟨1000, 1440⟩] := exc_same (fun f => by rw [e]; simp [or_comm])
  have ha : Asc cmpFr [(⟨500, 560⟩ : Fre), ⟨1000, 1440⟩] := fun i j hij hj => by
    simp at hj
    obtain ⟨rfl, rfl⟩ : i = 0 ∧ j = 1 := by omega
    decide
  rw [e2]
  exact (cntP_mn (L := 1440) (en := 3000) (b := 360) (by decide) ha).symm.trans (by kernel_rfl)
theorem k_lt {lc : Lc} {e : Int} (h : LtR kC kW kR kM lc e) : lc = kL ∧ e = 0 := by
  obtain ⟨out, hR, he, h⟩ := h.ok (by kernel_rfl) (by kernel_rfl) k_rdE k_noEd (by kernel_rfl)
  obtain rfl := k_facts hR
  rw [k_op] at he
  rcases h with ⟨q, _⟩ | ⟨_, n1, en, g1, g4, hl⟩
  · exact absurd he q
  · have e1 : gtG (onS kF kF.length) 1 = some ⟨0, 7, 0, 1, 0, 0⟩ := by kernel_rfl
    have e4 : gtG (onS kF kF.length) 4 = some ⟨0, 1, 0, 4, 3000, 0⟩ := by kernel_rfl
    rw [e1] at g1
    rw [e4] at g4
    simp only [Option.some.injEq] at g1 g4
    subst g1 g4
    exact ⟨hl.trans k_lc, he⟩
theorem k_blF {b : Bl} {e : Int} (h : BlF kC kW kR kF b e) : b = kX ∧ e = 0 := by
  obtain ⟨n1, en, g1, g4, h⟩ := h
  have e1 : gtG (onS kF kF.length) 1 = some ⟨0, 7, 0, 1, 0, 0⟩ := by kernel_rfl
  have e4 : gtG (onS kF kF.length) 4 = some ⟨0, 1, 0, 4, 3000, 0⟩ := by kernel_rfl
  have e5 : gtG (onS kF kF.length) 5 = some ⟨0, 8, 0, 5, 40, 1000⟩ := by kernel_rfl
  have e6 : gtG (onS kF kF.length) 6 = some ⟨0, 9, 0, 6, 40, 180⟩ := by kernel_rfl
  rw [e1] at g1
  rw [e4] at g4
  simp only [Option.some.injEq] at g1 g4
  subst g1 g4
  rcases h with ⟨_, _, q | ⟨q, _⟩⟩ | ⟨he, t5, g5, _, hb⟩
  · rw [e5] at q; cases q
  · rw [e6] at q; cases q
  · rw [e5] at g5
    simp only [Option.some.injEq] at g5
    subst g5
    refine ⟨hb.trans ?_, he⟩
    rw [show lcM kC.l (3000 : Int) (0 + kC.o) (exc (opS 3000 kR kF kF.length).ex) = kL from k_lc]
    kernel_rfl
theorem k_bi {b : Bl} {e : Int} (h : BiR kC kW kR kM b e) : b = kX ∧ e = 0 := by
  obtain ⟨out, hR, h⟩ := h.ok (by kernel_rfl) (by kernel_rfl) k_rdE k_noEd (by kernel_rfl)
  obtain rfl := k_facts hR
  rcases h with ⟨q, he, _⟩ | ⟨_, h⟩
  · rw [k_op] at he; exact absurd he q
  · exact k_blF h
theorem k_best : bestP kO kH = ⟨[1], 31000⟩ ∧ bestE kO kH = 0 := ⟨by kernel_rfl, by kernel_rfl⟩

def kP : List Int := balN (List.replicate 100 0) kC kX
theorem k_ofC : ofC kF 0 = kF := by kernel_rfl
theorem k_bal {hc : HC} {b : List Int} {e : Int} (hv : hc.v = kC) (hw : hc.ws = kW) (h : BalR [hc] kR kM b e) : b = kP ∧ e = 0 := by
  have h0 : chkCh hc.v hc.ws = 0 := by rw [hv, hw]; kernel_rfl
  have ha : ([hc].any fun h => decide (chkCh h.v h.ws ≠ 0)) = false := by simp [h0]
  have hR : ∀ out, RdR kM out 0 → out = kF := fun out h => k_facts h
  have hL : 0 ≤ kC.l := by decide
  have hX : ∀ x e, ChB [hc] kR kF 0 x e → x = kX ∧ e = 0 := fun x e h => by
    obtain ⟨ex, n1, en, hO, g1, g4, hb⟩ := h
    rw [k_ofC] at hO g1 g4 hb
    rw [show (nth [hc] 0).v = kC from hv, show (nth [hc] 0).ws = kW from hw] at hb
    exact k_blF (hb.toF hL hO g1 g4)
  rcases h with ⟨q, _⟩ | ⟨_, q, _⟩ | ⟨_, _, ⟨q, _⟩ | ⟨_, ⟨q, _, o, hR2⟩ | ⟨out, hR1, ⟨q, _⟩ | ⟨_, ⟨q, _, k, b0, hk, _, _, hE⟩ | ⟨he, hB⟩⟩⟩⟩⟩
  · simp at q
  · rw [ha] at q; cases q
  · exact absurd (by kernel_rfl) q
  · rcases hR2.err with ⟨q2, _⟩ | ⟨_, q2, _⟩ | ⟨_, _, q2⟩
    · exact absurd k_rdE q2
    · exact absurd k_noEd q2
    · exact absurd q2 q
  · exact absurd (show (kM.any fun m => decide ((1 : Int) ≤ m.c)) = true from q) (by decide)
  · obtain rfl := hR out hR1
    obtain rfl : k = 0 := by simp at hk; omega
    rcases hE with hE | ⟨x, hE⟩
    · have := hE.eq.1
      rw [k_ofC, k_op] at this
      exact absurd this q
    · exact absurd (hX x e hE).2 q
  · obtain rfl := hR out hR1
    obtain ⟨b0, hb0, ⟨q, _⟩ | ⟨_, x, hx, hb⟩⟩ := hB
    · exact absurd q (by decide)
    · obtain ⟨rfl, _⟩ := hX x 0 hx
      refine ⟨?_, he⟩
      have hb0' : b0 = List.replicate 100 0 := hb0
      rw [hb, hb0', show (nth [hc] 0).v = kC from hv]; rfl
theorem eqIn32 (n : Nat) (a0 : Int) (a1 : Int) (a2 : Int) (b0 : Int) (b1 : Int) (b2 : Int) (w : World) : (Op.equalIn (n + 2) 32 (.agg #[.int .i64 a0, .int .i64 a1, .int .i64 a2]) (.agg #[.int .i64 b0, .int .i64 b1, .int .i64 b2])).run Tryz.prog w = .ok (decide (a0 = b0) && decide (a1 = b1) && decide (a2 = b2)) w := by
  have hS : Tryz.prog.underlying 32 = some (.struct (Tryz.prog.fieldsOf 32)) := by kernel_rfl
  have hp : Tryz.prog.stoodInHeld 32 = false := by kernel_rfl
  have p0 : ∀ (a0 : Int) (a1 : Int) (a2 : Int), (part 3 #[.int .i64 a0, .int .i64 a1, .int .i64 a2] 0).run Tryz.prog w = .ok (.int .i64 a0) w := fun _ _ _ => by simp [part, isAgg3]
  have p1 : ∀ (a0 : Int) (a1 : Int) (a2 : Int), (part 3 #[.int .i64 a0, .int .i64 a1, .int .i64 a2] 1).run Tryz.prog w = .ok (.int .i64 a1) w := fun _ _ _ => by simp [part, isAgg3]
  have p2 : ∀ (a0 : Int) (a1 : Int) (a2 : Int), (part 3 #[.int .i64 a0, .int .i64 a1, .int .i64 a2] 2).run Tryz.prog w = .ok (.int .i64 a2) w := fun _ _ _ => by simp [part, isAgg3]
  have e3 := fun a b w => equal_i64 underlying3 (n + 0) a b w
  rw [run_equalIn_struct w (n + 1) 32 _ _ hS hp]
  simp only [Program.fieldsOf, underlying32]
  simp only [Op.eqFields, Sem.run_bind, Sem.run_ite, p0, p1, p2, e3, Result.andThen_ok]
  by_cases h0 : a0 = b0 <;> by_cases h1 : a1 = b1 <;> by_cases h2 : a2 = b2 <;> simp [h0, h1, h2]
theorem eqIn81 (n : Nat) (a0 : Int) (a1 : Int) (a2 : Int) (a3 : Int) (b0 : Int) (b1 : Int) (b2 : Int) (b3 : Int) (w : World) : (Op.equalIn (n + 2) 81 (.agg #[.int .i64 a0, .int .i64 a1, .int .i64 a2, .int .i64 a3]) (.agg #[.int .i64 b0, .int .i64 b1, .int .i64 b2, .int .i64 b3])).run Tryz.prog w = .ok (decide (a0 = b0) && decide (a1 = b1) && decide (a2 = b2) && decide (a3 = b3)) w := by
  have hS : Tryz.prog.underlying 81 = some (.struct (Tryz.prog.fieldsOf 81)) := by kernel_rfl
  have hp : Tryz.prog.stoodInHeld 81 = false := by kernel_rfl
  have p0 : ∀ (a0 : Int) (a1 : Int) (a2 : Int) (a3 : Int), (part 3 #[.int .i64 a0, .int .i64 a1, .int .i64 a2, .int .i64 a3] 0).run Tryz.prog w = .ok (.int .i64 a0) w := fun _ _ _ _ => by simp [part, isAgg3]
  have p1 : ∀ (a0 : Int) (a1 : Int) (a2 : Int) (a3 : Int), (part 3 #[.int .i64 a0, .int .i64 a1, .int .i64 a2, .int .i64 a3] 1).run Tryz.prog w = .ok (.int .i64 a1) w := fun _ _ _ _ => by simp [part, isAgg3]
  have p2 : ∀ (a0 : Int) (a1 : Int) (a2 : Int) (a3 : Int), (part 3 #[.int .i64 a0, .int .i64 a1, .int .i64 a2, .int .i64 a3] 2).run Tryz.prog w = .ok (.int .i64 a2) w := fun _ _ _ _ => by simp [part, isAgg3]
  have p3 : ∀ (a0 : Int) (a1 : Int) (a2 : Int) (a3 : Int), (part 3 #[.int .i64 a0, .int .i64 a1, .int .i64 a2, .int .i64 a3] 3).run Tryz.prog w = .ok (.int .i64 a3) w := fun _ _ _ _ => by simp [part, isAgg3]
  have e3 := fun a b w => equal_i64 underlying3 (n + 0) a b w
  rw [run_equalIn_struct w (n + 1) 81 _ _ hS hp]
  simp only [Program.fieldsOf, underlying81]
  simp only [Op.eqFields, Sem.run_bind, Sem.run_ite, p0, p1, p2, p3, e3, Result.andThen_ok]
  by_cases h0 : a0 = b0 <;> by_cases h1 : a1 = b1 <;> by_cases h2 : a2 = b2 <;> by_cases h3 : a3 = b3 <;> simp [h0, h1, h2, h3]
theorem eqIn73 (n : Nat) (a0 : Int) (a1 : Int) (a2 : Int) (a3 : Int) (a4 : Int) (a5 : Int) (b0 : Int) (b1 : Int) (b2 : Int) (b3 : Int) (b4 : Int) (b5 : Int) (w : World) : (Op.equalIn (n + 2) 73 (.agg #[.int .i64 a0, .int .i64 a1, .int .i64 a2, .int .i64 a3, .int .i64 a4, .int .i64 a5]) (.agg #[.int .i64 b0, .int .i64 b1, .int .i64 b2, .int .i64 b3, .int .i64 b4, .int .i64 b5])).run Tryz.prog w = .ok (decide (a0 = b0) && decide (a1 = b1) && decide (a2 = b2) && decide (a3 = b3) && decide (a4 = b4) && decide (a5 = b5)) w := by
  have hS : Tryz.prog.underlying 73 = some (.struct (Tryz.prog.fieldsOf 73)) := by kernel_rfl
  have hp : Tryz.prog.stoodInHeld 73 = false := by kernel_rfl
  have p0 : ∀ (a0 : Int) (a1 : Int) (a2 : Int) (a3 : Int) (a4 : Int) (a5 : Int), (part 3 #[.int .i64 a0, .int .i64 a1, .int .i64 a2, .int .i64 a3, .int .i64 a4, .int .i64 a5] 0).run Tryz.prog w = .ok (.int .i64 a0) w := fun _ _ _ _ _ _ => by simp [part, isAgg3]
  have p1 : ∀ (a0 : Int) (a1 : Int) (a2 : Int) (a3 : Int) (a4 : Int) (a5 : Int), (part 3 #[.int .i64 a0, .int .i64 a1, .int .i64 a2, .int .i64 a3, .int .i64 a4, .int .i64 a5] 1).run Tryz.prog w = .ok (.int .i64 a1) w := fun _ _ _ _ _ _ => by simp [part, isAgg3]
  have p2 : ∀ (a0 : Int) (a1 : Int) (a2 : Int) (a3 : Int) (a4 : Int) (a5 : Int), (part 3 #[.int .i64 a0, .int .i64 a1, .int .i64 a2, .int .i64 a3, .int .i64 a4, .int .i64 a5] 2).run Tryz.prog w = .ok (.int .i64 a2) w := fun _ _ _ _ _ _ => by simp [part, isAgg3]
  have p3 : ∀ (a0 : Int) (a1 : Int) (a2 : Int) (a3 : Int) (a4 : Int) (a5 : Int), (part 3 #[.int .i64 a0, .int .i64 a1, .int .i64 a2, .int .i64 a3, .int .i64 a4, .int .i64 a5] 3).run Tryz.prog w = .ok (.int .i64 a3) w := fun _ _ _ _ _ _ => by simp [part, isAgg3]
  have p4 : ∀ (a0 : Int) (a1 : Int) (a2 : Int) (a3 : Int) (a4 : Int) (a5 : Int), (part 3 #[.int .i64 a0, .int .i64 a1, .int .i64 a2, .int .i64 a3, .int .i64 a4, .int .i64 a5] 4).run Tryz.prog w = .ok (.int .i64 a4) w := fun _ _ _ _ _ _ => by simp [part, isAgg3]
  have p5 : ∀ (a0 : Int) (a1 : Int) (a2 : Int) (a3 : Int) (a4 : Int) (a5 : Int), (part 3 #[.int .i64 a0, .int .i64 a1, .int .i64 a2, .int .i64 a3, .int .i64 a4, .int .i64 a5] 5).run Tryz.prog w = .ok (.int .i64 a5) w := fun _ _ _ _ _ _ => by simp [part, isAgg3]
  have e3 := fun a b w => equal_i64 underlying3 (n + 0) a b w
  rw [run_equalIn_struct w (n + 1) 73 _ _ hS hp]
  simp only [Program.fieldsOf, underlying73]
  simp only [Op.eqFields, Sem.run_bind, Sem.run_ite, p0, p1, p2, p3, p4, p5, e3, Result.andThen_ok]
  by_cases h0 : a0 = b0 <;> by_cases h1 : a1 = b1 <;> by_cases h2 : a2 = b2 <;> by_cases h3 : a3 = b3 <;> by_cases h4 : a4 = b4 <;> by_cases h5 : a5 = b5 <;> simp [h0, h1, h2, h3, h4, h5]

set_option maxHeartbeats 4000000 in
theorem known_c  (w0 : World) (hpos : 0 < w0.heap.size) :
    CallsV Tryz.prog 11 [] w0 (fun v w' => v = .bool true ∧ Ext w0 w') := by
 refine f_n func11 ?_
 refine go ?_
 refine x_l fun bk3 w4 ebk3 sbk3 B5 u6 => ?_
 refine go ?_
 refine x_l fun bk8 w9 ebk8 sbk8 B10 u11 => ?_
 have B13 := (B5.kx u11)
 refine x_c func13 rfl rfl (Match_c kBd (some ⟨bk3, 0, none⟩) bk3 0 2 kAs (some ⟨bk8, 0, none⟩) bk8 0 2 _ (Sl.ofBlk (enc := encBid) (xs := kBd) (fun _ => rfl) B13) (by decide) (Sl.ofBlk (enc := encBid) (xs := kAs) (fun _ => rfl) B10) (by decide) (by omega)) ?_
 rintro _ w15 ⟨⟨pM, tM, aM, gM, cM, eM, rfl, hAm, hRm⟩, u16⟩ zu16
 obtain ⟨rfl, rfl, rfl⟩ := k_mt hRm
 have hAm1 := hAm.sl (fun _ => rfl)
 refine go ?_
 refine x_l fun bk20 w21 ebk20 sbk20 B22 u23 => ?_
 refine go ?_
 refine x_c func38 rfl rfl (charter_c _) ?_
 rintro _ w28 ⟨⟨gK26, rfl, hgK26, hK26⟩, u29⟩ zu29
 refine go ?_
 refine x_c func39 rfl rfl (call_c _) ?_
 rintro _ w34 ⟨⟨gJ32, rfl, hgJ32, hJ32⟩, u35⟩ zu35
 have D38 := (hK26.keep u35 (fun _ h => h))
 have B39 := ((B22.kx u29).kx u35)
 refine x_c func29 rfl rfl (Laytime_c kC kW (some ⟨gK26, 0, none⟩) gK26 0 2 kR (some ⟨bk20, 0, none⟩) bk20 0 1 kM (some ⟨gJ32, 0, none⟩) gJ32 0 7 _ D38 (by decide) (Sl.ofBlk (enc := encFre) (xs := kR) (fun _ => rfl) B39) (by decide) hJ32 (by decide) (by omega)) ?_
 rintro _ w41 ⟨⟨lcL, eL, rfl, hRl⟩, u42⟩ zu42
 obtain ⟨rfl, rfl⟩ := k_lt hRl
 refine go ?_
 refine x_n fun bk45 w46 ebk45 sbk45 B47 u48 => ?_
 refine x_s fun w50 sw50 B52 u51 => ?_
 refine go ?_
 refine x_c func38 rfl rfl (charter_c _) ?_
 rintro _ w57 ⟨⟨gK55, rfl, hgK55, hK55⟩, u58⟩ zu58
 refine go ?_
 refine x_c func39 rfl rfl (call_c _) ?_
 rintro _ w63 ⟨⟨gJ61, rfl, hgJ61, hJ61⟩, u64⟩ zu64
 have D67 := (hK55.keep u64 (fun _ h => h))
 have B68 := (((((B39.kx u42).kx u48).keep u51 (by omega)).kx u58).kx u64)
 refine x_c func27 rfl rfl (Bill_c kC kW (some ⟨gK55, 0, none⟩) gK55 0 2 kR (some ⟨bk20, 0, none⟩) bk20 0 1 kM (some ⟨gJ61, 0, none⟩) gJ61 0 7 _ D67 (by decide) (Sl.ofBlk (enc := encFre) (xs := kR) (fun _ => rfl) B68) (by decide) hJ61 (by decide) (by omega)) ?_
 rintro _ w70 ⟨⟨bB, eB, rfl, hRb⟩, u71⟩ zu71
 obtain ⟨rfl, rfl⟩ := k_bi hRb
 refine go ?_
 refine x_n fun bk74 w75 ebk74 sbk74 B76 u77 => ?_
 refine x_s fun w79 sw79 B81 u80 => ?_
 refine go ?_
 refine x_c func38 rfl rfl (charter_c _) ?_
 rintro _ w86 ⟨⟨gK84, rfl, hgK84, hK84⟩, u87⟩ zu87
 refine x_l fun bk90 w91 ebk90 sbk90 B92 u93 => ?_
 refine go ?_
 refine x_c func39 rfl rfl (call_c _) ?_
 rintro _ w97 ⟨⟨gJ95, rfl, hgJ95, hJ95⟩, u98⟩ zu98
 have B101 := (B92.kx u98)
 have D102 := ((hK84.keep u93 (fun _ h => h)).keep u98 (fun _ h => h))
 have B103 := ((((((B68.kx u71).kx u77).keep u80 (by omega)).kx u87).kx u93).kx u98)
 refine x_c func22 rfl rfl (Balance_c [(⟨kC, kW, some ⟨gK84, 0, none⟩, gK84, 0, 2⟩ : HC)] (some ⟨bk90, 0, none⟩) bk90 0 1 kR (some ⟨bk20, 0, none⟩) bk20 0 1 kM (some ⟨gJ95, 0, none⟩) gJ95 0 7 _ (Sl.ofBlk (enc := encHC) (xs := [(⟨kC, kW, some ⟨gK84, 0, none⟩, gK84, 0, 2⟩ : HC)]) (fun _ => rfl) B101) (show 1 ≤ 1000000 by decide) (fun h hh => by rw [List.mem_singleton.1 hh]; exact ⟨D102, show 2 ≤ 1000000 by decide⟩) (Sl.ofBlk (enc := encFre) (xs := kR) (fun _ => rfl) B103) (by decide) hJ95 (by decide) (by omega)) ?_
 rintro _ w105 ⟨⟨bP, eP, aP, gP, cP, rfl, ⟨hAp, _⟩, hRp⟩, u106⟩ zu106
 obtain ⟨rfl, rfl⟩ := k_bal rfl rfl hRp
 refine go ?_
 refine x_l fun bk110 w111 ebk110 sbk110 B112 u113 => ?_
 refine x_c func16 rfl rfl (Best_c kO (some ⟨bk110, 0, none⟩) bk110 0 3 kH _ (Sl.ofBlk (enc := encOff) (xs := kO) (fun _ => rfl) B112) (by decide) (by omega)) ?_
 rintro _ w116 ⟨⟨rO, eO, aO, gO, oO, cO, rfl, hAo, hRe, hRo⟩, u117⟩ zu117
 obtain ⟨hkb1, hkb2⟩ := k_best
 rw [hkb2] at hRe
 subst hRe
 obtain rfl : rO = ⟨[1], 31000⟩ := (hRo.resolve_left (fun h => h.1 rfl)).2.trans hkb1
 refine go ?_
 have D123 := (((((((((((((((((hAm1.keep u23 (fun _ h => h)).keep u29 (fun _ h => h)).keep u35 (fun _ h => h)).keep u42 (fun _ h => h)).keep u48 (fun _ h => h)).keep u51 (fun h9 => show ¬ (gM = bk45) by have := hAm.ge h9; have := hAm1.lt h9; omega)).keep u58 (fun _ h => h)).keep u64 (fun _ h => h)).keep u71 (fun _ h => h)).keep u77 (fun _ h => h)).keep u80 (fun h9 => show ¬ (gM = bk74) by have := hAm.ge h9; have := hAm1.lt h9; omega)).keep u87 (fun _ h => h)).keep u93 (fun _ h => h)).keep u98 (fun _ h => h)).keep u106 (fun _ h => h)).keep u113 (fun _ h => h)).keep u117 (fun _ h => h))
 have i124 : 1 < kT.length := (by decide)
 refine g_i 1 D123 (fun _ => ?_)
 refine go ?_
 refine t_eqS (xs := [.int .i64 1, .int .i64 4, .int .i64 200]) (ys := [.int .i64 1, .int .i64 4, .int .i64 200]) (by kernel_rfl) (eqIn32 9998 1 4 200 1 4 200) rfl rfl rfl rfl (t_samehd (v := .bool true) rfl ?_)
 refine go ?_
 refine t_eqS (xs := [.int .i64 360, .int .i64 1440, .int .i64 700, .int .i64 0]) (ys := [.int .i64 360, .int .i64 1440, .int .i64 700, .int .i64 0]) (by kernel_rfl) (eqIn81 9998 360 1440 700 0 360 1440 700 0) rfl rfl rfl rfl (t_samehd (v := .bool true) rfl ?_)
 refine go ?_
 refine t_eqS (xs := [.int .i64 1020000, .int .i64 204000, .int .i64 70000, .int .i64 0, .int .i64 61200, .int .i64 1294000]) (ys := [.int .i64 1020000, .int .i64 204000, .int .i64 70000, .int .i64 0, .int .i64 61200, .int .i64 1294000]) (by kernel_rfl) (eqIn73 9998 1020000 204000 70000 0 61200 1294000 1020000 204000 70000 0 61200 1294000) rfl rfl rfl rfl (t_samehd (v := .bool true) rfl ?_)
 refine go ?_
 have D125 := ((hAp.keep u113 (fun _ h => h)).keep u117 (fun _ h => h))
 have i126 : 1 < kP.length := (by decide)
 refine g_i 1 D125 (fun _ => ?_)
 refine st1 (t_same 113 (v := .int .i64 (-1294000)) rfl (by kernel_rfl) ?_)
 refine go ?_
 have i127 : 2 < kP.length := (by decide)
 refine g_i 2 D125 (fun _ => ?_)
 refine st1 (t_same 119 (v := .int .i64 1232800) rfl (by kernel_rfl) ?_)
 refine go ?_
 have i128 : 3 < kP.length := (by decide)
 refine g_i 3 D125 (fun _ => ?_)
 refine st1 (t_same 125 (v := .int .i64 61200) rfl (by kernel_rfl) ?_)
 refine go ?_
 have i129 : 0 < [1].length := (by decide)
 refine g_i 0 hAo (fun _ => ?_)
 refine go ?_
 refine f_1 results11 ?_
 exact ⟨rfl, u_d⟩

end Go.Proofs.YtgoajalaomakpaaGreat
namespace Go.Proofs.YtgoajalaomakpaaGreat
open Go Go.RowKit Go.Proofs.Tryz

/-- An element put into a strict order. -/
theorem ins_pw {α : Type} [Inhabited α] {R : α → α → Prop} (tr : ∀ a b c, R a b → R b c → R a c) {x : α} {out : List α} {k : Nat} (h : out.Pairwise R) (hk : k ≤ out.length) (h1 : 0 < k → R (nth out (k - 1)) x) (h2 : ∀ j, k ≤ j → j < out.length → R x (nth out j)) : (out.take k ++ ([x] ++ out.drop k)).Pairwise R := by
  rw [List.pairwise_append]
  refine ⟨h.sublist (List.take_sublist _ _), (List.pairwise_cons (l := out.drop k)).2 ⟨fun y hy => ?_, h.sublist (List.drop_sublist _ _)⟩, fun a ha b hb => ?_⟩
  · obtain ⟨j, hj, rfl⟩ := List.getElem_of_mem hy
    rw [List.length_drop] at hj
    rw [List.getElem_drop, ← nth_eq]
    exact h2 (k + j) (by omega) (by omega)
  · obtain ⟨i, hi, rfl⟩ := List.getElem_of_mem ha
    rw [List.length_take] at hi
    rw [List.getElem_take, ← nth_eq]
    have h3 : R (nth out i) x := by
      rcases Nat.lt_or_ge i (k - 1) with q | q
      · have h4 := List.pairwise_iff_getElem.1 h i (k - 1) (by omega) (by omega) q
        rw [← nth_eq, ← nth_eq] at h4
        exact tr _ _ _ h4 (h1 (by omega))
      · rw [show i = k - 1 by omega]; exact h1 (by omega)
    rcases List.mem_append.1 hb with hb | hb
    · rw [List.mem_singleton.1 hb]; exact h3
    · obtain ⟨j, hj, rfl⟩ := List.getElem_of_mem hb
      rw [List.length_drop] at hj
      rw [List.getElem_drop, ← nth_eq]
      exact tr _ _ _ h3 (h2 (k + j) (by omega) (by omega))
theorem ins_mem {α : Type} {out : List α} {x y : α} {k : Nat} : y ∈ out.take k ++ ([x] ++ out.drop k) ↔ y ∈ out ∨ y = x := by
  have h : y ∈ out ↔ y ∈ out.take k ∨ y ∈ out.drop k := by rw [← List.mem_append, List.take_append_drop]
  rw [h]
  simp only [List.mem_append, List.mem_singleton]
  constructor
  · rintro (a | a | a)
    · exact .inl (.inl a)
    · exact .inr a
    · exact .inl (.inr a)
  · rintro ((a | a) | a)
    · exact .inl a
    · exact .inr (.inr a)
    · exact .inr (.inl a)
theorem FLt.trans (a b c : Msg) (h1 : FLt a b) (h2 : FLt b c) : FLt a c := by
  unfold FLt at *
  rw [cmpF_lt] at *
  omega
/-- What Messages returns. -/
def MgE (l : List Msg) (e : Int) : Prop := (rdE l ≠ 0 ∧ e = rdE l) ∨ (rdE l = 0 ∧ ¬ NoEd l ∧ e = 6) ∨ (rdE l = 0 ∧ NoEd l ∧ e = 0)
theorem edK_iff {a b : Msg} : edK a = edK b ↔ a.c = b.c ∧ a.n = b.n ∧ a.r = b.r := by unfold edK; simp
/-- A message that comes to nothing by another one. -/
def badB (l : List Msg) (i k : Nat) : Prop := (nth l i).c = (nth l k).c ∧ (nth l i).n = (nth l k).n ∧ ((nth l i).r < (nth l k).r ∨ (nth l k = nth l i ∧ k < i))
instance (l : List Msg) (i k : Nat) : Decidable (badB l i k) := by unfold badB; infer_instance
def lastK (l : List Msg) (i : Nat) : Nat → Bool
  | 0 => decide ((nth l i).k ≠ 7)
  | k + 1 => lastK l i k && !decide (badB l i k)
theorem lastK_iff {l : List Msg} {i : Nat} : ∀ {k : Nat}, lastK l i k = true ↔ (nth l i).k ≠ 7 ∧ ∀ j, j < k → ¬ badB l i j
  | 0 => by simp [lastK]
  | k + 1 => by
    rw [lastK, Bool.and_eq_true, lastK_iff]
    constructor
    · rintro ⟨⟨h1, h2⟩, h3⟩
      exact ⟨h1, fun j hj => (Nat.lt_succ_iff_lt_or_eq.1 hj).elim (h2 j) (fun e => by subst e; simpa using h3)⟩
    · rintro ⟨h1, h2⟩
      exact ⟨⟨h1, fun j hj => h2 j (by omega)⟩, by simpa using h2 k (by omega)⟩
/-- The facts of the first messages. -/
structure OutI (l : List Msg) (i : Nat) (out : List Msg) : Prop where
  pw : out.Pairwise FLt
  mem : ∀ x, x ∈ out ↔ ∃ j, j < i ∧ nth l j = x ∧ lastK l j l.length = true
  len : out.length ≤ i
theorem OutI.skip {l out : List Msg} {i : Nat} (h : OutI l i out) (hl : lastK l i l.length = false) : OutI l (i + 1) out :=
  ⟨h.pw, fun x => by
    rw [h.mem]
    constructor
    · rintro ⟨j, q1, q2⟩; exact ⟨j, by omega, q2⟩
    · rintro ⟨j, q1, q2, q3⟩
      rcases Nat.lt_succ_iff_lt_or_eq.1 q1 with q | rfl
      · exact ⟨j, q, q2, q3⟩
      · exact absurd (hl.symm.trans q3) Bool.false_ne_true, Nat.le_succ_of_le h.len⟩
theorem OutI.put {l out : List Msg} {i k : Nat} (h : OutI l i out) (hE : NoEd l) (hi : i < l.length) (hl : lastK l i l.length = true) (hk : k ≤ out.length) (h1 : ¬ (0 < k ∧ FLt (nth l i) (nth out (k - 1)))) (h2 : ∀ j, k ≤ j → j < out.length → FLt (nth l i) (nth out j)) : OutI l (i + 1) (out.take k ++ ([nth l i] ++ out.drop k)) := by
  have hne : ∀ y ∈ out, keK y ≠ keK (nth l i) := fun y hy e => by
    obtain ⟨j, hj, rfl, hlj⟩ := (h.mem y).1 hy
    obtain ⟨_, q1⟩ := lastK_iff.1 hl
    obtain ⟨_, q2⟩ := lastK_iff.1 hlj
    have e1 : (nth l j).c = (nth l i).c := congrArg Prod.fst e
    have e2 : (nth l j).n = (nth l i).n := congrArg Prod.snd e
    have r1 : ¬ (nth l j).r < (nth l i).r := fun q => q2 i hi ⟨e1, e2, .inl q⟩
    have r2 : ¬ (nth l i).r < (nth l j).r := fun q => q1 j (by omega) ⟨e1.symm, e2.symm, .inl q⟩
    have e3 : nth l j = nth l i := hE _ (nth_mem (by omega)) _ (nth_mem hi) (by rw [edK_iff]; exact ⟨e1, e2, by omega⟩)
    exact q1 j (by omega) ⟨e1.symm, e2.symm, .inr ⟨e3, hj⟩⟩
  refine ⟨ins_pw FLt.trans h.pw hk (fun q => cmpF_ne (fun q2 => h1 ⟨q, q2⟩) (hne _ (nth_mem (by omega)))) h2, fun x => ?_, ?_⟩
  · rw [ins_mem, h.mem]
    constructor
    · rintro (⟨j, q1, q2⟩ | rfl)
      · exact ⟨j, by omega, q2⟩
      · exact ⟨i, by omega, rfl, hl⟩
    · rintro ⟨j, q1, q2, q3⟩
      rcases Nat.lt_succ_iff_lt_or_eq.1 q1 with q | rfl
      · exact .inl ⟨j, q, q2, q3⟩
      · exact .inr q2.symm
  · have := h.len
    simp only [List.length_append, List.length_take, List.length_drop, List.length_singleton]
    omega
theorem OutI.fin {l out : List Msg} (h : OutI l l.length out) : ∀ x, x ∈ out ↔ LastIn l x := fun x => by
  rw [h.mem]
  constructor
  · rintro ⟨j, hj, rfl, hl⟩
    obtain ⟨q1, q2⟩ := lastK_iff.1 hl
    refine ⟨nth_mem hj, q1, fun m hm hc hn => ?_⟩
    obtain ⟨i, hi, rfl⟩ := List.getElem_of_mem hm
    rw [← nth_eq hi] at *
    exact Int.not_lt.1 (fun q => q2 i hi ⟨hc.symm, hn.symm, .inl q⟩)
  · rintro ⟨hx, hk, hr⟩
    have : ∃ j, j < l.length ∧ nth l j = x ∧ ∀ i, i < j → nth l i ≠ x := by
      obtain ⟨i, hi, e⟩ := List.getElem_of_mem hx
      rw [← nth_eq hi] at e
      clear hr hk hx
      induction i using Nat.strongRecOn with
      | ind i ih =>
        by_cases q : ∃ j, j < i ∧ nth l j = x
        · obtain ⟨j, q1, q2⟩ := q
          exact ih j q1 (by omega) q2
        · exact ⟨i, hi, e, fun j hj q2 => q ⟨j, hj, q2⟩⟩
    obtain ⟨j, hj, rfl, hf⟩ := this
    refine ⟨j, hj, rfl, lastK_iff.2 ⟨hk, fun i hi ⟨b1, b2, b3⟩ => ?_⟩⟩
    rcases b3 with b3 | ⟨b3, b4⟩
    · have := hr _ (nth_mem hi) b1.symm b2.symm; omega
    · exact hf i b4 b3
end Go.Proofs.YtgoajalaomakpaaGreat
namespace Go.Proofs.YtgoajalaomakpaaGreat
open Go Go.RowKit Go.Proofs.Tryz

theorem RdR.len {l o : List Msg} {e : Int} (h : RdR l o e) : o.length ≤ 100 := by
  have h' := h
  rcases h with ⟨_, _, q⟩ | ⟨_, _, q, _⟩ | ⟨h0, rfl, _⟩
  · rw [q]; decide
  · rw [q]; decide
  · have := h'.facts
    have := (rdE_ok h0).1
    omega
theorem MgE.noEd {l : List Msg} (h : MgE l 0) : NoEd l := by
  rcases h with ⟨r1, r2⟩ | ⟨r1, r2, r3⟩ | ⟨r1, r2, r3⟩
  · omega
  · omega
  · exact r2
end Go.Proofs.YtgoajalaomakpaaGreat
namespace Go.Proofs.YtgoajalaomakpaaGreat
open Go Go.RowKit Go.Proofs.Tryz

structure T2 where
  a : Int
  b : Int
instance : Inhabited T2 := ⟨⟨default, default⟩⟩
def encU2 (x : T2) : List Value := [.int .u8 x.a, .int .u8 x.b]
def encX2 (x : T2) : List Value := [.int .u16 x.a, .int .u16 x.b]
def okU2 (x : T2) : Prop := (0 ≤ x.a ∧ x.a ≤ 255) ∧ (0 ≤ x.b ∧ x.b ≤ 255)
def okX2 (x : T2) : Prop := (0 ≤ x.a ∧ x.a ≤ 65535) ∧ (0 ≤ x.b ∧ x.b ≤ 65535)
structure Cll where
  p0 : Int
  p1 : Int
  p2 : Int
  t0 : Int
  t1 : Int
  t2 : Int
  t3 : Int
  t4 : Int
  t5 : Int
  n : Int
  e : Int
  v0 : Int
  v1 : Int
instance : Inhabited Cll := ⟨⟨default, default, default, default, default, default, default, default, default, default, default, default, default⟩⟩
def okCll (x : Cll) : Prop := (0 ≤ x.p0 ∧ x.p0 ≤ 255) ∧ (0 ≤ x.p1 ∧ x.p1 ≤ 255) ∧ (0 ≤ x.p2 ∧ x.p2 ≤ 255) ∧ (0 ≤ x.t0 ∧ x.t0 ≤ 65535) ∧ (0 ≤ x.t1 ∧ x.t1 ≤ 65535) ∧ (0 ≤ x.t2 ∧ x.t2 ≤ 65535) ∧ (0 ≤ x.t3 ∧ x.t3 ≤ 65535) ∧ (0 ≤ x.t4 ∧ x.t4 ≤ 65535) ∧ (0 ≤ x.t5 ∧ x.t5 ≤ 65535) ∧ (0 ≤ x.n ∧ x.n ≤ 65535) ∧ (0 ≤ x.e ∧ x.e ≤ 65535) ∧ (0 ≤ x.v0 ∧ x.v0 ≤ 65535) ∧ (0 ≤ x.v1 ∧ x.v1 ≤ 65535)
/-- The minute behind the first stops. -/
def rpA (a : Int) (ss : List T2) : Nat → Int
  | 0 => a
  | k + 1 => rpA a ss k + (nth ss k).a + (nth ss k).b
theorem rpA_bd {a : Int} {ss : List T2} (ha : 0 ≤ a ∧ a ≤ 999) (hs : ∀ x ∈ ss, okU2 x) : ∀ {k : Nat}, k ≤ ss.length → 0 ≤ rpA a ss k ∧ rpA a ss k ≤ 999 + 510 * (k : Int)
  | 0, _ => by unfold rpA; omega
  | k + 1, h => by
    have h1 := rpA_bd ha hs (k := k) (by omega)
    have h2 := hs _ (nth_mem (xs := ss) (i := k) (by omega))
    unfold okU2 at h2
    unfold rpA
    omega
/-- A report's messages up to a stop. -/
def rpL (c : Int) (cor : Bool) (a : Int) (ss : List T2) : Nat → List Msg
  | 0 => [⟨c, 1, 0, 1, a, 0⟩]
  | k + 1 => rpL c cor a ss k ++ [⟨c, 10 + 2 * (k : Int), 2, 2, rpA a ss k + (nth ss k).a, 0⟩] ++ (if cor = true then [⟨c, 10 + 2 * (k : Int), 1, 4, rpA a ss k + (nth ss k).a + 3, 0⟩] else []) ++ [⟨c, 11 + 2 * (k : Int), 0, 3, rpA a ss k + (nth ss k).a + (nth ss k).b, 0⟩]
theorem rpL_len {c : Int} {cor : Bool} {a : Int} {ss : List T2} : ∀ k, (rpL c cor a ss k).length ≤ 3 * k + 1
  | 0 => Nat.le_refl _
  | k + 1 => by
    have := rpL_len (c := c) (cor := cor) (a := a) (ss := ss) k
    rw [rpL, List.length_append, List.length_append, List.length_append]
    split <;> simp only [List.length_cons, List.length_nil] <;> omega
/-- A call's report. -/
def rpP (c : Int) (cor : Bool) (x : Cll) (ss : List T2) : List Msg := rpL c cor (x.n % 1000) ss (min ss.length 8) ++ [⟨c, 500, 0, 4, rpA (x.n % 1000) ss (min ss.length 8) + x.e % 2500, 0⟩, ⟨c, 600, 0, 5, 7, x.v0⟩, ⟨c, 601, 0, 6, 9, x.v1 % 400⟩] ++ (if cor = true then [⟨c, 700, 0, 1, 0, 0⟩, ⟨c, 700, 9, 7, 5, 0⟩] else [])
theorem rpP_len {c : Int} {cor : Bool} {x : Cll} {ss : List T2} : (rpP c cor x ss).length ≤ 30 := by
  have := rpL_len (c := c) (cor := cor) (a := x.n % 1000) (ss := ss) (min ss.length 8)
  unfold rpP
  rw [List.length_append, List.length_append]
  split <;> simp only [List.length_cons, List.length_nil] <;> omega
/-- A call's charter. -/
def tmC (x : Cll) : Chr := ⟨x.p0 % 5, x.p1 % 5, x.p2 % 5, x.t0, x.t1, x.t2 % 2000, x.t3 % 300, 3 * x.t4, 2 * x.t4, x.t5 % 101⟩
def tmW (x : Cll) : List Low := [⟨100, x.t5 % 60⟩, ⟨100 + x.t3 % 200 + 1, 15⟩]
/-- Holidays by small numbers. -/
def spF (x : T2) : Fre := ⟨x.a % 4000, x.a % 4000 + x.b % 800⟩
def spL (xs : List T2) : List Fre := (xs.take 10).map spF
theorem spans_c (xs : List T2) (ax : Option Addr) (bx ox cx : Nat) (w0 : World) (hx : Sl encX2 2 w0 ax bx ox xs) (hxl : xs.length ≤ 9223372036854775807) (hxs : ∀ x ∈ xs, okX2 x) :
    CallsV Tryz.prog 21 [.slice ax xs.length cx] w0 (fun v w' => (∃ ao g cp, v = .slice ao (List.length (spL xs)) cp ∧ Sl encFre 2 w' ao g 0 (spL xs) ∧ (0 < (spL xs).length → w0.heap.size ≤ g) ∧ w0.heap.size < w'.heap.size) ∧ Ext w0 w') := by
 refine f_n func21 ?_
 refine go ?_
 refine x_l fun bk3 w4 ebk3 sbk3 B5 u6 => ?_
 refine go ?_
 refine x_l4 (fun i => bk3 ≤ i) [0] (fun (k : Nat) (ao : Option Addr) (gw : Nat) (co : Nat) => [(3, .slice ao (((xs.take k).map spF).length) co), (4, .int .i64 (k : Int))]) (fun k ao gw co w => (k ≤ xs.length ∧ k ≤ 10) ∧ (Acc encFre 2 88 bk3 w ao gw co ((xs.take k).map spF))) (fun k ao gw co => 10 - k) 0 (some ⟨bk3, 0, none⟩) bk3 0 ⟨(by omega), (Acc.ofBlk (xs := ([] : List Fre)) encFre 2 (fun _ => rfl) B5 (Nat.le_refl _) (by decide))⟩ ?_
 rintro k ao gw co w11 ⟨hk, hout⟩ u12 zu12 K10 hK10
 have lt_gw := hout.lt
 have hol : ((xs.take k).map spF).length = k := by rw [List.length_map, List.length_take]; omega
 refine st1 ?_
 refine x_k1 (fun _ => False) [0, 3, 4] (fun (qa : Bool) => [(14, .bool qa)]) (fun qa w => (qa = true ↔ (k < xs.length ∧ k < 10))) (fun K19 hK19 => ?_) ?_
 ·
  refine go ?_
  refine t_splitp 11 rfl (fun g11 => ?_) (fun g11 => ?_)
  ·
   refine go ?_
   exact hK19 (decide ((k : Int) < 10)) (by rw [decide_eq_true_eq]; omega)
  refine go ?_
  exact hK19 false (⟨fun h => (by cases h), fun h => absurd h (by omega)⟩)
 rintro qa w20 hqa u21 zu21
 have E22 := Sc.mk ((((Upd.refl (fun _ => False) w0).nx u6).next u12 (fun i hi (h : bk3 ≤ i) => show False by first | omega | assumption)).nx u21)
 refine q_b (fun g14 => ?_) fun g14 => ?_
 ·
  have hqa9 := hqa.1 g14
  have hp9 := hx.lt (by omega)
  have hx9 := hxs _ (nth_mem (xs := xs) (i := k) (by omega))
  unfold okX2 at hx9
  have hst9 : (xs.take (k + 1)).map spF = ((xs.take k).map spF) ++ [spF (nth xs k)] := by rw [take_nth (by omega), List.map_append]; rfl
  refine go ?_
  refine g_i k (hx.keep E22.u (fun _ h => h)) (fun _ => ?_)
  refine t_indexArr (j := 0) (ox + k * 2 + 0) underlying68 sizeOf65 rfl rfl rfl rfl rfl (by decide) rfl ?_
  refine go ?_
  refine t_conv underlying65 underlying3 rfl rfl rfl (IntWalk.i64_in _ (by omega)) (t_rem rfl rfl rfl rfl (by omega) (by omega) ?_)
  refine go ?_
  refine g_i k (hx.keep E22.u (fun _ h => h)) (fun _ => ?_)
  refine t_indexArr (j := 1) (ox + k * 2 + 1) underlying68 sizeOf65 rfl rfl rfl rfl rfl (by decide) rfl ?_
  refine go ?_
  refine t_conv underlying65 underlying3 rfl rfl rfl (IntWalk.i64_in _ (by omega)) (t_rem rfl rfl rfl rfl (by omega) (by omega) ?_)
  refine go ?_
  refine x_l fun bk27 w28 ebk27 sbk27 B29 u30 => ?_
  have D32 := ((hout.keep u21 (fun _ h => h)).keep u30 (fun _ h => h))
  refine t_append (z := .agg #[.int .i64 0, .int .i64 0]) (bytes := 16) (k := 2) (base := bk3) (spF (nth xs k)) underlying56 (by kernel_rfl) rfl (by decide) (fun _ => rfl) (by intro x; simp [encFre, Value.oneCell']) rfl rfl rfl rfl D32 B29 (by omega) (by omega) (by decide) (fun ao33 gb34 cp35 w36 A37 u38 gegb34 lngb34 => ?_)
  have zu38 := u38.size
  have lt_gb34 := A37.lt
  refine go ?_
  exact hK10 (k + 1) ao33 gb34 cp35 ⟨(by omega), (by rw [hst9]; exact A37)⟩ (hs := by exact ⟨(by first | (rw [hst9]; rfl) | rfl), rfl, rfl, trivial⟩) (hu := (((u12.nx u21).nx u30).next u38 (fun i hi (h : (i = gw ∧ bk3 ≤ i)) => show bk3 ≤ i by first | omega | assumption)))
 have hqb9 : ¬ (k < xs.length ∧ k < 10) := fun q => by rw [hqa.2 q] at g14; cases g14
 have hend : (xs.take k).map spF = spL xs := by
   unfold spL
   rcases Nat.lt_or_ge k 10 with q | q
   · rw [List.take_of_length_le (by omega), List.take_of_length_le (by omega)]
   · rw [show k = 10 by omega]
 refine go ?_
 refine f_1 results21 ?_
 have D41 := (hout.keep u21 (fun _ h => h))
 have hA9 := D41
 exact ⟨⟨_, _, _, by rw [hend], (by rw [← hend]; exact hA9.sl (fun _ => rfl)), fun h9 => by have := hA9.ge (by rw [hend]; exact h9); omega, by omega⟩, u_d⟩

theorem terms_c (x : Cll) (ss : List T2) (al : Option Addr) (cl : Nat) (w0 : World) (hx : okCll x) :
    CallsV Tryz.prog 30 [.agg #[.int .u8 x.p0, .int .u8 x.p1, .int .u8 x.p2, .int .u16 x.t0, .int .u16 x.t1, .int .u16 x.t2, .int .u16 x.t3, .int .u16 x.t4, .int .u16 x.t5, .int .u16 x.n, .slice al ss.length cl, .int .u16 x.e, .int .u16 x.v0, .int .u16 x.v1]] w0 (fun v w' => (∃ g, v = .agg #[.int .i64 (tmC x).s, .int .i64 (tmC x).c, .int .i64 (tmC x).k, .int .i64 (tmC x).r, .int .i64 (tmC x).n, .int .i64 (tmC x).l, .int .i64 (tmC x).o, .int .i64 (tmC x).d, .int .i64 (tmC x).e, .int .i64 (tmC x).m, .slice (some ⟨g, 0, none⟩) (tmW x).length 2] ∧ w0.heap.size ≤ g ∧ Sl encLow 2 w' (some ⟨g, 0, none⟩) g 0 (tmW x)) ∧ Ext w0 w') := by
 unfold okCll at hx
 refine f_n func30 ?_
 refine go ?_
 refine x_b fun bk2 w3 ebk2 sbk2 B4 u5 => ?_
 refine x_n fun bk7 w8 ebk7 sbk7 B9 u10 => ?_
 refine go ?_
 refine x_n fun bk13 w14 ebk13 sbk13 B15 u16 => ?_
 refine x_s fun w18 sw18 B20 u19 => ?_
 refine go ?_
 refine t_indexArr (j := 0) (0) underlying64 sizeOf5 rfl rfl rfl rfl rfl (by decide) rfl ?_
 refine go ?_
 refine t_conv underlying5 underlying3 rfl rfl rfl (IntWalk.i64_in _ (by omega)) (t_rem rfl rfl rfl rfl (by omega) (by omega) ?_)
 refine go ?_
 refine t_indexArr (j := 1) (1) underlying64 sizeOf5 rfl rfl rfl rfl rfl (by decide) rfl ?_
 refine go ?_
 refine t_conv underlying5 underlying3 rfl rfl rfl (IntWalk.i64_in _ (by omega)) (t_rem rfl rfl rfl rfl (by omega) (by omega) ?_)
 refine go ?_
 refine t_indexArr (j := 2) (2) underlying64 sizeOf5 rfl rfl rfl rfl rfl (by decide) rfl ?_
 refine go ?_
 refine t_conv underlying5 underlying3 rfl rfl rfl (IntWalk.i64_in _ (by omega)) (t_rem rfl rfl rfl rfl (by omega) (by omega) (t_indexArr (j := 0) (0) underlying66 sizeOf65 rfl rfl rfl rfl rfl (by decide) rfl ?_))
 refine go ?_
 refine t_conv underlying65 underlying3 rfl rfl rfl (IntWalk.i64_in _ (by omega)) (t_indexArr (j := 1) (1) underlying66 sizeOf65 rfl rfl rfl rfl rfl (by decide) rfl ?_)
 refine go ?_
 refine t_conv underlying65 underlying3 rfl rfl rfl (IntWalk.i64_in _ (by omega)) (t_indexArr (j := 2) (2) underlying66 sizeOf65 rfl rfl rfl rfl rfl (by decide) rfl ?_)
 refine go ?_
 refine t_conv underlying65 underlying3 rfl rfl rfl (IntWalk.i64_in _ (by omega)) (t_rem rfl rfl rfl rfl (by omega) (by omega) (t_indexArr (j := 3) (3) underlying66 sizeOf65 rfl rfl rfl rfl rfl (by decide) rfl ?_))
 refine go ?_
 refine t_conv underlying65 underlying3 rfl rfl rfl (IntWalk.i64_in _ (by omega)) (t_rem rfl rfl rfl rfl (by omega) (by omega) (t_indexArr (j := 4) (4) underlying66 sizeOf65 rfl rfl rfl rfl rfl (by decide) rfl ?_))
 refine go ?_
 refine t_conv underlying65 underlying3 rfl rfl rfl (IntWalk.i64_in _ (by omega)) ?_
 refine go ?_
 refine t_indexArr (j := 4) (4) underlying66 sizeOf65 rfl rfl rfl rfl rfl (by decide) rfl ?_
 refine go ?_
 refine t_conv underlying65 underlying3 rfl rfl rfl (IntWalk.i64_in _ (by omega)) ?_
 refine go ?_
 refine t_indexArr (j := 5) (5) underlying66 sizeOf65 rfl rfl rfl rfl rfl (by decide) rfl ?_
 refine go ?_
 refine t_conv underlying65 underlying3 rfl rfl rfl (IntWalk.i64_in _ (by omega)) (t_rem rfl rfl rfl rfl (by omega) (by omega) (t_indexArr (j := 5) (5) underlying66 sizeOf65 rfl rfl rfl rfl rfl (by decide) rfl ?_))
 refine go ?_
 refine t_conv underlying65 underlying3 rfl rfl rfl (IntWalk.i64_in _ (by omega)) (t_rem rfl rfl rfl rfl (by omega) (by omega) ?_)
 refine go ?_
 refine t_indexArr (j := 3) (3) underlying66 sizeOf65 rfl rfl rfl rfl rfl (by decide) rfl ?_
 refine go ?_
 refine t_conv underlying65 underlying3 rfl rfl rfl (IntWalk.i64_in _ (by omega)) (t_rem rfl rfl rfl rfl (by omega) (by omega) ?_)
 refine go ?_
 refine x_l fun bk23 w24 ebk23 sbk23 B25 u26 => ?_
 refine go ?_
 refine x_s fun w28 sw28 B30 u29 => ?_
 refine go ?_
 refine f_ret1 (v := .agg #[.int .i64 (x.p0 % 5), .int .i64 (x.p1 % 5), .int .i64 (x.p2 % 5), .int .i64 x.t0, .int .i64 x.t1, .int .i64 (x.t2 % 2000), .int .i64 (x.t3 % 300), .int .i64 (3 * x.t4), .int .i64 (2 * x.t4), .int .i64 (x.t5 % 101), .slice (some ⟨bk23, 0, none⟩) 2 2]) results30 ⟨_, _, rfl, run_loadVarN (vs := [.int .i64 (x.p0 % 5), .int .i64 (x.p1 % 5), .int .i64 (x.p2 % 5), .int .i64 x.t0, .int .i64 x.t1, .int .i64 (x.t2 % 2000), .int .i64 (x.t3 % 300), .int .i64 (3 * x.t4), .int .i64 (2 * x.t4), .int .i64 (x.t5 % 101), .slice (some ⟨bk23, 0, none⟩) 2 2]) isAgg78 sizeOf78 rfl (B30.at.sub 0 11)⟩ ?_
 have B32 := (B25.keep u29 (by omega))
 exact ⟨⟨bk23, rfl, by omega, Sl.ofBlk (enc := encLow) (xs := tmW x) (fun _ => rfl) B32⟩, u_d⟩

set_option maxHeartbeats 4000000 in
theorem report_c (x : Cll) (ss : List T2) (al : Option Addr) (bl ol cl : Nat) (c : Int) (cor : Bool) (w0 : World) (hx : okCll x) (hl : Sl encU2 2 w0 al bl ol ss) (hll : ss.length ≤ 9223372036854775807) (hss : ∀ x ∈ ss, okU2 x) (_hc : 0 ≤ c ∧ c ≤ 100) :
    CallsV Tryz.prog 26 [.agg #[.int .u8 x.p0, .int .u8 x.p1, .int .u8 x.p2, .int .u16 x.t0, .int .u16 x.t1, .int .u16 x.t2, .int .u16 x.t3, .int .u16 x.t4, .int .u16 x.t5, .int .u16 x.n, .slice al ss.length cl, .int .u16 x.e, .int .u16 x.v0, .int .u16 x.v1], .int .i64 c, .bool cor] w0 (fun v w' => (∃ ao g cp, v = .slice ao (List.length (rpP c cor x ss)) cp ∧ Sl encMsg 6 w' ao g 0 (rpP c cor x ss) ∧ w0.heap.size ≤ g ∧ w0.heap.size < w'.heap.size) ∧ Ext w0 w') := by
 unfold okCll at hx
 refine f_n func26 ?_
 refine go ?_
 refine x_b fun bk2 w3 ebk2 sbk2 B4 u5 => ?_
 refine go ?_
 refine t_conv underlying65 underlying3 rfl rfl rfl (IntWalk.i64_in _ (by omega)) (t_rem rfl rfl rfl rfl (by omega) (by omega) ?_)
 refine go ?_
 refine x_l fun bk9 w10 ebk9 sbk9 B11 u12 => ?_
 refine go ?_
 refine x_l4 (fun i => bk9 ≤ i) [1, 2, 3] (fun (k : Nat) (ao : Option Addr) (gw : Nat) (co : Nat) => [(7, .int .i64 (rpA (x.n % 1000) ss k)), (8, .slice ao ((rpL c cor (x.n % 1000) ss k).length) co), (9, .int .i64 (k : Int))]) (fun k ao gw co w => (k ≤ ss.length ∧ k ≤ 8) ∧ (Acc encMsg 6 111 bk9 w ao gw co (rpL c cor (x.n % 1000) ss k))) (fun k ao gw co => 8 - k) 0 (some ⟨bk9, 0, none⟩) bk9 1 ⟨(by omega), (Acc.ofBlk (xs := [(⟨c, 1, 0, 1, x.n % 1000, 0⟩ : Msg)]) encMsg 6 (fun _ => rfl) B11 (Nat.le_refl _) (by simp))⟩ ?_
 rintro k ao gw co w17 ⟨hk, hout⟩ u18 zu18 K16 hK16
 have lt_gw := hout.lt
 have hol := rpL_len (c := c) (cor := cor) (a := x.n % 1000) (ss := ss) k
 have hra := rpA_bd (a := x.n % 1000) (by omega) hss (k := k) hk.1
 refine st1 ?_
 refine x_k1 (fun _ => False) [1, 2, 3, 7, 8, 9] (fun (qa : Bool) => [(26, .bool qa)]) (fun qa w => (qa = true ↔ (k < ss.length ∧ k < 8))) (fun K25 hK25 => ?_) ?_
 ·
  refine go ?_
  refine t_splitp 23 rfl (fun g23 => ?_) (fun g23 => ?_)
  ·
   refine go ?_
   exact hK25 (decide ((k : Int) < 8)) (by rw [decide_eq_true_eq]; omega)
  refine go ?_
  exact hK25 false (⟨fun h => (by cases h), fun h => absurd h (by omega)⟩)
 rintro qa w26 hqa u27 zu27
 have E28 := Sc.mk (((((Upd.refl (fun _ => False) w0).nx u5).nx u12).next u18 (fun i hi (h : bk9 ≤ i) => show False by first | omega | assumption)).nx u27)
 refine q_b (fun g26 => ?_) fun g26 => ?_
 ·
  have hqa9 := hqa.1 g26
  have hp9 := hl.lt (by omega)
  have hx9 := hss _ (nth_mem (xs := ss) (i := k) (by omega))
  unfold okU2 at hx9
  refine go ?_
  refine g_i k (hl.keep E28.u (fun _ h => h)) (fun _ => ?_)
  refine t_indexArr (j := 0) (ol + k * 2 + 0) underlying86 sizeOf5 rfl rfl rfl rfl rfl (by decide) rfl ?_
  refine go ?_
  refine t_conv underlying5 underlying3 rfl rfl rfl (IntWalk.i64_in _ (by omega)) ?_
  refine go ?_
  refine x_l fun bk33 w34 ebk33 sbk33 B35 u36 => ?_
  have D38 := ((hout.keep u27 (fun _ h => h)).keep u36 (fun _ h => h))
  refine t_append (z := .agg #[.int .i64 0, .int .i64 0, .int .i64 0, .int .i64 0, .int .i64 0, .int .i64 0]) (bytes := 48) (k := 6) (base := bk9) (⟨c, 10 + 2 * (k : Int), 2, 2, ((rpA (x.n % 1000) ss k) + (nth ss k).a), 0⟩ : Msg) underlying53 (by kernel_rfl) rfl (by decide) (fun _ => rfl) (by intro x; simp [encMsg, Value.oneCell']) rfl rfl rfl rfl D38 B35 (by first | omega | (simp only [List.length_append, List.length_cons, List.length_nil]; omega)) (by first | omega | (simp only [List.length_append, List.length_cons, List.length_nil]; omega)) (by decide) (fun ao39 gb40 cp41 w42 A43 u44 gegb40 lngb40 => ?_)
  have zu44 := u44.size
  have E45 := Sc.mk ((E28.u.nx u36).next u44 (fun i hi h => by omega))
  have lt_gb40 := A43.lt
  refine go ?_
  refine q_b (fun g47 => ?_) fun g47 => ?_
  ·
   refine go ?_
   refine x_l fun bk48 w49 ebk48 sbk48 B50 u51 => ?_
   have D53 := (A43.keep u51 (fun _ h => h))
   refine t_append (z := .agg #[.int .i64 0, .int .i64 0, .int .i64 0, .int .i64 0, .int .i64 0, .int .i64 0]) (bytes := 48) (k := 6) (base := bk9) (⟨c, 10 + 2 * (k : Int), 1, 4, ((rpA (x.n % 1000) ss k) + (nth ss k).a) + 3, 0⟩ : Msg) underlying53 (by kernel_rfl) rfl (by decide) (fun _ => rfl) (by intro x; simp [encMsg, Value.oneCell']) rfl rfl rfl rfl D53 B50 (by first | omega | (simp only [List.length_append, List.length_cons, List.length_nil]; omega)) (by first | omega | (simp only [List.length_append, List.length_cons, List.length_nil]; omega)) (by decide) (fun ao54 gb55 cp56 w57 A58 u59 gegb55 lngb55 => ?_)
   have zu59 := u59.size
   have lt_gb55 := A58.lt
   refine go ?_
   refine g_i k (hl.keep ((E45.u.nx u51).next u59 (fun i hi h => by omega)) (fun _ h => h)) (fun _ => ?_)
   refine t_indexArr (j := 1) (ol + k * 2 + 1) underlying86 sizeOf5 rfl rfl rfl rfl rfl (by decide) rfl ?_
   refine go ?_
   refine t_conv underlying5 underlying3 rfl rfl rfl (IntWalk.i64_in _ (by omega)) ?_
   refine go ?_
   refine x_l fun bk63 w64 ebk63 sbk63 B65 u66 => ?_
   have D68 := (A58.keep u66 (fun _ h => h))
   refine t_append (z := .agg #[.int .i64 0, .int .i64 0, .int .i64 0, .int .i64 0, .int .i64 0, .int .i64 0]) (bytes := 48) (k := 6) (base := bk9) (⟨c, 11 + 2 * (k : Int), 0, 3, ((rpA (x.n % 1000) ss k) + (nth ss k).a) + (nth ss k).b, 0⟩ : Msg) underlying53 (by kernel_rfl) rfl (by decide) (fun _ => rfl) (by intro x; simp [encMsg, Value.oneCell']) rfl rfl rfl rfl D68 B65 (by first | omega | (simp only [List.length_append, List.length_cons, List.length_nil]; omega)) (by first | omega | (simp only [List.length_append, List.length_cons, List.length_nil]; omega)) (by decide) (fun ao69 gb70 cp71 w72 A73 u74 gegb70 lngb70 => ?_)
   have zu74 := u74.size
   have lt_gb70 := A73.lt
   refine go ?_
   have hst9 : (rpL c cor (x.n % 1000) ss (k + 1)) = ((((rpL c cor (x.n % 1000) ss k) ++ [(⟨c, 10 + 2 * (k : Int), 2, 2, ((rpA (x.n % 1000) ss k) + (nth ss k).a), 0⟩ : Msg)]) ++ [(⟨c, 10 + 2 * (k : Int), 1, 4, ((rpA (x.n % 1000) ss k) + (nth ss k).a) + 3, 0⟩ : Msg)]) ++ [(⟨c, 11 + 2 * (k : Int), 0, 3, ((rpA (x.n % 1000) ss k) + (nth ss k).a) + (nth ss k).b, 0⟩ : Msg)]) := by rw [rpL, if_pos g47]
   exact hK16 (k + 1) ao69 gb70 cp71 ⟨(by omega), (by rw [hst9]; exact A73)⟩ (hs := by exact ⟨rfl, (by rw [hst9]; rfl), rfl, rfl, rfl, rfl, trivial⟩) (hu := (((((((u18.nx u27).nx u36).next u44 (fun i hi (h : (i = gw ∧ bk9 ≤ i)) => show bk9 ≤ i by first | omega | assumption)).nx u51).next u59 (fun i hi (h : (i = gb40 ∧ bk9 ≤ i)) => show bk9 ≤ i by first | omega | assumption)).nx u66).next u74 (fun i hi (h : (i = gb55 ∧ bk9 ≤ i)) => show bk9 ≤ i by first | omega | assumption)))
  refine go ?_
  refine g_i k (hl.keep E45.u (fun _ h => h)) (fun _ => ?_)
  refine t_indexArr (j := 1) (ol + k * 2 + 1) underlying86 sizeOf5 rfl rfl rfl rfl rfl (by decide) rfl ?_
  refine go ?_
  refine t_conv underlying5 underlying3 rfl rfl rfl (IntWalk.i64_in _ (by omega)) ?_
  refine go ?_
  refine x_l fun bk78 w79 ebk78 sbk78 B80 u81 => ?_
  have D83 := (A43.keep u81 (fun _ h => h))
  refine t_append (z := .agg #[.int .i64 0, .int .i64 0, .int .i64 0, .int .i64 0, .int .i64 0, .int .i64 0]) (bytes := 48) (k := 6) (base := bk9) (⟨c, 11 + 2 * (k : Int), 0, 3, ((rpA (x.n % 1000) ss k) + (nth ss k).a) + (nth ss k).b, 0⟩ : Msg) underlying53 (by kernel_rfl) rfl (by decide) (fun _ => rfl) (by intro x; simp [encMsg, Value.oneCell']) rfl rfl rfl rfl D83 B80 (by first | omega | (simp only [List.length_append, List.length_cons, List.length_nil]; omega)) (by first | omega | (simp only [List.length_append, List.length_cons, List.length_nil]; omega)) (by decide) (fun ao84 gb85 cp86 w87 A88 u89 gegb85 lngb85 => ?_)
  have zu89 := u89.size
  have lt_gb85 := A88.lt
  refine go ?_
  have hst9 : (rpL c cor (x.n % 1000) ss (k + 1)) = (((rpL c cor (x.n % 1000) ss k) ++ [(⟨c, 10 + 2 * (k : Int), 2, 2, ((rpA (x.n % 1000) ss k) + (nth ss k).a), 0⟩ : Msg)]) ++ [(⟨c, 11 + 2 * (k : Int), 0, 3, ((rpA (x.n % 1000) ss k) + (nth ss k).a) + (nth ss k).b, 0⟩ : Msg)]) := by rw [rpL, if_neg (by rw [g47]; exact Bool.false_ne_true), List.append_nil]
  exact hK16 (k + 1) ao84 gb85 cp86 ⟨(by omega), (by rw [hst9]; exact A88)⟩ (hs := by exact ⟨rfl, (by rw [hst9]; rfl), rfl, rfl, rfl, rfl, trivial⟩) (hu := (((((u18.nx u27).nx u36).next u44 (fun i hi (h : (i = gw ∧ bk9 ≤ i)) => show bk9 ≤ i by first | omega | assumption)).nx u81).next u89 (fun i hi (h : (i = gb40 ∧ bk9 ≤ i)) => show bk9 ≤ i by first | omega | assumption)))
 have hqb9 : ¬ (k < ss.length ∧ k < 8) := fun q => by rw [hqa.2 q] at g26; cases g26
 have hkm : k = min ss.length 8 := by omega
 refine go ?_
 refine t_conv underlying65 underlying3 rfl rfl rfl (IntWalk.i64_in _ (by omega)) (t_rem rfl rfl rfl rfl (by omega) (by omega) ?_)
 refine go ?_
 refine t_indexArr (j := 0) (12) underlying68 sizeOf65 rfl rfl rfl rfl rfl (by decide) rfl ?_
 refine go ?_
 refine t_conv underlying65 underlying3 rfl rfl rfl (IntWalk.i64_in _ (by omega)) ?_
 refine go ?_
 refine t_indexArr (j := 1) (13) underlying68 sizeOf65 rfl rfl rfl rfl rfl (by decide) rfl ?_
 refine go ?_
 refine t_conv underlying65 underlying3 rfl rfl rfl (IntWalk.i64_in _ (by omega)) (t_rem rfl rfl rfl rfl (by omega) (by omega) ?_)
 refine go ?_
 refine x_l fun bk93 w94 ebk93 sbk93 B95 u96 => ?_
 refine t_same 99 (v := .slice (some ⟨bk93, 0, none⟩) 3 3) rfl rfl ?_
 have D98 := ((hout.keep u27 (fun _ h => h)).keep u96 (fun _ h => h))
 refine t_appendAll (enc := encMsg) (z := .agg #[.int .i64 0, .int .i64 0, .int .i64 0, .int .i64 0, .int .i64 0, .int .i64 0]) (bytes := 48) (k := 6) (base := bk9) (xs := (rpL c cor (x.n % 1000) ss k)) (ys := [(⟨c, 500, 0, 4, (rpA (x.n % 1000) ss k) + x.e % 2500, 0⟩ : Msg), ⟨c, 600, 0, 5, 7, x.v0⟩, ⟨c, 601, 0, 6, 9, x.v1 % 400⟩]) underlying53 (by kernel_rfl) rfl (by decide) (fun _ => rfl) (by intro x; simp [encMsg, Value.oneCell']) rfl rfl rfl rfl D98 (Sl.ofBlk (enc := encMsg) (xs := [(⟨c, 500, 0, 4, (rpA (x.n % 1000) ss k) + x.e % 2500, 0⟩ : Msg), ⟨c, 600, 0, 5, 7, x.v0⟩, ⟨c, 601, 0, 6, 9, x.v1 % 400⟩]) (fun _ => rfl) B95) (by omega) (by first | omega | (simp only [List.length_append, List.length_cons, List.length_nil]; omega)) (by first | omega | (simp only [List.length_cons, List.length_nil]; omega)) (by decide) (fun ao99 gb100 cp101 w102 A103 u104 gegb100 lngb100 => ?_)
 have zu104 := u104.size
 have lt_gb100 := A103.lt
 refine go ?_
 refine q_b (fun g101 => ?_) fun g101 => ?_
 ·
  refine go ?_
  refine x_l fun bk108 w109 ebk108 sbk108 B110 u111 => ?_
  refine t_same 107 (v := .slice (some ⟨bk108, 0, none⟩) 2 2) rfl rfl ?_
  have D113 := (A103.keep u111 (fun _ h => h))
  refine t_appendAll (enc := encMsg) (z := .agg #[.int .i64 0, .int .i64 0, .int .i64 0, .int .i64 0, .int .i64 0, .int .i64 0]) (bytes := 48) (k := 6) (base := bk9) (xs := ((rpL c cor (x.n % 1000) ss k) ++ [(⟨c, 500, 0, 4, (rpA (x.n % 1000) ss k) + x.e % 2500, 0⟩ : Msg), ⟨c, 600, 0, 5, 7, x.v0⟩, ⟨c, 601, 0, 6, 9, x.v1 % 400⟩])) (ys := [(⟨c, 700, 0, 1, 0, 0⟩ : Msg), ⟨c, 700, 9, 7, 5, 0⟩]) underlying53 (by kernel_rfl) rfl (by decide) (fun _ => rfl) (by intro x; simp [encMsg, Value.oneCell']) rfl rfl rfl rfl D113 (Sl.ofBlk (enc := encMsg) (xs := [(⟨c, 700, 0, 1, 0, 0⟩ : Msg), ⟨c, 700, 9, 7, 5, 0⟩]) (fun _ => rfl) B110) (by omega) (by first | omega | (simp only [List.length_append, List.length_cons, List.length_nil]; omega)) (by first | omega | (simp only [List.length_cons, List.length_nil]; omega)) (by decide) (fun ao114 gb115 cp116 w117 A118 u119 gegb115 lngb115 => ?_)
  have zu119 := u119.size
  have lt_gb115 := A118.lt
  refine go ?_
  refine f_1 results26 ?_
  have hend : rpP c cor x ss = (((rpL c cor (x.n % 1000) ss k) ++ [(⟨c, 500, 0, 4, (rpA (x.n % 1000) ss k) + x.e % 2500, 0⟩ : Msg), ⟨c, 600, 0, 5, 7, x.v0⟩, ⟨c, 601, 0, 6, 9, x.v1 % 400⟩]) ++ [(⟨c, 700, 0, 1, 0, 0⟩ : Msg), ⟨c, 700, 9, 7, 5, 0⟩]) := by rw [rpP, ← hkm, if_pos g101]
  have hA9 := A118
  have hG9 := hA9.ge (by simp)
  exact ⟨⟨_, _, _, by first | (rw [hend]; done) | (rw [hend]; rfl), (by rw [hend]; exact hA9.sl (fun _ => rfl)), by omega, by omega⟩, u_d⟩
 refine go ?_
 refine f_1 results26 ?_
 have hend : rpP c cor x ss = ((rpL c cor (x.n % 1000) ss k) ++ [(⟨c, 500, 0, 4, (rpA (x.n % 1000) ss k) + x.e % 2500, 0⟩ : Msg), ⟨c, 600, 0, 5, 7, x.v0⟩, ⟨c, 601, 0, 6, 9, x.v1 % 400⟩]) := by rw [rpP, ← hkm, if_neg (by rw [g101]; exact Bool.false_ne_true), List.append_nil]
 have hA9 := A103
 have hG9 := hA9.ge (by simp)
 exact ⟨⟨_, _, _, by first | (rw [hend]; done) | (rw [hend]; rfl), (by rw [hend]; exact hA9.sl (fun _ => rfl)), by omega, by omega⟩, u_d⟩

end Go.Proofs.YtgoajalaomakpaaGreat
