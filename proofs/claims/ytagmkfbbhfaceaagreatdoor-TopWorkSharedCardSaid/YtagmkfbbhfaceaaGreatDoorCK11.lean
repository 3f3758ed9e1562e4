/-
  Part 11 of the proof: contracts and plain laws. Conditions: none.
-/
import Derived.Test.YtagmkfbbhfaceaaGreatDoorCK10
namespace Go.Proofs.YtagmkfbbhfaceaaGreatDoor
open Go Go.RowKit Go.Proofs.Tryz
set_option maxRecDepth 10000
/-! ### a map from numbers to functions -/
def kvV (p : Int × Value) : Value × Value := (.int .i64 p.1, p.2)
def MapV (m : List (Int × Value)) (w : World) (r : Nat) : Prop := ∃ es c, w.heap[r]? = some (.map es c) ∧ es.toList.map (fun e => (e.key, e.val)) = m.map kvV
theorem MapV.keep {m : List (Int × Value)} {w w' : World} {r : Nat} {S : Nat → Prop} (h : MapV m w r) (u : Upd S w w') (hn : ¬ S r) : MapV m w' r := by
  obtain ⟨es, c, h1, h2⟩ := h
  exact ⟨es, c, (u.block r (lt_of_block h1) hn).trans h1, h2⟩
theorem MapV.ofMemo {w : World} {r : Nat} (h : ∀ F, Memo F w r) : MapV [] w r := by
  obtain ⟨es, c, h1, h2⟩ := h (fun _ _ _ => False)
  have he : es.toList = [] := by
    cases he : es.toList with
    | nil => rfl
    | cons e l => obtain ⟨_, _, _, hf⟩ := h2 e (by rw [he]; simp); exact hf.elim
  exact ⟨es, c, h1, by rw [he]; rfl⟩
def fV : List (Int × Value) → Int → Nat → Option (Nat × Value)
  | [], _, _ => none
  | p :: m, a, i => if a = p.1 then some (i, p.2) else fV m a (i + 1)
theorem findNowV {a : Int} : ∀ (m : List (Int × Value)) (es : List MapEntry) (i : Nat), es.map (fun e => (e.key, e.val)) = m.map kvV → Instr.findNow (.int .i64) (.int .i64 a) es i = some (fV m a i)
  | [], [], i, _ => rfl
  | [], _ :: _, _, h => by simp at h
  | _ :: _, [], _, h => by simp at h
  | p :: m, e :: es, i, h => by
    simp only [List.map_cons, List.cons.injEq, kvV, Prod.mk.injEq] at h
    obtain ⟨⟨hk, hv⟩, h⟩ := h
    have ih := findNowV (a := a) m es (i + 1) h
    by_cases q : a = p.1
    · simp [Instr.findNow, hk, hv, Instr.sameNow, fV, q]
    · have hs : Instr.sameNow (.int .i64) (.int .i64 a) e.key = some false := by rw [hk]; simp [Instr.sameNow, q]
      rw [Instr.findNow, hs]
      simp only [fV, if_neg q]
      exact ih
section
variable {rd : Option Nat} {P : Program} {ops : Array Oper} {Q : Exit → Act → World → Prop} {N : Nat} {ds : List Deferred} {rest : List Oper} {L : Slots} {w : World}
variable {d : Nat} {ty : TypeId} {pos : String} {aft : Array Edge} {g : Option (Nat × Bool)}
theorem findKeyV {K : TypeId} {m : List (Int × Value)} {es : List MapEntry} (hK : P.underlying K = some (.int .i64)) (h : es.map (fun e => (e.key, e.val)) = m.map kvV) (a : Int) (w : World) : (Instr.findKey K (.int .i64 a) es).run P w = .ok (fV m a 0) w := by
  simp [Instr.findKey, run_underlying hK, findNowV m es 0 h]
theorem t_lookupV {T K E : TypeId} {x i : Operand} {r : Nat} {a : Int} {m : List (Int × Value)} {z : Value} (v : Value) (hv : (match fV m a 0 with | none => z | some p => p.2) = v) (hK : P.underlying K = some (.int .i64)) (hu : P.underlying T = some (.map K E)) (hz : ∀ w, (zeroValue E).run P w = .ok z w)
    (hg : grd ops L g = true) (hN : Nat.blt d N = true) (hx : ev L x = some (.map (some r))) (hi : ev L i = some (.int .i64 a)) (hm : MapV m w r)
    (h : WL rd P ops Q N ds rest ((d, v) :: L) w) : WL rd P ops Q N ds (⟨some d, .lookup T x i false, ty, pos, aft, g⟩ :: rest) L w := by
  subst hv
  obtain ⟨es, c, h1, h2⟩ := hm
  have hgo : (getObj r).run P w = .ok (.map es c) w := by simp [getObj, Sem.run, h1]
  have hj := fun w => findKeyV (P := P) hK h2 a w
  cases hf : fV m a 0 with
  | none =>
    rw [hf] at h hj
    refine WL.value hg rfl hN (fun a hk => ?_) h
    simp only [execOp, hk.ev hx, hk.ev hi]
    simp [Instr.lookup, run_underlying hu, hgo, checkKeyI hK, hj, hz]
  | some p =>
    rw [hf] at h hj
    refine WL.value hg rfl hN (fun a hk => ?_) h
    simp only [execOp, hk.ev hx, hk.ev hi]
    simp [Instr.lookup, run_underlying hu, hgo, checkKeyI hK, hj]
/-- an element of a map literal, its key a new one -/
theorem t_insV {T K E : TypeId} {x i y : Operand} {r : Nat} {a : Int} {v : Value} {m : List (Int × Value)} (hf : fV m a 0 = none) (hK : P.underlying K = some (.int .i64)) (hu : P.underlying T = some (.map K E))
    (hg : grd ops L g = true) (hx : ev L x = some (.map (some r))) (hi : ev L i = some (.int .i64 a)) (hy : ev L y = some v) (hm : MapV m w r)
    (h : ∀ w', w'.heap.size = w.heap.size → MapV (m ++ [(a, v)]) w' r → Upd (· = r) w w' → WL rd P ops Q N ds rest L w') : WL rd P ops Q N ds (⟨none, .insert T x i y, ty, pos, aft, g⟩ :: rest) L w := by
  obtain ⟨es, c, h1, h2⟩ := hm
  have hlt := lt_of_block h1
  have hgo : (getObj r).run P w = .ok (.map es c) w := by simp [getObj, Sem.run, h1]
  have hset : ∀ o, (setObj r o).run P w = .ok () { w with heap := w.heap.setIfInBounds r o } := fun o => by simp [setObj, Sem.run, h1]
  have hupd : ∀ o, Upd (· = r) w { w with heap := w.heap.setIfInBounds r o } := fun o => ⟨rfl, rfl, rfl, by simp, fun k hk hn => by simp [Array.getElem?_setIfInBounds_ne (show r ≠ k from fun e => hn e.symm)]⟩
  have hj := fun w => findKeyV (P := P) hK h2 a w
  rw [hf] at hj
  refine WL.effect (w' := { w with heap := w.heap.setIfInBounds r (.map (es.push { key := .int .i64 a, val := v, born := c }) (c + 1)) }) hg rfl (fun ac hk => ?_) (h _ (by simp) ⟨_, _, by simp [hlt]; exact ⟨rfl, rfl⟩, ?_⟩ (hupd _))
  · simp only [execOp, hk.ev hx, hk.ev hi, hk.ev hy]
    simp [Instr.mapUpdate, run_underlying hu, hgo, checkKeyI hK, hj, hset]
  · rw [Array.toList_push, List.map_append, h2, List.map_append]; rfl
theorem t_nilF {xt yt : TypeId} {x y : Operand} {v : Value} {ps rs vr} (b : Bool) (hb : (v = .nilFunc ∧ b = true) ∨ (∃ f s c, v = .func f s c ∧ b = false)) (hu : P.underlying xt = some (.func ps rs vr)) (hg : grd ops L g = true) (hN : Nat.blt d N = true)
    (hx : ev L x = some v) (hy : ev L y = some .nilFunc) (h : WL rd P ops Q N ds rest ((d, .bool b) :: L) w) : WL rd P ops Q N ds (⟨some d, .binOp .eql xt x y yt, ty, pos, aft, g⟩ :: rest) L w :=
  WL.value hg rfl hN (fun a hk => by
    have h9 : ∀ n : Nat, (Op.equalIn (n + 1) xt v .nilFunc).run P w = .ok b w := fun n => by
      rcases hb with ⟨rfl, rfl⟩ | ⟨f, s, c, rfl, rfl⟩ <;> simp [Op.equalIn, run_underlying hu]
    have h8 : (binOp .eql xt v .nilFunc).run P w = .ok (.bool b) w := by
      simp only [binOp]
      simp [Op.equal, Op.maxDepth, h9 9999]
    rcases hb with ⟨rfl, rfl⟩ | ⟨f, s, c, rfl, rfl⟩ <;> simp [execOp, hk.ev hx, hk.ev hy, eqGuard, h8]) h
end
/-- what an entry does -/
def stepP (S : Sea) (x : Ent) : Int × Sea :=
  if okEnt x = false then (2, S) else if x.m < S.m then (9, S) else if x.k = 1 then buildP S x else if isK (fun h : Hul => h.n) x.h S.hs = true then
    (if x.k = 2 then loadP S (posK (fun h : Hul => h.n) x.h S.hs) x else if x.k = 3 then sailP S (posK (fun h : Hul => h.n) x.h S.hs) x else unloadP S (posK (fun h : Hul => h.n) x.h S.hs) x) else (7, S)
set_option maxHeartbeats 4000000 in
theorem step0_c (base sb m : Nat) (V : SG) (T : Int) (x : Ent) (k : Nat) (bb : Bool) (w0 : World) (hM : SeaM base sb w0 V) (hok : SeaOk T V.st) (hmm : SeaL m V) (hmw : m ≤ w0.heap.size) (hb0 : 0 < base) (_hbs : base ≤ w0.heap.size) (hkd : posK (fun x : HR => x.n) x.h V.rs = k) (hbb : isK (fun x : HR => x.n) x.h V.rs = bb) :
    CallsV Tryz.prog 55 [.pointer (some ⟨sb, 0, none⟩), .agg #[.int .i64 x.m, .int .i64 x.k, .int .i64 x.h, .int .i64 x.p, .int .i64 x.b, .int .i64 x.t]] w0 (fun v w' => (∃ V', v = .int .i64 (stepP V.st x).1 ∧ SeaM base sb w' V' ∧ V'.st = (stepP V.st x).2) ∧ Upd (fun i => i = sb ∨ (base ≤ i ∧ i < m)) w0 w') := by
 have hB : Blk w0 sb 146 [.int .i64 V.m, .slice V.ah V.rs.length V.ch, .slice V.al V.ld.length V.cl, .slice V.au V.un.length V.cu, .int .i64 V.wk] := hM.blk
 have hH := hM.hacc
 have lt_gh := hH.lt
 have lt_sb := hB.lt
 have hsge := hM.sge
 have hrl := hok.rlen
 have hsg : V.gh < base ∨ V.gh < sb ∨ sb < V.gh := by
   rcases Nat.lt_or_ge V.gh base with q | q
   · exact .inl q
   · have := hH.neB hB (by decide) q; omega
 have hbi : bb = true ↔ k < V.rs.length ∧ (nth V.rs k).n = x.h := by rw [← hbb, isK_iff, hkd]
 refine f_n func55 ?_
 refine go ?_
 refine x_b fun bk2 w3 ebk2 sbk2 B4 u5 => ?_
 refine go ?_
 refine x_c func70 rfl rfl (isEntry_c x _) ?_
 rintro _ w10 ⟨rfl, u11⟩ zu11
 refine go ?_
 refine q_b (fun g8 => ?_) fun g8 => ?_
 ·
  have hx : okEnt x = false := by simpa using g8
  refine go ?_
  refine f_1 results55 ?_
  have he : stepP V.st x = (2, V.st) := by unfold stepP; rw [if_pos hx]
  exact ⟨⟨V, by rw [he], (hM.ext (((Upd.refl (fun _ => False) _).nx u5).nx u11)), by rw [he]⟩, u_d⟩
 have hx : okEnt x = true := by simpa using g8
 have hx9 := okEnt_iff hx
 have hk4 : x.k = 1 ∨ x.k = 2 ∨ x.k = 3 ∨ x.k = 4 := by omega
 refine go ?_
 refine c_drawnM follows (fun _ => False) (OTl [0, 2, 4, 6, 8, 10, 12, 14, 16]) (by kernel_rfl) fun w16 u17 => ?_
 have zu17 := u17.size
 refine go ?_
 refine q_p (fun g12 => ?_) fun g12 => ?_
 ·
  refine go ?_
  refine f_1 results55 ?_
  have hx0 : ¬ okEnt x = false := by rw [hx]; decide
  have hm1 : x.m < V.st.m := g12
  have he : stepP V.st x = (9, V.st) := by unfold stepP; rw [if_neg hx0, if_pos hm1]
  exact ⟨⟨V, by rw [he], (hM.ext ((((Upd.refl (fun _ => False) _).nx u5).nx u11).nx u17)), by rw [he]⟩, u_d⟩
 refine go ?_
 refine t_makemap rfl rfl (fun bk21 w22 ebk21 sbk21 M23 u24 => ?_)
 have M23v := MapV.ofMemo M23
 have zu24 := u24.size
 refine go ?_
 refine t_mkfunc (vs := [.pointer (some ⟨sb, 0, none⟩)]) (us := []) rfl rfl rfl rfl (t_insV (m := []) rfl underlying39 underlying199 rfl rfl rfl rfl M23v (fun w26 sw26 M27 u28 => ?_))
 refine go ?_
 refine t_mkfunc (vs := [.pointer (some ⟨sb, 0, none⟩)]) (us := []) rfl rfl rfl rfl (t_insV (m := [(2, .func (.func 92) #[.pointer (some ⟨sb, 0, none⟩)] #[])]) rfl underlying39 underlying199 rfl rfl rfl rfl M27 (fun w30 sw30 M31 u32 => ?_))
 refine go ?_
 refine t_mkfunc (vs := [.pointer (some ⟨sb, 0, none⟩)]) (us := []) rfl rfl rfl rfl (t_insV (m := [(2, .func (.func 92) #[.pointer (some ⟨sb, 0, none⟩)] #[]), (3, .func (.func 93) #[.pointer (some ⟨sb, 0, none⟩)] #[])]) rfl underlying39 underlying199 rfl rfl rfl rfl M31 (fun w34 sw34 M35 u36 => ?_))
 refine go ?_
 rcases hk4 with hkk | hkk | hkk | hkk
 ·
  refine t_lookupV (m := [(2, .func (.func 92) #[.pointer (some ⟨sb, 0, none⟩)] #[]), (3, .func (.func 93) #[.pointer (some ⟨sb, 0, none⟩)] #[]), (4, .func (.func 94) #[.pointer (some ⟨sb, 0, none⟩)] #[])]) (.nilFunc) (by rw [hkk]; rfl) underlying39 underlying199 zeroValue198 rfl rfl rfl rfl M35 ?_
  refine go ?_
  refine t_nilF true (.inl ⟨rfl, rfl⟩) underlying198 rfl rfl rfl rfl ?_
  refine go ?_
  refine x_c func95 rfl rfl (build_c base sb m V T x _ (hM.ext ((((((((Upd.refl (fun _ => False) _).nx u5).nx u11).nx u17).nx u24).next u28 (fun i hi (h : i = bk21) => show False by first | omega | assumption)).next u32 (fun i hi (h : i = bk21) => show False by first | omega | assumption)).next u36 (fun i hi (h : i = bk21) => show False by first | omega | assumption))) hok hmm (by omega) hx (by omega) (by omega)) ?_
  rintro _ w42 ⟨⟨V9, rfl, hM9, hst9⟩, u43⟩ zu43
  refine go ?_
  refine f_1 results55 ?_
  have hx0 : ¬ okEnt x = false := by rw [hx]; decide
  have hm0 : ¬ x.m < V.st.m := g12
  have hbk : isK (fun h : Hul => h.n) x.h V.st.hs = bb ∧ posK (fun h : Hul => h.n) x.h V.st.hs = k := ⟨(isK_map HR.hul (fun h : Hul => h.n) x.h V.rs).trans hbb, (posK_map HR.hul (fun h : Hul => h.n) x.h V.rs).trans hkd⟩
  have he : stepP V.st x = buildP V.st x := by unfold stepP; rw [if_neg hx0, if_neg hm0, if_pos hkk]
  exact ⟨⟨V9, by rw [he], hM9, by rw [he]; exact hst9⟩, u_d⟩
 ·
  refine t_lookupV (m := [(2, .func (.func 92) #[.pointer (some ⟨sb, 0, none⟩)] #[]), (3, .func (.func 93) #[.pointer (some ⟨sb, 0, none⟩)] #[]), (4, .func (.func 94) #[.pointer (some ⟨sb, 0, none⟩)] #[])]) (.func (.func 92) #[.pointer (some ⟨sb, 0, none⟩)] #[]) (by rw [hkk]; rfl) underlying39 underlying199 zeroValue198 rfl rfl rfl rfl M35 ?_
  refine go ?_
  refine t_nilF false (.inr ⟨_, _, _, rfl, rfl⟩) underlying198 rfl rfl rfl rfl ?_
  refine go ?_
  refine x_c func96 rfl rfl (by have h9 := find_c base sb V T x.h _ (hM.ext ((((((((Upd.refl (fun _ => False) _).nx u5).nx u11).nx u17).nx u24).next u28 (fun i hi (h : i = bk21) => show False by first | omega | assumption)).next u32 (fun i hi (h : i = bk21) => show False by first | omega | assumption)).next u36 (fun i hi (h : i = bk21) => show False by first | omega | assumption))) hok (by omega); rw [hkd, hbb] at h9; exact h9) ?_
  rintro _ w50 ⟨rfl, u51⟩ zu51
  refine go ?_
  refine q_b (fun g45 => ?_) fun g45 => ?_
  ·
   have hbt : bb = false := by simpa using g45
   refine go ?_
   refine f_1 results55 ?_
   have hx0 : ¬ okEnt x = false := by rw [hx]; decide
   have hm0 : ¬ x.m < V.st.m := g12
   have hbk : isK (fun h : Hul => h.n) x.h V.st.hs = bb ∧ posK (fun h : Hul => h.n) x.h V.st.hs = k := ⟨(isK_map HR.hul (fun h : Hul => h.n) x.h V.rs).trans hbb, (posK_map HR.hul (fun h : Hul => h.n) x.h V.rs).trans hkd⟩
   have he : stepP V.st x = (7, V.st) := by unfold stepP; rw [if_neg hx0, if_neg hm0, if_neg (by omega), hbk.1, hbt, if_neg (by decide)]
   exact ⟨⟨V, by rw [he], (hM.ext (((((((((Upd.refl (fun _ => False) _).nx u5).nx u11).nx u17).nx u24).next u28 (fun i hi (h : i = bk21) => show False by first | omega | assumption)).next u32 (fun i hi (h : i = bk21) => show False by first | omega | assumption)).next u36 (fun i hi (h : i = bk21) => show False by first | omega | assumption)).nx u51)), by rw [he]⟩, u_d⟩
  have hbt : bb = true := by simpa using g45
  have hk := (hbi.1 hbt).1
  refine go ?_
  refine c_drawnM follows (fun i => i = sb ∨ (base ≤ i ∧ i < m)) (.look 0 (.look 1 (.look 2 (.look 3 (.look 4 (.look 6 (.act 5 (.look 7 (.act 8 (.act 9 (.look 10 .done) .stop) .stop)) (.act 8 (.act 5 (.look 7 (.act 9 (.look 10 .done) .stop)) .stop) .stop)))))))) (by kernel_rfl) fun w58 u59 => ?_
  have zu59 := u59.size
  refine go ?_
  refine s_or ?_ ?_
  ·
   refine go ?_
   have D61 := (((((((((hH.keep u5 (fun _ h => h)).keep u11 (fun _ h => h)).keep u17 (fun _ h => h)).keep u24 (fun _ h => h)).keep u28 (fun hb => show ¬ (V.gh = bk21) by first | omega | assumption)).keep u32 (fun hb => show ¬ (V.gh = bk21) by first | omega | assumption)).keep u36 (fun hb => show ¬ (V.gh = bk21) by first | omega | assumption)).keep u51 (fun _ h => h)).keep u59 (fun _ h => h))
   refine y_i k (D61.sl (fun _ => rfl)) (fun _ => ?_)
   refine go ?_
   refine x_c func92 rfl rfl (load_c base sb m V T x k _ (hM.ext ((((((((((Upd.refl (fun _ => False) _).nx u5).nx u11).nx u17).nx u24).next u28 (fun i hi (h : i = bk21) => show False by first | omega | assumption)).next u32 (fun i hi (h : i = bk21) => show False by first | omega | assumption)).next u36 (fun i hi (h : i = bk21) => show False by first | omega | assumption)).nx u51).nx u59)) hok hmm (by omega) hx hk hkk (by omega)) ?_
   rintro _ w64 ⟨⟨V9, rfl, hM9, hst9⟩, u65⟩ zu65
   refine s_next ((Upd.refl _ _).next u65 (fun i hi (h : i = sb ∨ (base ≤ i ∧ i < m)) => show w58.heap.size ≤ i ∨ (i = sb ∨ (base ≤ i ∧ i < m)) by first | omega | exact .inr h)) ?_
   refine go ?_
   refine f_1 results55 ?_
   have hx0 : ¬ okEnt x = false := by rw [hx]; decide
   have hm0 : ¬ x.m < V.st.m := g12
   have hbk : isK (fun h : Hul => h.n) x.h V.st.hs = bb ∧ posK (fun h : Hul => h.n) x.h V.st.hs = k := ⟨(isK_map HR.hul (fun h : Hul => h.n) x.h V.rs).trans hbb, (posK_map HR.hul (fun h : Hul => h.n) x.h V.rs).trans hkd⟩
   have he : stepP V.st x = loadP V.st k x := by unfold stepP; rw [if_neg hx0, if_neg hm0, if_neg (by omega), hbk.1, hbk.2, hbt, if_pos rfl, if_pos hkk]
   exact ⟨⟨V9, by rw [he], hM9, by rw [he]; exact hst9⟩, u_d⟩
  refine go ?_
  have D68 := (((((((((hH.keep u5 (fun _ h => h)).keep u11 (fun _ h => h)).keep u17 (fun _ h => h)).keep u24 (fun _ h => h)).keep u28 (fun hb => show ¬ (V.gh = bk21) by first | omega | assumption)).keep u32 (fun hb => show ¬ (V.gh = bk21) by first | omega | assumption)).keep u36 (fun hb => show ¬ (V.gh = bk21) by first | omega | assumption)).keep u51 (fun _ h => h)).keep u59 (fun _ h => h))
  refine y_i k (D68.sl (fun _ => rfl)) (fun _ => ?_)
  refine go ?_
  refine x_c func92 rfl rfl (load_c base sb m V T x k _ (hM.ext ((((((((((Upd.refl (fun _ => False) _).nx u5).nx u11).nx u17).nx u24).next u28 (fun i hi (h : i = bk21) => show False by first | omega | assumption)).next u32 (fun i hi (h : i = bk21) => show False by first | omega | assumption)).next u36 (fun i hi (h : i = bk21) => show False by first | omega | assumption)).nx u51).nx u59)) hok hmm (by omega) hx hk hkk (by omega)) ?_
  rintro _ w71 ⟨⟨V9, rfl, hM9, hst9⟩, u72⟩ zu72
  refine s_next ((Upd.refl _ _).next u72 (fun i hi (h : i = sb ∨ (base ≤ i ∧ i < m)) => show w58.heap.size ≤ i ∨ (i = sb ∨ (base ≤ i ∧ i < m)) by first | omega | exact .inr h)) ?_
  refine go ?_
  refine f_1 results55 ?_
  have hx0 : ¬ okEnt x = false := by rw [hx]; decide
  have hm0 : ¬ x.m < V.st.m := g12
  have hbk : isK (fun h : Hul => h.n) x.h V.st.hs = bb ∧ posK (fun h : Hul => h.n) x.h V.st.hs = k := ⟨(isK_map HR.hul (fun h : Hul => h.n) x.h V.rs).trans hbb, (posK_map HR.hul (fun h : Hul => h.n) x.h V.rs).trans hkd⟩
  have he : stepP V.st x = loadP V.st k x := by unfold stepP; rw [if_neg hx0, if_neg hm0, if_neg (by omega), hbk.1, hbk.2, hbt, if_pos rfl, if_pos hkk]
  exact ⟨⟨V9, by rw [he], hM9, by rw [he]; exact hst9⟩, u_d⟩
 ·
  refine t_lookupV (m := [(2, .func (.func 92) #[.pointer (some ⟨sb, 0, none⟩)] #[]), (3, .func (.func 93) #[.pointer (some ⟨sb, 0, none⟩)] #[]), (4, .func (.func 94) #[.pointer (some ⟨sb, 0, none⟩)] #[])]) (.func (.func 93) #[.pointer (some ⟨sb, 0, none⟩)] #[]) (by rw [hkk]; rfl) underlying39 underlying199 zeroValue198 rfl rfl rfl rfl M35 ?_
  refine go ?_
  refine t_nilF false (.inr ⟨_, _, _, rfl, rfl⟩) underlying198 rfl rfl rfl rfl ?_
  refine go ?_
  refine x_c func96 rfl rfl (by have h9 := find_c base sb V T x.h _ (hM.ext ((((((((Upd.refl (fun _ => False) _).nx u5).nx u11).nx u17).nx u24).next u28 (fun i hi (h : i = bk21) => show False by first | omega | assumption)).next u32 (fun i hi (h : i = bk21) => show False by first | omega | assumption)).next u36 (fun i hi (h : i = bk21) => show False by first | omega | assumption))) hok (by omega); rw [hkd, hbb] at h9; exact h9) ?_
  rintro _ w79 ⟨rfl, u80⟩ zu80
  refine go ?_
  refine q_b (fun g45 => ?_) fun g45 => ?_
  ·
   have hbt : bb = false := by simpa using g45
   refine go ?_
   refine f_1 results55 ?_
   have hx0 : ¬ okEnt x = false := by rw [hx]; decide
   have hm0 : ¬ x.m < V.st.m := g12
   have hbk : isK (fun h : Hul => h.n) x.h V.st.hs = bb ∧ posK (fun h : Hul => h.n) x.h V.st.hs = k := ⟨(isK_map HR.hul (fun h : Hul => h.n) x.h V.rs).trans hbb, (posK_map HR.hul (fun h : Hul => h.n) x.h V.rs).trans hkd⟩
   have he : stepP V.st x = (7, V.st) := by unfold stepP; rw [if_neg hx0, if_neg hm0, if_neg (by omega), hbk.1, hbt, if_neg (by decide)]
   exact ⟨⟨V, by rw [he], (hM.ext (((((((((Upd.refl (fun _ => False) _).nx u5).nx u11).nx u17).nx u24).next u28 (fun i hi (h : i = bk21) => show False by first | omega | assumption)).next u32 (fun i hi (h : i = bk21) => show False by first | omega | assumption)).next u36 (fun i hi (h : i = bk21) => show False by first | omega | assumption)).nx u80)), by rw [he]⟩, u_d⟩
  have hbt : bb = true := by simpa using g45
  have hk := (hbi.1 hbt).1
  refine go ?_
  refine c_drawnM follows (fun i => i = sb ∨ (base ≤ i ∧ i < m)) (.look 0 (.look 1 (.look 2 (.look 3 (.look 4 (.look 6 (.act 5 (.look 7 (.act 8 (.act 9 (.look 10 .done) .stop) .stop)) (.act 8 (.act 5 (.look 7 (.act 9 (.look 10 .done) .stop)) .stop) .stop)))))))) (by kernel_rfl) fun w87 u88 => ?_
  have zu88 := u88.size
  refine go ?_
  refine s_or ?_ ?_
  ·
   refine go ?_
   have D90 := (((((((((hH.keep u5 (fun _ h => h)).keep u11 (fun _ h => h)).keep u17 (fun _ h => h)).keep u24 (fun _ h => h)).keep u28 (fun hb => show ¬ (V.gh = bk21) by first | omega | assumption)).keep u32 (fun hb => show ¬ (V.gh = bk21) by first | omega | assumption)).keep u36 (fun hb => show ¬ (V.gh = bk21) by first | omega | assumption)).keep u80 (fun _ h => h)).keep u88 (fun _ h => h))
   refine y_i k (D90.sl (fun _ => rfl)) (fun _ => ?_)
   refine go ?_
   refine x_c func93 rfl rfl (sail_c base sb m V T x k _ (hM.ext ((((((((((Upd.refl (fun _ => False) _).nx u5).nx u11).nx u17).nx u24).next u28 (fun i hi (h : i = bk21) => show False by first | omega | assumption)).next u32 (fun i hi (h : i = bk21) => show False by first | omega | assumption)).next u36 (fun i hi (h : i = bk21) => show False by first | omega | assumption)).nx u80).nx u88)) hok hmm (by omega) hx hk hkk (by omega)) ?_
   rintro _ w93 ⟨⟨V9, rfl, hM9, hst9⟩, u94⟩ zu94
   refine s_next ((Upd.refl _ _).next u94 (fun i hi (h : i = sb ∨ (base ≤ i ∧ i < m)) => show w87.heap.size ≤ i ∨ (i = sb ∨ (base ≤ i ∧ i < m)) by first | omega | exact .inr h)) ?_
   refine go ?_
   refine f_1 results55 ?_
   have hx0 : ¬ okEnt x = false := by rw [hx]; decide
   have hm0 : ¬ x.m < V.st.m := g12
   have hbk : isK (fun h : Hul => h.n) x.h V.st.hs = bb ∧ posK (fun h : Hul => h.n) x.h V.st.hs = k := ⟨(isK_map HR.hul (fun h : Hul => h.n) x.h V.rs).trans hbb, (posK_map HR.hul (fun h : Hul => h.n) x.h V.rs).trans hkd⟩
   have he : stepP V.st x = sailP V.st k x := by unfold stepP; rw [if_neg hx0, if_neg hm0, if_neg (by omega), hbk.1, hbk.2, hbt, if_pos rfl, if_neg (by omega), if_pos hkk]
   exact ⟨⟨V9, by rw [he], hM9, by rw [he]; exact hst9⟩, u_d⟩
  refine go ?_
  have D97 := (((((((((hH.keep u5 (fun _ h => h)).keep u11 (fun _ h => h)).keep u17 (fun _ h => h)).keep u24 (fun _ h => h)).keep u28 (fun hb => show ¬ (V.gh = bk21) by first | omega | assumption)).keep u32 (fun hb => show ¬ (V.gh = bk21) by first | omega | assumption)).keep u36 (fun hb => show ¬ (V.gh = bk21) by first | omega | assumption)).keep u80 (fun _ h => h)).keep u88 (fun _ h => h))
  refine y_i k (D97.sl (fun _ => rfl)) (fun _ => ?_)
  refine go ?_
  refine x_c func93 rfl rfl (sail_c base sb m V T x k _ (hM.ext ((((((((((Upd.refl (fun _ => False) _).nx u5).nx u11).nx u17).nx u24).next u28 (fun i hi (h : i = bk21) => show False by first | omega | assumption)).next u32 (fun i hi (h : i = bk21) => show False by first | omega | assumption)).next u36 (fun i hi (h : i = bk21) => show False by first | omega | assumption)).nx u80).nx u88)) hok hmm (by omega) hx hk hkk (by omega)) ?_
  rintro _ w100 ⟨⟨V9, rfl, hM9, hst9⟩, u101⟩ zu101
  refine s_next ((Upd.refl _ _).next u101 (fun i hi (h : i = sb ∨ (base ≤ i ∧ i < m)) => show w87.heap.size ≤ i ∨ (i = sb ∨ (base ≤ i ∧ i < m)) by first | omega | exact .inr h)) ?_
  refine go ?_
  refine f_1 results55 ?_
  have hx0 : ¬ okEnt x = false := by rw [hx]; decide
  have hm0 : ¬ x.m < V.st.m := g12
  have hbk : isK (fun h : Hul => h.n) x.h V.st.hs = bb ∧ posK (fun h : Hul => h.n) x.h V.st.hs = k := ⟨(isK_map HR.hul (fun h : Hul => h.n) x.h V.rs).trans hbb, (posK_map HR.hul (fun h : Hul => h.n) x.h V.rs).trans hkd⟩
  have he : stepP V.st x = sailP V.st k x := by unfold stepP; rw [if_neg hx0, if_neg hm0, if_neg (by omega), hbk.1, hbk.2, hbt, if_pos rfl, if_neg (by omega), if_pos hkk]
  exact ⟨⟨V9, by rw [he], hM9, by rw [he]; exact hst9⟩, u_d⟩
 refine t_lookupV (m := [(2, .func (.func 92) #[.pointer (some ⟨sb, 0, none⟩)] #[]), (3, .func (.func 93) #[.pointer (some ⟨sb, 0, none⟩)] #[]), (4, .func (.func 94) #[.pointer (some ⟨sb, 0, none⟩)] #[])]) (.func (.func 94) #[.pointer (some ⟨sb, 0, none⟩)] #[]) (by rw [hkk]; rfl) underlying39 underlying199 zeroValue198 rfl rfl rfl rfl M35 ?_
 refine go ?_
 refine t_nilF false (.inr ⟨_, _, _, rfl, rfl⟩) underlying198 rfl rfl rfl rfl ?_
 refine go ?_
 refine x_c func96 rfl rfl (by have h9 := find_c base sb V T x.h _ (hM.ext ((((((((Upd.refl (fun _ => False) _).nx u5).nx u11).nx u17).nx u24).next u28 (fun i hi (h : i = bk21) => show False by first | omega | assumption)).next u32 (fun i hi (h : i = bk21) => show False by first | omega | assumption)).next u36 (fun i hi (h : i = bk21) => show False by first | omega | assumption))) hok (by omega); rw [hkd, hbb] at h9; exact h9) ?_
 rintro _ w108 ⟨rfl, u109⟩ zu109
 refine go ?_
 refine q_b (fun g45 => ?_) fun g45 => ?_
 ·
  have hbt : bb = false := by simpa using g45
  refine go ?_
  refine f_1 results55 ?_
  have hx0 : ¬ okEnt x = false := by rw [hx]; decide
  have hm0 : ¬ x.m < V.st.m := g12
  have hbk : isK (fun h : Hul => h.n) x.h V.st.hs = bb ∧ posK (fun h : Hul => h.n) x.h V.st.hs = k := ⟨(isK_map HR.hul (fun h : Hul => h.n) x.h V.rs).trans hbb, (posK_map HR.hul (fun h : Hul => h.n) x.h V.rs).trans hkd⟩
  have he : stepP V.st x = (7, V.st) := by unfold stepP; rw [if_neg hx0, if_neg hm0, if_neg (by omega), hbk.1, hbt, if_neg (by decide)]
  exact ⟨⟨V, by rw [he], (hM.ext (((((((((Upd.refl (fun _ => False) _).nx u5).nx u11).nx u17).nx u24).next u28 (fun i hi (h : i = bk21) => show False by first | omega | assumption)).next u32 (fun i hi (h : i = bk21) => show False by first | omega | assumption)).next u36 (fun i hi (h : i = bk21) => show False by first | omega | assumption)).nx u109)), by rw [he]⟩, u_d⟩
 have hbt : bb = true := by simpa using g45
 have hk := (hbi.1 hbt).1
 refine go ?_
 refine c_drawnM follows (fun i => i = sb ∨ (base ≤ i ∧ i < m)) (.look 0 (.look 1 (.look 2 (.look 3 (.look 4 (.look 6 (.act 5 (.look 7 (.act 8 (.act 9 (.look 10 .done) .stop) .stop)) (.act 8 (.act 5 (.look 7 (.act 9 (.look 10 .done) .stop)) .stop) .stop)))))))) (by kernel_rfl) fun w116 u117 => ?_
 have zu117 := u117.size
 refine go ?_
 refine s_or ?_ ?_
 ·
  refine go ?_
  have D119 := (((((((((hH.keep u5 (fun _ h => h)).keep u11 (fun _ h => h)).keep u17 (fun _ h => h)).keep u24 (fun _ h => h)).keep u28 (fun hb => show ¬ (V.gh = bk21) by first | omega | assumption)).keep u32 (fun hb => show ¬ (V.gh = bk21) by first | omega | assumption)).keep u36 (fun hb => show ¬ (V.gh = bk21) by first | omega | assumption)).keep u109 (fun _ h => h)).keep u117 (fun _ h => h))
  refine y_i k (D119.sl (fun _ => rfl)) (fun _ => ?_)
  refine go ?_
  refine x_c func94 rfl rfl (unload_c base sb m V T x k _ (hM.ext ((((((((((Upd.refl (fun _ => False) _).nx u5).nx u11).nx u17).nx u24).next u28 (fun i hi (h : i = bk21) => show False by first | omega | assumption)).next u32 (fun i hi (h : i = bk21) => show False by first | omega | assumption)).next u36 (fun i hi (h : i = bk21) => show False by first | omega | assumption)).nx u109).nx u117)) hok hmm (by omega) hx hk hkk (by omega)) ?_
  rintro _ w122 ⟨⟨V9, rfl, hM9, hst9⟩, u123⟩ zu123
  refine s_next ((Upd.refl _ _).next u123 (fun i hi (h : i = sb ∨ (base ≤ i ∧ i < m)) => show w116.heap.size ≤ i ∨ (i = sb ∨ (base ≤ i ∧ i < m)) by first | omega | exact .inr h)) ?_
  refine go ?_
  refine f_1 results55 ?_
  have hx0 : ¬ okEnt x = false := by rw [hx]; decide
  have hm0 : ¬ x.m < V.st.m := g12
  have hbk : isK (fun h : Hul => h.n) x.h V.st.hs = bb ∧ posK (fun h : Hul => h.n) x.h V.st.hs = k := ⟨(isK_map HR.hul (fun h : Hul => h.n) x.h V.rs).trans hbb, (posK_map HR.hul (fun h : Hul => h.n) x.h V.rs).trans hkd⟩
  have he : stepP V.st x = unloadP V.st k x := by unfold stepP; rw [if_neg hx0, if_neg hm0, if_neg (by omega), hbk.1, hbk.2, hbt, if_pos rfl, if_neg (by omega), if_neg (by omega)]
  exact ⟨⟨V9, by rw [he], hM9, by rw [he]; exact hst9⟩, u_d⟩
 refine go ?_
 have D126 := (((((((((hH.keep u5 (fun _ h => h)).keep u11 (fun _ h => h)).keep u17 (fun _ h => h)).keep u24 (fun _ h => h)).keep u28 (fun hb => show ¬ (V.gh = bk21) by first | omega | assumption)).keep u32 (fun hb => show ¬ (V.gh = bk21) by first | omega | assumption)).keep u36 (fun hb => show ¬ (V.gh = bk21) by first | omega | assumption)).keep u109 (fun _ h => h)).keep u117 (fun _ h => h))
 refine y_i k (D126.sl (fun _ => rfl)) (fun _ => ?_)
 refine go ?_
 refine x_c func94 rfl rfl (unload_c base sb m V T x k _ (hM.ext ((((((((((Upd.refl (fun _ => False) _).nx u5).nx u11).nx u17).nx u24).next u28 (fun i hi (h : i = bk21) => show False by first | omega | assumption)).next u32 (fun i hi (h : i = bk21) => show False by first | omega | assumption)).next u36 (fun i hi (h : i = bk21) => show False by first | omega | assumption)).nx u109).nx u117)) hok hmm (by omega) hx hk hkk (by omega)) ?_
 rintro _ w129 ⟨⟨V9, rfl, hM9, hst9⟩, u130⟩ zu130
 refine s_next ((Upd.refl _ _).next u130 (fun i hi (h : i = sb ∨ (base ≤ i ∧ i < m)) => show w116.heap.size ≤ i ∨ (i = sb ∨ (base ≤ i ∧ i < m)) by first | omega | exact .inr h)) ?_
 refine go ?_
 refine f_1 results55 ?_
 have hx0 : ¬ okEnt x = false := by rw [hx]; decide
 have hm0 : ¬ x.m < V.st.m := g12
 have hbk : isK (fun h : Hul => h.n) x.h V.st.hs = bb ∧ posK (fun h : Hul => h.n) x.h V.st.hs = k := ⟨(isK_map HR.hul (fun h : Hul => h.n) x.h V.rs).trans hbb, (posK_map HR.hul (fun h : Hul => h.n) x.h V.rs).trans hkd⟩
 have he : stepP V.st x = unloadP V.st k x := by unfold stepP; rw [if_neg hx0, if_neg hm0, if_neg (by omega), hbk.1, hbk.2, hbt, if_pos rfl, if_neg (by omega), if_neg (by omega)]
 exact ⟨⟨V9, by rw [he], hM9, by rw [he]; exact hst9⟩, u_d⟩

end Go.Proofs.YtagmkfbbhfaceaaGreatDoor
namespace Go.Proofs.YtagmkfbbhfaceaaGreatDoor
open Go Go.RowKit
set_option maxRecDepth 10000
/-! ### states stay in order -/
theorem asc_cons {α : Type} [Inhabited α] {ky : α → Int} {x : α} {l : List α} : Asc ky (x :: l) ↔ (∀ y ∈ l, ky x < ky y) ∧ Asc ky l := by
  constructor
  · intro h
    refine ⟨fun y hy => ?_, fun i j hij hj => h (i + 1) (j + 1) (by omega) (by simpa using hj)⟩
    obtain ⟨j, hj, rfl⟩ := List.mem_iff_getElem.1 hy
    have := h 0 (j + 1) (by omega) (by simpa using hj)
    have e : nth (x :: l) (j + 1) = l[j] := nth_eq (by simpa using hj)
    rw [e] at this
    exact this
  · rintro ⟨h1, h2⟩ i j hij hj
    cases j with
    | zero => omega
    | succ j =>
      have hj : j < l.length := by simpa using hj
      cases i with
      | zero => exact h1 _ (nth_mem hj)
      | succ i => exact h2 i j (by omega) hj
theorem asc_nil {α : Type} [Inhabited α] {ky : α → Int} : Asc ky ([] : List α) := fun _ _ _ h => absurd h (Nat.not_lt_zero _)
theorem CgOk.nil (T : Int) : CgOk T [] := ⟨asc_nil, fun x hx => by cases hx⟩
theorem cg_cons {T : Int} {x : Crg} {l : List Crg} : CgOk T (x :: l) ↔ (∀ y ∈ l, x.b < y.b) ∧ ((1 ≤ x.b ∧ x.b ≤ 9999) ∧ (1 ≤ x.t ∧ x.t ≤ T)) ∧ CgOk T l := by
  unfold CgOk
  rw [asc_cons]
  constructor
  · rintro ⟨⟨h1, h2⟩, h3⟩
    exact ⟨h1, h3 x (List.mem_cons_self ..), h2, fun y hy => h3 y (List.mem_cons_of_mem _ hy)⟩
  · rintro ⟨h1, h2, h3, h4⟩
    exact ⟨⟨h1, h3⟩, fun y hy => by
      rcases List.mem_cons.1 hy with rfl | hy
      · exact h2
      · exact h4 y hy⟩
theorem bookP_mem {bill tons : Int} {y : Crg} : ∀ {l : List Crg}, y ∈ bookP bill tons l → y ∈ l ∨ y.b = bill
  | [], h => by
    unfold bookP at h
    split at h
    · cases h
    · right; rw [List.mem_singleton.1 h]
  | x :: l, h => by
    unfold bookP at h
    split at h
    · rcases List.mem_cons.1 h with rfl | h
      · exact .inl (List.mem_cons_self ..)
      · rcases bookP_mem h with h | h
        · exact .inl (List.mem_cons_of_mem _ h)
        · exact .inr h
    · split at h
      · split at h
        · exact .inl (List.mem_cons_of_mem _ h)
        · rcases List.mem_cons.1 h with rfl | h
          · exact .inr rfl
          · exact .inl (List.mem_cons_of_mem _ h)
      · split at h
        · exact .inl h
        · rcases List.mem_cons.1 h with rfl | h
          · exact .inr rfl
          · exact .inl h
theorem CgOk.book {T T' bill tons : Int} (hb : 1 ≤ bill ∧ bill ≤ 9999) (h1 : T ≤ T') (h2 : T + tons ≤ T') (h3 : tons ≤ T') : ∀ {l : List Crg}, CgOk T l → (∀ x ∈ l, x.b = bill → 0 ≤ x.t + tons) → ((∀ x ∈ l, x.b ≠ bill) → 0 ≤ tons) → CgOk T' (bookP bill tons l)
  | [], _, _, h5 => by
    have h5 := h5 fun x hx => by cases hx
    unfold bookP
    split
    · exact CgOk.nil _
    · exact cg_cons.2 ⟨fun y hy => (by cases hy), ⟨hb, by show 1 ≤ tons ∧ tons ≤ T'; omega⟩, CgOk.nil _⟩
  | x :: l, h, h4, h5 => by
    obtain ⟨q1, q2, q3⟩ := cg_cons.1 h
    unfold bookP
    split
    · rename_i hx
      refine cg_cons.2 ⟨fun y hy => ?_, ⟨q2.1, by omega⟩, CgOk.book hb h1 h2 h3 q3 (fun y hy => h4 y (List.mem_cons_of_mem _ hy)) fun hn => h5 fun y hy => ?_⟩
      · rcases bookP_mem hy with hy | hy
        · exact q1 y hy
        · omega
      · rcases List.mem_cons.1 hy with rfl | hy
        · omega
        · exact hn y hy
    · rename_i hx
      split
      · rename_i he
        split
        · exact q3.mono h1
        · have := h4 x (List.mem_cons_self ..) he
          refine cg_cons.2 ⟨fun y hy => ?_, ⟨hb, ?_⟩, q3.mono h1⟩
          · have := q1 y hy
            show bill < y.b
            omega
          · show 1 ≤ x.t + tons ∧ x.t + tons ≤ T'
            omega
      · rename_i he
        have h5 := h5 fun y hy => by
          rcases List.mem_cons.1 hy with rfl | hy
          · exact he
          · have := q1 y hy; omega
        split
        · exact h.mono h1
        · refine cg_cons.2 ⟨fun y hy => ?_, ⟨hb, ?_⟩, h.mono h1⟩
          · show bill < y.b
            rcases List.mem_cons.1 hy with rfl | hy
            · omega
            · have := q1 y hy; omega
          · show 1 ≤ tons ∧ tons ≤ T'
            omega
theorem tonP_book (b bill tons : Int) : ∀ l : List Crg, tonP b (bookP bill tons l) = tonP b l + (if b = 0 ∨ bill = b then tons else 0)
  | [] => by
    unfold bookP
    by_cases h : tons = 0
    · rw [if_pos h, h]; split <;> simp
    · rw [if_neg h]; simp [tonP]
  | x :: l => by
    unfold bookP
    by_cases h : x.b < bill
    · rw [if_pos h]; simp only [tonP, tonP_book b bill tons l]; omega
    · rw [if_neg h]
      by_cases he : x.b = bill
      · rw [if_pos he]
        by_cases hz : x.t + tons = 0
        · rw [if_pos hz]; simp only [tonP]; rw [he]; split <;> omega
        · rw [if_neg hz]; simp only [tonP]; rw [he]; split <;> omega
      · rw [if_neg he]
        by_cases hz : tons = 0
        · rw [if_pos hz, hz]; split <;> simp
        · rw [if_neg hz]; simp only [tonP]; omega
theorem tonP_mem {l : List Crg} (h : ∀ x ∈ l, 1 ≤ x.t) : ∀ {x : Crg}, x ∈ l → x.t ≤ tonP 0 l ∧ ∀ b, x.b = b → x.t ≤ tonP b l := by
  induction l with
  | nil => intro x hx; cases hx
  | cons y l ih =>
    intro x hx
    have hn : ∀ (b : Int) (m : List Crg), (∀ z ∈ m, 1 ≤ z.t) → 0 ≤ tonP b m := fun b m => by
      induction m with
      | nil => intro _; simp [tonP]
      | cons z m ih => intro hm; have h1 := ih fun q hq => hm q (List.mem_cons_of_mem _ hq); have h2 := hm z (List.mem_cons_self ..); simp only [tonP]; split <;> omega
    have hl : ∀ z ∈ l, 1 ≤ z.t := fun z hz => h z (List.mem_cons_of_mem _ hz)
    have hy := h y (List.mem_cons_self ..)
    rcases List.mem_cons.1 hx with rfl | hx
    · refine ⟨?_, fun b hb => ?_⟩
      · have := hn 0 l hl; simp only [tonP]; simp; omega
      · have := hn b l hl; simp only [tonP]; rw [if_pos (.inr hb)]; omega
    · have ⟨i1, i2⟩ := ih hl hx
      refine ⟨?_, fun b hb => ?_⟩
      · simp only [tonP]; simp; omega
      · have := i2 b hb; simp only [tonP]; split <;> omega
theorem CgOk.one {T : Int} {l : List Crg} (h : CgOk T l) : ∀ x ∈ l, 1 ≤ x.t := fun x hx => (h.2 x hx).2.1
theorem CgOk.tight {T T' : Int} {l : List Crg} (h : CgOk T l) (ht : tonP 0 l ≤ T') : CgOk T' l := ⟨h.1, fun x hx => ⟨(h.2 x hx).1, (h.2 x hx).2.1, by have := (tonP_mem h.one hx).1; omega⟩⟩
theorem tonP_none {b : Int} (hb : b ≠ 0) : ∀ {l : List Crg}, (∀ x ∈ l, x.b ≠ b) → tonP b l = 0
  | [], _ => rfl
  | x :: l, h => by
    unfold tonP
    rw [tonP_none hb fun y hy => h y (List.mem_cons_of_mem _ hy), if_neg (by have := h x (List.mem_cons_self ..); omega)]; rfl
/-- the only entry of a bill is all of it -/
theorem tonP_only {T : Int} : ∀ {l : List Crg}, CgOk T l → ∀ {x : Crg}, x ∈ l → tonP x.b l = x.t
  | y :: l, h, x, hx => by
    obtain ⟨q1, q2, q3⟩ := cg_cons.1 h
    unfold tonP
    rcases List.mem_cons.1 hx with rfl | hx
    · rw [if_pos (.inr rfl), tonP_none (by omega) fun z hz => by have := q1 z hz; omega]; omega
    · have h1 := q1 x hx
      have h2 := (q3.2 x hx).1
      rw [if_neg (by omega), tonP_only q3 hx]; omega
theorem asc_set {h : Hul} {l : List Hul} {k : Nat} (ha : Asc (fun h : Hul => h.n) l) (hk : k < l.length) (hn : h.n = (nth l k).n) : Asc (fun h : Hul => h.n) (l.set k h) := fun i j hij hj => by
  rw [List.length_set] at hj
  have e : ∀ q, q < l.length → (nth (l.set k h) q).n = (nth l q).n := fun q hq => by
    by_cases e : q = k
    · subst e; rw [nth_setE hq, hn]
    · rw [nth_setN e]
  show (nth (l.set k h) i).n < (nth (l.set k h) j).n
  rw [e i (by omega), e j hj]
  exact ha i j hij hj
theorem SeaOk.setHul {T : Int} {S : Sea} (h : SeaOk T S) {k : Nat} (hk : k < S.hs.length) {q : Hul} (hn : q.n = (nth S.hs k).n) (hp : 0 ≤ q.p ∧ q.p ≤ 100000) (hc : CgOk 100000 q.c) (ht : tonP 0 q.c ≤ 100000) : Asc (fun h : Hul => h.n) (S.hs.set k q) ∧ ∀ h ∈ S.hs.set k q, (1 ≤ h.n ∧ h.n ≤ 999) ∧ (0 ≤ h.p ∧ h.p ≤ 100000) ∧ CgOk 100000 h.c ∧ tonP 0 h.c ≤ 100000 := by
  refine ⟨asc_set h.asc hk hn, fun x hx => ?_⟩
  rcases mem_set hx with rfl | ⟨j, hj, _, rfl⟩
  · exact ⟨by rw [hn]; exact (h.hul _ (nth_mem hk)).1, hp, hc, ht⟩
  · exact h.hul _ (nth_mem hj)
theorem SeaOk.mono {T T' : Int} {S : Sea} (h : SeaOk T S) (h1 : T ≤ T') (h2 : T' ≤ 1000000000) : SeaOk T' S := ⟨h.asc, h.hul, h.ld.mono h1, h.un.mono h1, ⟨by have := h.t; omega, h2⟩, ⟨h.wk.1, by have := h.wk.2; omega⟩, h.m⟩
/-- An entry that is carried out keeps a state in order. -/
theorem SeaOk.step {T : Int} {S : Sea} {x : Ent} (h : SeaOk T S) (hT : T + 100000 ≤ 1000000000) (he : (stepP S x).1 = 0) : SeaOk (T + 100000) { (stepP S x).2 with m := x.m } := by
  have h0 := h.mono (T' := T + 100000) (by omega) hT
  have ht := h.t
  unfold stepP at he ⊢
  by_cases e1 : okEnt x = false
  · rw [if_pos e1] at he; simp at he
  rw [if_neg e1] at he ⊢
  have hx := okEnt_iff (show okEnt x = true by simpa using e1)
  by_cases e2 : x.m < S.m
  · rw [if_pos e2] at he; simp at he
  rw [if_neg e2] at he ⊢
  have hm : 0 ≤ x.m ∧ x.m ≤ 1000000 := hx.2.1.elim fun _ _ => by omega
  by_cases e3 : x.k = 1
  · rw [if_pos e3] at he ⊢
    unfold buildP at he ⊢
    by_cases e4 : isK (fun h : Hul => h.n) x.h S.hs = true
    · rw [if_pos e4] at he; simp at he
    rw [if_neg e4]
    have hs := posK_spec (fun h : Hul => h.n) x.h S.hs
    have hno : ∀ i, posK (fun h : Hul => h.n) x.h S.hs ≤ i → i < S.hs.length → x.h < (nth S.hs i).n := fun i hi hl => by
      have h1 := hs.2.2 (by omega)
      have h2 : ¬ (nth S.hs (posK (fun h : Hul => h.n) x.h S.hs)).n = x.h := fun q => e4 (isK_iff.2 ⟨by omega, q⟩)
      have h1 : x.h ≤ (nth S.hs (posK (fun h : Hul => h.n) x.h S.hs)).n := h1
      rcases Nat.eq_or_lt_of_le hi with q | q
      · rw [← q]; omega
      · have := h.asc _ i q hl
        have : (nth S.hs (posK (fun h : Hul => h.n) x.h S.hs)).n < (nth S.hs i).n := this
        omega
    generalize posK (fun h : Hul => h.n) x.h S.hs = k at hs hno
    obtain ⟨hk, hb, -⟩ := hs
    have hl := ins_nth hk (⟨x.h, x.p, []⟩ : Hul)
    refine ⟨fun i j hij hj => ?_, fun q hq => ?_, h0.ld, h0.un, h0.t, h0.wk, hm⟩
    · have hj : j < (S.hs.take k ++ (⟨x.h, x.p, []⟩ : Hul) :: S.hs.drop k).length := hj
      rw [hl.2] at hj
      show (nth (S.hs.take k ++ (⟨x.h, x.p, []⟩ : Hul) :: S.hs.drop k) i).n < (nth (S.hs.take k ++ (⟨x.h, x.p, []⟩ : Hul) :: S.hs.drop k) j).n
      rcases Nat.lt_trichotomy i k with q | q | q
      · rw [nth_insL hk q]
        rcases Nat.lt_trichotomy j k with r | r | r
        · rw [nth_insL hk r]; exact h.asc i j hij (by omega)
        · subst r; rw [hl.1]; exact hb i q
        · rw [nth_insR hk r]; exact h.asc i (j - 1) (by omega) (by omega)
      · subst q; rw [hl.1, nth_insR hk hij]; exact hno (j - 1) (by omega) (by omega)
      · rw [nth_insR hk q, nth_insR hk (by omega)]; exact h.asc (i - 1) (j - 1) (by omega) (by omega)
    · have hq : q ∈ S.hs.take k ++ (⟨x.h, x.p, []⟩ : Hul) :: S.hs.drop k := hq
      rcases List.mem_append.1 hq with hq | hq
      · exact h.hul q (List.mem_of_mem_take hq)
      · rcases List.mem_cons.1 hq with rfl | hq
        · exact ⟨by show 1 ≤ x.h ∧ x.h ≤ 999; omega, by show 0 ≤ x.p ∧ x.p ≤ 100000; omega, CgOk.nil _, by show (0 : Int) ≤ 100000; decide⟩
        · exact h.hul q (List.mem_of_mem_drop hq)
  rw [if_neg e3] at he ⊢
  have e4 : isK (fun h : Hul => h.n) x.h S.hs = true := by
    by_cases e4 : isK (fun h : Hul => h.n) x.h S.hs = true
    · exact e4
    · rw [if_neg e4] at he; simp at he
  rw [if_pos e4] at he ⊢
  have hk := (isK_iff.1 e4).1
  generalize posK (fun h : Hul => h.n) x.h S.hs = k at hk he
  have hh := h.hul _ (nth_mem hk)
  have hbt : (1 ≤ x.b ∧ x.b ≤ 9999) ∧ (1 ≤ x.t ∧ x.t ≤ 100000) ∨ x.k = 3 := by omega
  by_cases e5 : x.k = 2
  · rw [if_pos e5] at he ⊢
    have hbt := hbt.resolve_right (by omega)
    unfold loadP at he ⊢
    by_cases e6 : 100000 < tonP 0 (nth S.hs k).c + x.t
    · rw [if_pos e6] at he; simp at he
    rw [if_neg e6]
    have hsum : tonP 0 (bookP x.b x.t (nth S.hs k).c) ≤ 100000 := by rw [tonP_book, if_pos (.inl rfl)]; omega
    have hc := CgOk.book (T := 100000) (T' := 200000) (tons := x.t) hbt.1 (by decide) (by omega) (by omega) hh.2.2.1 (fun y hy _ => by have := hh.2.2.1.one y hy; omega) (fun _ => by omega)
    have hu := h.setHul hk (q := ⟨(nth S.hs k).n, (nth S.hs k).p, bookP x.b x.t (nth S.hs k).c⟩) rfl hh.2.1 (hc.tight hsum) hsum
    exact ⟨hu.1, hu.2, CgOk.book hbt.1 (by omega) (by omega) (by omega) h.ld (fun y hy _ => by have := h.ld.one y hy; omega) (fun _ => by omega), h0.un, h0.t, h0.wk, hm⟩
  rw [if_neg e5] at he ⊢
  by_cases e6 : x.k = 3
  · rw [if_pos e6] at he ⊢
    unfold sailP at he ⊢
    by_cases e7 : x.p - (nth S.hs k).p = 0
    · rw [if_pos e7] at he; simp at he
    rw [if_neg e7]
    have hu := h.setHul hk (q := ⟨(nth S.hs k).n, x.p, (nth S.hs k).c⟩) rfl (by show 0 ≤ x.p ∧ x.p ≤ 100000; omega) hh.2.2.1 hh.2.2.2
    have hr := tonP_range (bill := 0) (l := (nth S.hs k).c) fun y hy => by have := (hh.2.2.1.2 y hy).2; omega
    have hm2 := mul_range (a := tonP 0 (nth S.hs k).c) (m := 100000) (b := max (x.p - (nth S.hs k).p) (-(x.p - (nth S.hs k).p))) (n := 100000) ⟨hr.1, hh.2.2.2⟩ (by have := hh.2.1; omega)
    have hwk := h.wk
    refine ⟨hu.1, hu.2, h0.ld, h0.un, h0.t, ?_, hm⟩
    show 0 ≤ S.wk + tonP 0 (nth S.hs k).c * max (x.p - (nth S.hs k).p) (-(x.p - (nth S.hs k).p)) ∧ S.wk + tonP 0 (nth S.hs k).c * max (x.p - (nth S.hs k).p) (-(x.p - (nth S.hs k).p)) ≤ (T + 100000) * 100000
    omega
  · rw [if_neg e6] at he ⊢
    have hbt := hbt.resolve_right e6
    unfold unloadP at he ⊢
    by_cases e7 : tonP x.b (nth S.hs k).c < x.t
    · rw [if_pos e7] at he; simp at he
    rw [if_neg e7]
    have hsum : tonP 0 (bookP x.b (-x.t) (nth S.hs k).c) ≤ 100000 := by rw [tonP_book, if_pos (.inl rfl)]; omega
    have hc := CgOk.book (T := 100000) (T' := 200000) (tons := -x.t) hbt.1 (by decide) (by omega) (by omega) hh.2.2.1 (fun y hy hb => by have := tonP_only hh.2.2.1 hy; rw [hb] at this; omega) (fun hn => by have := tonP_none (by omega) hn; omega)
    have hu := h.setHul hk (q := ⟨(nth S.hs k).n, (nth S.hs k).p, bookP x.b (-x.t) (nth S.hs k).c⟩) rfl hh.2.1 (hc.tight hsum) hsum
    exact ⟨hu.1, hu.2, h0.ld, CgOk.book hbt.1 (by omega) (by omega) (by omega) h.un (fun y hy _ => by have := h.un.one y hy; omega) (fun _ => by omega), h0.t, h0.wk, hm⟩

end Go.Proofs.YtagmkfbbhfaceaaGreatDoor
