/- What a crash leaves of a ledger's segments, and what an opening finds of it. Plain. And: same of lists that lie among others. -/
import Derived.Test.YtjaafkakeccniaaGreatDoorML
namespace Go.Sl
open Go Go.ChangeShapes
def andK (k : IntKind) (i j : Int) : Int := k.wrap (BitVec.ofInt k.bits i &&& BitVec.ofInt k.bits j).toNat
theorem pu_and {P : Program} {env : Env} {d : Option Tmp} {x y : Operand} {ty T T' : TypeId} {pos : String} {af : Array Edge} {g : Option (Nat × Bool)} {k : IntKind} {i j : Int} (h : ev env x = some (.int k i)) (h' : ev env y = some (.int k j)) : Pu P ⟨d, .binOp .and T x y T', ty, pos, af, g⟩ env (.int k (andK k i j)) := fun ρ w e => by
  refine run_v (s := do eqGuard .and T x y (ρ x) (ρ y); binOp .and T (ρ x) (ρ y)) ?_
  rw [e.eval h, e.eval h']
  simp only [Sem.run_bind, eqGuard_int, Result.andThen_ok]
  simp [binOp, Op.intBits, andK]
end Go.Sl
namespace Go.Proofs.YtjaafkakeccniaaGreatDoor
open Go Go.Sl Go.Gv Go.Dv Go.Bst
set_option maxRecDepth 100000
def SyncS (X : List Seg) : Prop := ∀ y ∈ X, y.s = (layS y.es).length
theorem lost_none {st : Int} {x : Seg} (h : x.s = (layS x.es).length) : lostF st (segF x) = 0 := by
  unfold lostF
  show min st.toNat ((layS x.es).length - x.s) = 0
  omega
def cutC (st : Int) (x : Seg) : Cs := ⟨x.k, x.es, x.s + lostF st (segF x), x.s + lostF st (segF x)⟩
theorem crash_csF (st : Int) (x : Seg) : crashF st (segF x) = csF (cutC st x) := rfl
theorem crash_sync {st : Int} {x : Seg} (h : x.s = (layS x.es).length) : crashF st (segF x) = segF x := by
  unfold crashF
  rw [lost_none h]
  show Fl.mk (nameK x.k) ((layS x.es).take (x.s + 0)) (x.s + 0) = segF x
  rw [Nat.add_zero, h, List.take_length]
  unfold segF
  rw [h]
theorem crashN_seg (x : Seg) : ∀ (X : List Seg) (A : List Fl) (st : Int), SyncS X → (names (A ++ (X ++ [x]).map segF)).Nodup →
    crashN st ((X ++ [x]).map fun y => nameK y.k) (A ++ (X ++ [x]).map segF) = A ++ (X.map segF ++ [csF (cutC st x)])
  | [], A, st, _, hn => by
    have hA : (segF x).n ∉ names A := fun h => by
      simp only [names, List.nil_append, List.map_cons, List.map_nil, List.map_append, List.nodup_append] at hn
      exact hn.2.2 _ h _ (by simp) rfl
    have hl : lookF (A ++ segF x :: []) (segF x).n = some (segF x) := at_look hA
    show crashN st [nameK x.k] (A ++ [segF x]) = _
    simp only [crashN]
    rw [show lookF (A ++ [segF x]) (nameK x.k) = some (segF x) from hl]
    show upd (A ++ segF x :: []) (segF x).n (crashF st) = _
    rw [at_upd hA (by simp [names]) (crashF st), crash_csF]; rfl
  | y :: X, A, st, hs, hn => by
    have hA : (segF y).n ∉ names A := fun h => by
      simp only [names, List.cons_append, List.map_cons, List.map_append, List.nodup_append] at hn
      exact hn.2.2 _ h _ (by simp) rfl
    have hB : (segF y).n ∉ names ((X ++ [x]).map segF) := fun h => by
      simp only [names, List.cons_append, List.map_cons, List.map_append (f := Fl.n), List.nodup_append] at hn
      have := hn.2.1
      rw [List.nodup_cons] at this
      exact this.1 (by simpa [names] using h)
    have hl : lookF (A ++ segF y :: (X ++ [x]).map segF) (segF y).n = some (segF y) := at_look hA
    have hy := hs y (by simp)
    show crashN st (nameK y.k :: (X ++ [x]).map fun y => nameK y.k) (A ++ segF y :: (X ++ [x]).map segF) = _
    simp only [crashN]
    rw [show lookF (A ++ segF y :: (X ++ [x]).map segF) (nameK y.k) = some (segF y) from hl]
    show crashN (st - lostF st (segF y)) _ (upd (A ++ segF y :: (X ++ [x]).map segF) (segF y).n (crashF st)) = _
    rw [at_upd hA hB (crashF st), crash_sync hy, lost_none hy, show st - ((0 : Nat) : Int) = st by omega]
    have h := crashN_seg x X (A ++ [segF y]) st (fun z hz => hs z (by simp [hz])) (by simpa using hn)
    simp only [List.append_assoc, List.cons_append, List.nil_append] at h
    simpa using h
theorem crash_seg {n : Int} {made : Nat} {X : List Seg} {x : Seg} (h : Inv n made (X ++ [x])) (hm : made < 100) (hs : SyncS X) (st : Int) : crashL st ((X ++ [x]).map segF) = (X.map ofSeg ++ [cutC st x]).map csF := by
  have hnd : (names ((X ++ [x]).map segF)).Nodup := names_nd (k := Seg.k) (fun _ => rfl) h.asc fun y hy => by have := h.num y hy; omega
  unfold crashL
  rw [sort_seg h hm, List.map_map]
  have e := crashN_seg x X [] st hs (by simpa using hnd)
  rw [List.nil_append, List.nil_append] at e
  rw [show ((nameK ∘ Seg.k) : Seg → ByteArray) = fun y => nameK y.k from rfl, e, List.map_append, List.map_map]
  exact congrArg (· ++ [csF (cutC st x)]) (List.map_congr_left fun y _ => (of_csF y).symm)
theorem cut_ok {n : Int} {made : Nat} {X : List Seg} {x : Seg} (h : Inv n made (X ++ [x])) (hm : made < 99) (st : Int) : CsOk n (X.map ofSeg ++ [cutC st x]) := by
  have hc := h.cs hm
  refine ⟨?_, fun c hcm => ?_, fun c hcm => ?_, fun c hcm => ?_⟩
  · have ha := h.asc
    rw [List.pairwise_append] at ha ⊢
    refine ⟨by rw [List.pairwise_map]; exact ha.1, List.pairwise_singleton _ _, fun a hma b hmb => ?_⟩
    obtain ⟨y, hy, rfl⟩ := List.mem_map.1 hma
    simp only [List.mem_singleton] at hmb
    subst hmb
    exact ha.2.2 y hy x (by simp)
  all_goals
    rcases List.mem_append.1 hcm with hm1 | hm1
  · exact hc.num c (by rw [List.map_append]; exact List.mem_append_left _ hm1)
  · simp only [List.mem_singleton] at hm1; subst hm1
    have := h.num x (by simp); exact ⟨this.1, by show x.k < 99; omega⟩
  · exact hc.good c (by rw [List.map_append]; exact List.mem_append_left _ hm1)
  · simp only [List.mem_singleton] at hm1; subst hm1
    exact h.good x (by simp)
  · exact hc.safe c (by rw [List.map_append]; exact List.mem_append_left _ hm1)
  · simp only [List.mem_singleton] at hm1; subst hm1
    have h1 := h.safe x (by simp)
    have h2 : lostF st (segF x) ≤ (layS x.es).length - x.s := Nat.min_le_right _ _
    show x.s + lostF st (segF x) ≤ ((layS x.es).take (x.s + lostF st (segF x))).length
    rw [List.length_take]; omega
theorem after_flat (x : Cs) : (after x).toList.flatMap Seg.es = x.es.take (wholeN x.es x.m) := by
  unfold after
  by_cases h : wholeN x.es x.m = 0
  · rw [if_pos h, h]; rfl
  · rw [if_neg h]; simp
theorem after_used (x : Cs) : usedS (after x).toList ≤ (layS x.es).length := by
  unfold after
  by_cases h : wholeN x.es x.m = 0
  · rw [if_pos h]; exact Nat.zero_le _
  · rw [if_neg h]
    show (layS (x.es.take (wholeN x.es x.m))).length + 0 ≤ _
    have : layS x.es = layS (x.es.take (wholeN x.es x.m)) ++ layS (x.es.drop (wholeN x.es x.m)) := by rw [← layS_app, List.take_append_drop]
    have := congrArg List.length this
    rw [List.length_append] at this; omega
theorem plain_mono {a b : List EntP} (h : a <+: b) : (plainE a).length ≤ (plainE b).length := (h.sublist.filter _).length_le
theorem flat_app (X Y : List Seg) : flatS (X ++ Y) = flatS X ++ flatS Y := by unfold flatS; rw [List.flatMap_append]
theorem flat_one (x : Seg) : flatS [x] = x.es := by simp [flatS]
theorem used_app (X Y : List Seg) : usedS (X ++ Y) = usedS X + usedS Y := by unfold usedS; rw [List.map_append, List.sum_append]
theorem used_one (x : Seg) : usedS [x] = (layS x.es).length := by simp [usedS]
/-- What an opening behind a crash finds. -/
theorem crash_open {n : Int} {made : Nat} {X : List Seg} {x : Seg} (h1 : 1 ≤ n) (h8 : n ≤ 8) (h : St n made (X ++ [x])) (hm : made < 98) (hs : SyncS X) (st : Int) :
    ∃ cs, crashL st ((X ++ [x]).map segF) = cs.map csF ∧ CsOk n cs ∧ (∀ c ∈ cs, c.k < 98) ∧ cs.length = X.length + 1 ∧
      ∀ made' ys, OpRel n cs made' ys → plainE (flatS ys) = plainE (flatS X ++ x.es.take (wholeN x.es (x.s + lostF st (segF x)))) ∧ made' ≤ made + 1 ∧ ys.length ≤ X.length + 1 ∧ usedS ys ≤ usedS (X ++ [x]) + 46 := by
  have hok := cut_ok h.inv (by omega) st
  have hk : ∀ c ∈ X.map ofSeg ++ [cutC st x], c.k ≤ made := fun c hc => by
    rcases List.mem_append.1 hc with hc | hc
    · obtain ⟨y, hy, rfl⟩ := List.mem_map.1 hc
      exact (h.inv.num y (List.mem_append_left _ hy)).2
    · simp only [List.mem_singleton] at hc; subst hc
      exact (h.inv.num x (by simp)).2
  refine ⟨X.map ofSeg ++ [cutC st x], crash_seg h.inv (by omega) hs st, hok, fun c hc => by have := hk c hc; omega, by simp, fun made' ys hr => ?_⟩
  have hfm : (X.map ofSeg ++ [cutC st x]).filterMap after = X ++ (after (cutC st x)).toList := by
    rw [List.filterMap_append, of_afters fun y hy => h.inv.good y (List.mem_append_left _ hy)]
    congr 1
  have hfl : flatS (X ++ (after (cutC st x)).toList) = flatS X ++ x.es.take (wholeN x.es (x.s + lostF st (segF x))) := by
    rw [flat_app]; exact congrArg _ (after_flat (cutC st x))
  have htop := hok.top hk
  rcases hr with ⟨hne, e1, e2⟩ | ⟨he, e1, e2⟩
  · rw [e1, hfm]
    refine ⟨by rw [hfl], by omega, ?_, ?_⟩
    · rw [List.length_append]
      cases after (cutC st x) <;> simp
    · rw [used_app, used_app, used_one]
      have := after_used (cutC st x)
      have e3 : (cutC st x).es = x.es := rfl
      rw [e3] at this; omega
  · rw [hfm] at he
    rw [he] at hfl
    refine ⟨?_, by omega, by rw [e1]; simp, ?_⟩
    · rw [← hfl, e1, flat_one]; rfl
    · rw [e1, used_one]
      have e3 : layS (newSeg n (topK ((X.map ofSeg ++ [cutC st x]).map Cs.k) + 1)).es = layE (zeroB n) := by simp [newSeg, layS]
      rw [e3]; have := zeroB_len h1 h8; omega
/-- All but the last segment are synced, and of what is left behind any crash there is at least so much. -/
def Fit (xs : List Seg) (f : Nat) : Prop := ∃ X x, xs = X ++ [x] ∧ SyncS X ∧ f ≤ (plainE (flatS X ++ x.es.take (wholeN x.es x.s))).length
theorem fit_new (n : Int) (k : Nat) : Fit [newSeg n k] 0 := ⟨[], _, rfl, (fun y hy => by cases hy), Nat.zero_le _⟩
theorem fit_syn {n : Int} {made : Nat} {xs : List Seg} (h : St n made xs) : Fit (xs.map syn) (plainE (flatS xs)).length := by
  obtain ⟨X, x, rfl⟩ := last_of h.ne
  refine ⟨X.map syn, syn x, by simp, fun y hy => ?_, ?_⟩
  · obtain ⟨z, -, rfl⟩ := List.mem_map.1 hy; rfl
  · rw [syn_flat, flat_app, flat_one, show (syn x).es = x.es from rfl, whole_all x.es (syn x).s (Nat.le_refl _), List.take_length]
    exact Nat.le_refl _
theorem whole_app (a b : List EntP) : ∀ m, wholeN a m ≤ wholeN (a ++ b) m := by
  induction a with
  | nil => exact fun _ => Nat.zero_le _
  | cons e a ih =>
      intro m
      rw [List.cons_append]
      unfold wholeN
      by_cases h : (layE e).length ≤ m
      · rw [if_pos h, if_pos h]; exact Nat.succ_le_succ (ih _)
      · rw [if_neg h, if_neg h]; exact Nat.le_refl _
theorem take_app (a b : List EntP) (m : Nat) : a.take (wholeN a m) <+: (a ++ b).take (wholeN (a ++ b) m) := by
  have h := whole_le a m
  rw [show a.take (wholeN a m) = (a ++ b).take (wholeN a m) by rw [List.take_append_of_le_length h]]
  exact List.take_prefix_take_left (whole_app a b m)
theorem fit_wS {most n : Int} {made f : Nat} {xs : List Seg} {e : EntP} {v w : List Int} (hF : Fit xs f) : Fit (wS most n made xs e v w).xs f := by
  obtain ⟨X, x, rfl, hs, hf⟩ := hF
  by_cases hw : mayW n e v w = true
  · rw [wS_yes hw]
    unfold wrS
    have hsy : SyncS (X ++ [syn x]) := fun y hy => by
      rcases List.mem_append.1 hy with hy | hy
      · exact hs y hy
      · simp only [List.mem_singleton] at hy; subst hy; rfl
    have hfx : f ≤ (plainE (flatS X ++ x.es)).length := Nat.le_trans hf (plain_mono ((List.prefix_append_right_inj _).2 (List.take_prefix _ _)))
    by_cases h4 : (layS x.es).length < 400
    · rw [if_pos h4]
      by_cases h8 : most < usedS (X ++ [x]) + (layE e).length
      · rw [if_pos h8]; exact ⟨X, x, rfl, hs, hf⟩
      · rw [if_neg h8]
        exact ⟨X, _, rfl, hs, Nat.le_trans hf (plain_mono ((List.prefix_append_right_inj _).2 (take_app x.es [e] x.s)))⟩
    · rw [if_neg h4]
      by_cases h8 : most < usedS (X ++ [x]) + ((layE (baseE v w)).length + (layE e).length)
      · rw [if_pos h8]
        refine ⟨X, syn x, rfl, hs, ?_⟩
        rw [show (syn x).es = x.es from rfl, whole_all x.es (syn x).s (Nat.le_refl _), List.take_length]; exact hfx
      · rw [if_neg h8]
        refine ⟨X ++ [syn x], _, rfl, hsy, ?_⟩
        refine Nat.le_trans hfx (plain_mono ?_)
        rw [flat_app, flat_one, show (syn x).es = x.es from rfl]
        exact List.prefix_append _ _
  · rw [wS_no (by simpa using hw)]; exact ⟨X, x, rfl, hs, hf⟩
/-- A crash, and an opening: what stood is there, and of the rest a beginning. -/
theorem fit_crash {n : Int} {made f : Nat} {xs : List Seg} (h1 : 1 ≤ n) (h8 : n ≤ 8) (h : St n made xs) (hm : made < 98) (hF : Fit xs f) (st : Int) :
    ∃ cs, crashL st (xs.map segF) = cs.map csF ∧ CsOk n cs ∧ (∀ c ∈ cs, c.k < 98) ∧ cs.length = xs.length ∧
      ∀ made' ys, OpRel n cs made' ys → plainE (flatS ys) <+: plainE (flatS xs) ∧ f ≤ (plainE (flatS ys)).length ∧ made' ≤ made + 1 ∧ ys.length ≤ xs.length ∧ usedS ys ≤ usedS xs + 46 := by
  obtain ⟨X, x, rfl, hs, hf⟩ := hF
  obtain ⟨cs, e1, e2, e3, e4, e5⟩ := crash_open h1 h8 h hm hs st
  refine ⟨cs, e1, e2, e3, by rw [e4]; simp, fun made' ys hr => ?_⟩
  obtain ⟨g1, g2, g3, g4⟩ := e5 made' ys hr
  refine ⟨?_, ?_, g2, by simpa using g3, g4⟩
  · rw [g1, flat_app, flat_one]
    have : (flatS X ++ x.es.take (wholeN x.es (x.s + lostF st (segF x)))) <+: flatS X ++ x.es := (List.prefix_append_right_inj _).2 (List.take_prefix _ _)
    exact this.filter _
  · rw [g1]
    exact Nat.le_trans hf (plain_mono ((List.prefix_append_right_inj _).2 (List.take_prefix_take_left (whole_mono _ _ _ (Nat.le_add_right _ _)))))
theorem sameG_spec {L : List HProp} {a b : Option Addr} {c d : Nat} {xs ys : List EntV} (hX : ERd (big L) a xs) (hY : ERd (big L) b ys) (hl : xs.length ≤ 1000000) (hv : ∀ e ∈ xs, e.v.xs.length ≤ 1000000 ∧ e.w.xs.length ≤ 1000000) :
    Ct Tryz.prog 21 [.slice a xs.length c, .slice b ys.length d] L (fun v hs => v = .bool (decide (plainV xs = plainV ys)) ∧ hs = L) := by
  have h := sameEntries_spec (U := big L) (a := a) (b := b) (c := c) (d := d) (xs := xs) (ys := ys) hX hY hl hv
  exact (Ct.bigs h fun v hs hh => ⟨[], hh.2⟩).mono fun v hs ⟨r, ⟨e1, e2⟩, e3⟩ => ⟨e1, by cases e2; rw [e3, List.append_nil]⟩
theorem loose_used (xs : List Seg) : looseS xs ≤ usedS xs := by
  unfold looseS usedS
  induction xs with
  | nil => exact Nat.le_refl _
  | cons x xs ih => simp only [List.map_cons, List.sum_cons]; omega
theorem sameT_spec {L : List HProp} {a b : Option Addr} {c d k : Nat} {xs ys : List EntV} (hX : ERd (big L) a xs) (hY : ERd (big L) b ys) (hk : ys.length = k) (hl : xs.length ≤ 1000000) (hv : ∀ e ∈ xs, e.v.xs.length ≤ 1000000 ∧ e.w.xs.length ≤ 1000000) :
    Ct Tryz.prog 21 [.slice a xs.length c, .slice b k d] L (fun v hs => v = .bool (decide (plainV xs = plainV ys)) ∧ hs = L) := by
  subst hk; exact sameG_spec hX hY hl hv
theorem mem_both {S : HProp} {xs : List EntV} {m : EntV} (h : ∀ e ∈ xs, EVd S e) (hm : EVd S m) : ∀ e ∈ xs ++ [m], EVd S e := fun e he => by
  rcases List.mem_append.1 he with he | he
  · exact h e he
  · simp at he; subst he; exact hm
theorem take_plain {want : List EntV} {P Q : List EntP} (hw : plainV want = Q) (h : P <+: Q) : plainV (want.take P.length) = P := by
  show (want.take P.length).map EntV.p = P
  rw [List.map_take]
  rw [show want.map EntV.p = Q from hw]
  exact (List.prefix_iff_eq_take.1 h).symm
abbrev recV (q w : Int) (t : ByteArray) : EntV := ⟨2, noI, noI, ⟨0, q, w, 0, t⟩⟩
theorem rec_may {q w : Int} {t : ByteArray} (h1 : 1 ≤ q) (h2 : q ≤ 1023) (h3 : 0 ≤ w) (h4 : w ≤ 1099511627776) : mayE (recV q w t).p 1 = textB t := by
  show mayE ⟨2, [], [], ⟨0, q, w, 0, t⟩⟩ 1 = textB t
  simp [mayE, recB, keyB, stampB, inB, Rec.key, h1, h2, h3, h4]
theorem rec_mayW {q w j : Int} {t : ByteArray} (h1 : 1 ≤ q) (h2 : q ≤ 1023) (h3 : 0 ≤ w) (h4 : w ≤ 1099511627776) (h5 : 0 ≤ j) (h6 : j ≤ 1023) (ht : textB t = true) : mayW 1 (recV q w t).p [j] [0] = true := by
  rw [mayW_eq, rec_may h1 h2 h3 h4, ht]
  show (!decide ((2 : Int) = 1) && (true && (vecB [j] 1 && (vecB [0] 1 && belowB [0] [j])))) = true
  simp [vecB, belowB, h5, h6]
end Go.Proofs.YtjaafkakeccniaaGreatDoor
