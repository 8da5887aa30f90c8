/- What the closing leans on: part 13. -/
import Derived.Test.YtflfhpokmidnmaaGreatDoorXl
namespace Go.Sl
open Go Go.ChangeShapes
end Go.Sl
namespace Go.Proofs.YtflfhpokmidnmaaGreatDoor
open Go Go.Sl Go.Gv Go.Dv Go.Bst
set_option maxRecDepth 100000
def SyncS (X : List Seg) : Prop := ∀ y ∈ X, y.s = (layS y.es).length
theorem lost_none {st : Int} {x : Seg} (h : x.s = (layS x.es).length) : lostF st (segF x) = 0 := by
 unfold lostF
 show min st.toNat ((layS x.es).length - x.s) = 0
 omega
def cutC (st : Int) (x : Seg) : Cs := ⟨x.k, x.es, x.s + lostF st (segF x), x.s + lostF st (segF x)⟩
theorem crash_csF (st : Int) (x : Seg) : crashF st (segF x) = csF (cutC st x) := rfl
theorem crash_sync {st : Int} {x : Seg} (h : x.s = (layS x.es).length) : crashF st (segF x) = segF x := by
 unfold crashF
 rw [lost_none h]
 show Fl.mk (nameK x.k) ((layS x.es).take (x.s + 0)) (x.s + 0) = segF x
 rw [Nat.add_zero, h, List.take_length]
 unfold segF
 rw [h]
theorem crashN_seg (x : Seg) : ∀ (X : List Seg) (A : List Fl) (st : Int), SyncS X → (names (A ++ (X ++ [x]).map segF)).Nodup →
   crashN st ((X ++ [x]).map fun y => nameK y.k) (A ++ (X ++ [x]).map segF) = A ++ (X.map segF ++ [csF (cutC st x)])
 | [], A, st, _, hn => by
   have hA : (segF x).n ∉ names A := fun h => by
     simp only [names, List.nil_append, List.map_cons, List.map_nil, List.map_append, List.nodup_append] at hn
     exact hn.2.2 _ h _ (by simp) rfl
   have hl : lookF (A ++ segF x :: []) (segF x).n = some (segF x) := at_look hA
   show crashN st [nameK x.k] (A ++ [segF x]) = _
   simp only [crashN]
   rw [show lookF (A ++ [segF x]) (nameK x.k) = some (segF x) from hl]
   show upd (A ++ segF x :: []) (segF x).n (crashF st) = _
   rw [at_upd hA (by simp [names]) (crashF st), crash_csF]; rfl
 | y :: X, A, st, hs, hn => by
   have hA : (segF y).n ∉ names A := fun h => by
     simp only [names, List.cons_append, List.map_cons, List.map_append, List.nodup_append] at hn
     exact hn.2.2 _ h _ (by simp) rfl
   have hB : (segF y).n ∉ names ((X ++ [x]).map segF) := fun h => by
     simp only [names, List.cons_append, List.map_cons, List.map_append (f := Fl.n), List.nodup_append] at hn
     have := hn.2.1
     rw [List.nodup_cons] at this
     exact this.1 (by simpa [names] using h)
   have hl : lookF (A ++ segF y :: (X ++ [x]).map segF) (segF y).n = some (segF y) := at_look hA
   have hy := hs y (by simp)
   show crashN st (nameK y.k :: (X ++ [x]).map fun y => nameK y.k) (A ++ segF y :: (X ++ [x]).map segF) = _
   simp only [crashN]
   rw [show lookF (A ++ segF y :: (X ++ [x]).map segF) (nameK y.k) = some (segF y) from hl]
   show crashN (st - lostF st (segF y)) _ (upd (A ++ segF y :: (X ++ [x]).map segF) (segF y).n (crashF st)) = _
   rw [at_upd hA hB (crashF st), crash_sync hy, lost_none hy, show st - ((0 : Nat) : Int) = st by omega]
   have h := crashN_seg x X (A ++ [segF y]) st (fun z hz => hs z (by simp [hz])) (by simpa using hn)
   simp only [List.append_assoc, List.cons_append, List.nil_append] at h
   simpa using h
theorem crash_seg {n : Int} {made : Nat} {X : List Seg} {x : Seg} (h : Inv n made (X ++ [x])) (hm : made < 100) (hs : SyncS X) (st : Int) : crashL st ((X ++ [x]).map segF) = (X.map ofSeg ++ [cutC st x]).map csF := by
 have hnd : (names ((X ++ [x]).map segF)).Nodup := names_nd (k := Seg.k) (fun _ => rfl) h.asc fun y hy => by have := h.num y hy; omega
 unfold crashL
 rw [sort_seg h hm, List.map_map]
 have e := crashN_seg x X [] st hs (by simpa using hnd)
 rw [List.nil_append, List.nil_append] at e
 rw [show ((nameK ∘ Seg.k) : Seg → ByteArray) = fun y => nameK y.k from rfl, e, List.map_append, List.map_map]
 exact congrArg (· ++ [csF (cutC st x)]) (List.map_congr_left fun y _ => (of_csF y).symm)
theorem cut_ok {n : Int} {made : Nat} {X : List Seg} {x : Seg} (h : Inv n made (X ++ [x])) (hm : made < 99) (st : Int) : CsOk n (X.map ofSeg ++ [cutC st x]) := by
 have hc := h.cs hm
 refine ⟨?_, fun c hcm => ?_, fun c hcm => ?_, fun c hcm => ?_⟩
 · have ha := h.asc
   rw [List.pairwise_append] at ha ⊢
   refine ⟨by rw [List.pairwise_map]; exact ha.1, List.pairwise_singleton _ _, fun a hma b hmb => ?_⟩
   obtain ⟨y, hy, rfl⟩ := List.mem_map.1 hma
   simp only [List.mem_singleton] at hmb
   subst hmb
   exact ha.2.2 y hy x (by simp)
 all_goals
   rcases List.mem_append.1 hcm with hm1 | hm1
 · exact hc.num c (by rw [List.map_append]; exact List.mem_append_left _ hm1)
 · simp only [List.mem_singleton] at hm1; subst hm1
   have := h.num x (by simp); exact ⟨this.1, by show x.k < 99; omega⟩
 · exact hc.good c (by rw [List.map_append]; exact List.mem_append_left _ hm1)
 · simp only [List.mem_singleton] at hm1; subst hm1
   exact h.good x (by simp)
 · exact hc.safe c (by rw [List.map_append]; exact List.mem_append_left _ hm1)
 · simp only [List.mem_singleton] at hm1; subst hm1
   have h1 := h.safe x (by simp)
   have h2 : lostF st (segF x) ≤ (layS x.es).length - x.s := Nat.min_le_right _ _
   show x.s + lostF st (segF x) ≤ ((layS x.es).take (x.s + lostF st (segF x))).length
   rw [List.length_take]; omega
theorem after_flat (x : Cs) : (after x).toList.flatMap Seg.es = x.es.take (wholeN x.es x.m) := by
 unfold after
 by_cases h : wholeN x.es x.m = 0
 · rw [if_pos h, h]; rfl
 · rw [if_neg h]; simp
theorem after_used (x : Cs) : usedS (after x).toList ≤ (layS x.es).length := by
 unfold after
 by_cases h : wholeN x.es x.m = 0
 · rw [if_pos h]; exact Nat.zero_le _
 · rw [if_neg h]
   show (layS (x.es.take (wholeN x.es x.m))).length + 0 ≤ _
   have : layS x.es = layS (x.es.take (wholeN x.es x.m)) ++ layS (x.es.drop (wholeN x.es x.m)) := by rw [← layS_app, List.take_append_drop]
   have := congrArg List.length this
   rw [List.length_append] at this; omega
theorem flat_app (X Y : List Seg) : flatS (X ++ Y) = flatS X ++ flatS Y := by unfold flatS; rw [List.flatMap_append]
theorem used_app (X Y : List Seg) : usedS (X ++ Y) = usedS X + usedS Y := by unfold usedS; rw [List.map_append, List.sum_append]
theorem used_one (x : Seg) : usedS [x] = (layS x.es).length := by simp [usedS]
theorem whole_app (a b : List EntP) : ∀ m, wholeN a m ≤ wholeN (a ++ b) m := by
 induction a with
 | nil => exact fun _ => Nat.zero_le _
 | cons e a ih =>
     intro m
     rw [List.cons_append]
     unfold wholeN
     by_cases h : (layE e).length ≤ m
     · rw [if_pos h, if_pos h]; exact Nat.succ_le_succ (ih _)
     · rw [if_neg h, if_neg h]; exact Nat.le_refl _
theorem take_app (a b : List EntP) (m : Nat) : a.take (wholeN a m) <+: (a ++ b).take (wholeN (a ++ b) m) := by
 have h := whole_le a m
 rw [show a.take (wholeN a m) = (a ++ b).take (wholeN a m) by rw [List.take_append_of_le_length h]]
 exact List.take_prefix_take_left (whole_app a b m)
end Go.Proofs.YtflfhpokmidnmaaGreatDoor
namespace Go.Proofs.YtflfhpokmidnmaaGreatDoor
open Go Go.Sl Go.Gv Go.Kv Go.Po Go.Ix Go.Qu Go.Shelf
set_option maxRecDepth 100000
def recE (r : Rec) : EntP := ⟨2, [], [], r⟩
def firmE (xs : List Seg) : List EntP := flatS xs.dropLast ++ (match xs.getLast? with
 | some x => x.es.take (wholeN x.es x.s)
 | none => [])
theorem firm_snoc (X : List Seg) (x : Seg) : firmE (X ++ [x]) = flatS X ++ x.es.take (wholeN x.es x.s) := by
 unfold firmE
 rw [List.dropLast_concat, List.getLast?_concat]
structure LogOk (n : Nat) (made : Nat) (xs : List Seg) (s : StM) : Prop where
 st : St n made xs
 play : playM n (flatS xs) = s
 bases : BasesOk n [] (xs.map Seg.es)
 safe : SyncS xs.dropLast
 firm : ∀ e, (flatS xs).head? = some e → ∀ o, o < n → at0 e.v o ≤ at0 (playM n (firmE xs)).w o
theorem LogOk.ok {n made : Nat} {xs : List Seg} {s : StM} (h : LogOk n made xs s) : OkM n s := by rw [← h.play]; exact OkM.play n _
theorem flat_ne {n : Int} {made : Nat} {xs : List Seg} (h : St n made xs) : flatS xs ≠ [] := fun e => by
 obtain ⟨x, h1, -⟩ := first_base h
 rw [e] at h1; cases h1
theorem flat_esl (xs : List Seg) : (xs.map Seg.es).flatten = flatS xs := by unfold flatS; rw [List.flatMap_def]
theorem flatS_app (a b : List Seg) : flatS (a ++ b) = flatS a ++ flatS b := List.flatMap_append ..
theorem head_app {α : Type} {a b : List α} (h : a ≠ []) : (a ++ b).head? = a.head? := by cases a with | nil => exact (h rfl).elim | cons x a => rfl
theorem belowB_of : ∀ {a b : List Int}, a.length = b.length → (∀ o, o < a.length → at0 a o ≤ at0 b o) → belowB a b = true
 | [], [], _, _ => rfl
 | [], _ :: _, h, _ => by cases h
 | _ :: _, [], h, _ => by cases h
 | x :: a, y :: b, hl, h => by
   have h0 := h 0 (by simp)
   have ht := belowB_of (a := a) (b := b) (by simpa using hl) fun o ho => by
     have := h (o + 1) (by simpa using ho)
     simpa [at0] using this
   have e : x ≤ y := by simpa [at0] using h0
   show (decide (x ≤ y) && belowB a b) = true
   rw [decide_eq_true e, ht]; rfl
theorem at0_mem {v : List Int} {x : Int} (h : x ∈ v) : ∃ o, o < v.length ∧ at0 v o = x := by
 obtain ⟨o, ho, rfl⟩ := List.mem_iff_getElem.1 h
 refine ⟨o, ho, ?_⟩
 unfold at0; rw [List.getD_eq_getElem?_getD, List.getElem?_eq_getElem ho]; rfl
theorem OkM.vecs {n : Nat} {s : StM} (h : OkM n s) (h1 : 1 ≤ n) (h8 : n ≤ 8) : vecB s.v n = true ∧ vecB s.w n = true ∧ belowB s.w s.v = true := by
 have hv := StOk.v h
 have hw := StOk.w h
 refine ⟨vecB_iff.2 ⟨by omega, by omega, by omega, fun x hx => ?_⟩, vecB_iff.2 ⟨by omega, by omega, by omega, fun x hx => ?_⟩, belowB_of (by omega) fun o ho => (StOk.le h o (by omega)).2.1⟩
 · obtain ⟨o, ho, rfl⟩ := at0_mem hx
   have := StOk.le h o (by omega); omega
 · obtain ⟨o, ho, rfl⟩ := at0_mem hx
   have := StOk.le h o (by omega); omega
theorem mayW_rec {n : Nat} {s : StM} (h : OkM n s) (h1 : 1 ≤ n) (h8 : n ≤ 8) {r : Rec} (hr : recB r = true) (ho : r.o < (n : Int)) : mayW n (recE r) s.v s.w = true := by
 obtain ⟨a, b, c⟩ := h.vecs h1 h8
 have hm : mayE (recE r) n = true := by
   show (decide (([] : List Int) = []) && decide (([] : List Int) = []) && decide (1 ≤ (n : Int)) && decide ((n : Int) ≤ 8) && decide (r.o < (n : Int)) && recB r) = true
   rw [decide_eq_true (show 1 ≤ (n : Int) by omega), decide_eq_true (show (n : Int) ≤ 8 by omega), decide_eq_true ho, hr]; rfl
 unfold mayW
 rw [a, b, c, hm]; rfl
theorem play_nil (n : Nat) : playM n [] = zeroM n := by
 show raiM (zeroM n) [] = zeroM n
 unfold raiM
 refine if_neg fun h => ?_
 obtain ⟨h1, -, h3, -⟩ := vecB_iff.1 h
 simp at h3
 omega
theorem zeroM_w (n : Nat) {o : Nat} (ho : o < n) : at0 (zeroM n).w o = 0 := by
 show at0 (List.replicate n (0 : Int)) o = 0
 unfold at0; rw [List.getD_eq_getElem?_getD, List.getElem?_replicate, if_pos ho]; rfl
theorem play_mono {n : Nat} {a b : List EntP} (h : a <+: b) {o : Nat} (ho : o < n) : at0 (playM n a).w o ≤ at0 (playM n b).w o := by
 obtain ⟨t, rfl⟩ := h
 by_cases ha : a = []
 · subst ha
   rw [play_nil, zeroM_w n ho]
   exact (StOk.le (OkM.play n _) o ho).1
 · rw [play_app ha]; exact w_mono ho t (OkM.play n a)
theorem flat_snoc (X : List Seg) (x : Seg) : flatS (X ++ [x]) = flatS X ++ x.es := by rw [flatS_app]; simp [flatS]
theorem firm_pre {n made : Nat} {xs : List Seg} (h : St n made xs) : firmE xs <+: flatS xs := by
 obtain ⟨X, x, rfl⟩ := last_of h.ne
 rw [firm_snoc, flat_snoc]
 exact (List.prefix_append_right_inj _).2 (List.take_prefix _ _)
theorem LogOk.base0 {n made : Nat} {xs : List Seg} {s : StM} (h : LogOk n made xs s) : ∀ e, (flatS xs).head? = some e → ∀ o, o < n → at0 e.v o ≤ at0 s.w o := fun e he o ho => by
 have := play_mono (n := n) (firm_pre h.st) ho
 rw [h.play] at this
 exact Int.le_trans (h.firm e he o ho) this
theorem LogOk.ext {n made made' : Nat} {xs ys : List Seg} {s s' : StM} (h : LogOk n made xs s) (hst : St n made' ys) {t : List EntP} (hf : flatS ys = flatS xs ++ t) (hp : playM n (flatS ys) = s') (hb : BasesOk n [] (ys.map Seg.es)) (hs : SyncS ys.dropLast) (hfm : firmE xs <+: firmE ys) : LogOk n made' ys s' :=
 ⟨hst, hp, hb, hs, fun e he o ho => by
   rw [hf, head_app (flat_ne h.st)] at he
   exact Int.le_trans (h.firm e he o ho) (play_mono hfm ho)⟩
theorem LogOk.write {most : Int} {n made : Nat} {xs : List Seg} {s : StM} (h : LogOk n made xs s) {e : EntP} (hw : mayW n e s.v s.w = true) :
   LogOk n (wS most n made xs e s.v s.w).made (wS most n made xs e s.v s.w).xs (if (wS most n made xs e s.v s.w).e = 0 then stepM s e else s) := by
 have hst := wS_st (most := most) (e := e) (v := s.v) (w := s.w) h.st
 obtain ⟨hk, -, hbase⟩ := mayW_iff hw
 obtain ⟨X, x, rfl⟩ := last_of h.st.ne
 have hne := flat_ne h.st
 have hb := h.bases
 have hsX : SyncS X := by have := h.safe; rwa [List.dropLast_concat] at this
 rw [List.map_append] at hb
 have hbv : vecB s.v n = true := by
   unfold mayE baseE at hbase
   simp only [if_true, Bool.and_eq_true] at hbase
   exact hbase.1.1.2
 have hsyn : (syn x).es.take (wholeN (syn x).es (syn x).s) = x.es := by
   rw [show (syn x).es = x.es from rfl, whole_all x.es (syn x).s (Nat.le_refl _), List.take_length]
 rw [wS_yes hw] at hst ⊢
 unfold wrS at hst ⊢
 split at hst
 · rename_i hc
   rw [if_pos hc]
   split at hst
   · rename_i hf
     rw [if_pos hf, if_neg (fun h => absurd h (by show ¬ (8 : Int) = 0; decide))]
     exact h
   · rename_i hf
     rw [if_neg hf, if_pos rfl]
     have hfe : flatS (X ++ [⟨x.k, x.es ++ [e], x.s⟩]) = flatS (X ++ [x]) ++ [e] := by rw [flat_snoc, flat_snoc, List.append_assoc]
     refine h.ext hst hfe (by rw [hfe, play_snoc hne, h.play]) (by rw [List.map_append]; exact bases_grow hb e) (by rw [List.dropLast_concat]; exact hsX) ?_
     rw [firm_snoc, firm_snoc]
     exact (List.prefix_append_right_inj _).2 (take_app x.es [e] x.s)
 · rename_i hc
   rw [if_neg hc]
   split at hst
   · rename_i hf
     rw [if_pos hf, if_neg (fun h => absurd h (by show ¬ (8 : Int) = 0; decide))]
     have hfe : flatS (X ++ [syn x]) = flatS (X ++ [x]) ++ [] := by rw [flat_snoc, flat_snoc, List.append_nil]; rfl
     refine h.ext hst hfe (by rw [hfe, List.append_nil, h.play]) (by rw [List.map_append]; exact hb) (by rw [List.dropLast_concat]; exact hsX) ?_
     rw [firm_snoc, firm_snoc, hsyn]
     exact (List.prefix_append_right_inj _).2 (List.take_prefix _ _)
   · rename_i hf
     rw [if_neg hf, if_pos rfl]
     have hfe : flatS (X ++ [syn x] ++ [⟨made + 1, [baseE s.v s.w, e], 0⟩]) = flatS (X ++ [x]) ++ [baseE s.v s.w, e] := by
       rw [flat_snoc, flat_snoc, flat_snoc]; rfl
     refine h.ext hst hfe ?_ ?_ ?_ ?_
     · rw [hfe, play_base hne (b := baseE s.v s.w) (by show (1 : Int) ≠ 2; decide) (by rw [h.play]; rfl), play_snoc hne, h.play]
     · rw [List.map_append]
       refine bases_new (X := (X ++ [syn x]).map Seg.es) (by rw [List.map_append]; exact hb) (b := baseE s.v s.w) hbv ?_ [e]
       rw [flat_esl, flat_snoc, show (syn x).es = x.es from rfl, ← flat_snoc, h.play]
       rfl
     · rw [List.dropLast_concat]
       intro y hy
       rcases List.mem_append.1 hy with hy | hy
       · exact hsX y hy
       · rw [List.mem_singleton.1 hy]; rfl
     · rw [firm_snoc, firm_snoc, flat_snoc, show (syn x).es = x.es from rfl, List.append_assoc]
       refine (List.prefix_append_right_inj _).2 (List.IsPrefix.trans (List.take_prefix _ _) (List.prefix_append _ _))
theorem LogOk.len {n made : Nat} {xs : List Seg} {s : StM} (h : LogOk n made xs s) : xs.length ≤ made := by
 have h1 := h.st.inv.asc
 have h2 := h.st.inv.num
 have : ∀ (xs : List Seg) (lo : Nat), xs.Pairwise (fun x y => x.k < y.k) → (∀ x ∈ xs, lo < x.k ∧ x.k ≤ made) → xs.length + lo ≤ max lo made := by
   intro xs
   induction xs with
   | nil => intro lo _ _; simp; omega
   | cons x xs ih =>
     intro lo hp hn
     have hp' := List.pairwise_cons.1 hp
     have hx := hn x (by simp)
     have := ih x.k hp'.2 fun y hy => ⟨hp'.1 y hy, (hn y (by simp [hy])).2⟩
     rw [List.length_cons]; omega
 have := this xs 0 h1 fun x hx => ⟨by have := (h2 x hx).1; omega, (h2 x hx).2⟩
 omega
structure NdOk (m : NdM) : Prop where
 n1 : 1 ≤ m.n
 n8 : m.n ≤ 8
 idn : m.id < m.n
 log : LogOk m.n m.made m.xs m.s
 clk : clkB m.clk = true
 wall : clkW m.wall = true
 few : m.held.length ≤ 12
 held : ∀ r ∈ m.held, recB r = true ∧ r.o < (m.n : Int)
 used : (usedS m.xs : Int) ≤ m.room
 room : m.room ≤ 1048576
def addM (m : NdM) (r : Rec) : Int × NdM :=
 let o := wS m.room m.n m.made m.xs (recE r) m.s.v m.s.w
 if o.e = 0 then (0, ⟨m.id, m.n, m.wall, m.room, m.clk, accM m.s r, dropL (accM m.s r).v m.held, o.made, o.xs⟩) else (o.e, ⟨m.id, m.n, m.wall, m.room, m.clk, m.s, m.held, o.made, o.xs⟩)
theorem wS_fits {most n : Int} {made : Nat} {xs : List Seg} {e : EntP} {v w : List Int} (h : St n made xs) (hu : (usedS xs : Int) ≤ most) : (usedS (wS most n made xs e v w).xs : Int) ≤ most := by
 obtain ⟨X, x, rfl⟩ := last_of h.ne
 cases hm : mayW n e v w with
 | false => rw [wS_no hm]; exact hu
 | true =>
   rw [wS_yes hm]
   unfold wrS
   have hs : usedS (X ++ [syn x]) = usedS (X ++ [x]) := by simp only [used_snoc, syn]
   split
   · split
     · exact hu
     · rename_i hf
       simp only [used_snoc, layS_snoc, List.length_append] at hf ⊢
       omega
   · split
     · show (usedS (X ++ [syn x]) : Int) ≤ most
       rw [hs]; exact hu
     · rename_i hf
       show (usedS (X ++ [syn x] ++ [⟨made + 1, [baseE v w, e], 0⟩]) : Int) ≤ most
       rw [used_snoc, hs, layS_two, List.length_append]
       omega
theorem dropL_sub (ws : List Int) (L : List Rec) : ∀ r ∈ dropL ws L, r ∈ L := fun r h => (List.mem_filter.1 h).1
theorem dropL_len (ws : List Int) (L : List Rec) : (dropL ws L).length ≤ L.length := List.length_filter_le ..
theorem NdOk.add {m : NdM} (h : NdOk m) {r : Rec} (hr : recB r = true) (ho : r.o < (m.n : Int)) : NdOk (addM m r).2 := by
 have hw := mayW_rec h.log.ok h.n1 h.n8 hr ho
 have hl := h.log.write (most := m.room) hw
 have hu := wS_fits (most := m.room) (e := recE r) (v := m.s.v) (w := m.s.w) h.log.st h.used
 unfold addM
 dsimp only
 split
 · rename_i he
   rw [if_pos he] at hl
   exact ⟨h.n1, h.n8, h.idn, hl, h.clk, h.wall, Nat.le_trans (dropL_len ..) h.few, fun x hx => h.held x (dropL_sub _ _ x hx), hu, h.room⟩
 · rename_i he
   rw [if_neg he] at hl
   exact ⟨h.n1, h.n8, h.idn, hl, h.clk, h.wall, h.few, h.held, hu, h.room⟩
end Go.Proofs.YtflfhpokmidnmaaGreatDoor
namespace Go.Sl
open Go
theorem Ct.know {P : Program} {f : FuncId} {args : List Value} {pre : List HProp} {post post' : Value → List HProp → Prop} (c : Ct P f args pre post) (i : ∀ w0 w v hs R, post v hs → Sat w0 w (hs ++ R) → post' v hs) : Ct P f args pre post' :=
 ⟨c.enters, fun w0 w R s => (c.calls w0 w R s).mono fun _ _ ⟨v, hs, e, p, t⟩ => ⟨v, hs, e, i _ _ _ _ _ p t, t⟩⟩
end Go.Sl
namespace Go.Proofs.YtflfhpokmidnmaaGreatDoor
open Go Go.Sl Go.Gv Go.Kv Go.Po Go.Ix Go.Qu Go.Shelf
set_option maxRecDepth 100000
theorem nV_some (b : Nat) (q : NdQ) (id n : Nat) (wall : Int) (V W : List Int) (rs : List Rec) (hl : V.length ≤ 1000) (hne : V ≠ []) :
   Ct Tryz.prog 11 [ptr b] [cl b 76 (ndC q id n wall), stA q.st V W rs] (fun v hs => ∃ vb vo vc, v = .slice (some ⟨vb, vo, none⟩) V.length vc ∧ hs = [cl b 76 (ndC q id n wall), stA q.st V W rs, sl 3 1 intC (some ⟨vb, vo, none⟩) vc V]) :=
 (nV_spec b q id n wall V W rs hl).know (by
   rintro w0 w v hs R ⟨a, c, rfl, rfl⟩ s
   obtain ⟨vb, vo, rfl, -⟩ := SlH.own (w0 := w0) (E := 3) (sz := 1) (enc := intC) (a := a) (c := c) (xs := V) (H := [cl b 76 (ndC q id n wall), stA q.st V W rs, sl 3 1 intC a c V] ++ R) (by repeat constructor) w s hne
   exact ⟨vb, vo, c, rfl, rfl⟩)
theorem nadd_spec {h0 : Hp} (T : TabX h0) (b : Nat) (q : NdQ) (m : NdM) (h : NdOk m) (r : Rec) (hr : recB r = true) (ho : r.o < (m.n : Int)) (hq : r.q = at0 m.s.v r.o.toNat + 1) (hm : m.made < 98) (hl : m.s.rs.length ≤ 700) :
   Ct Tryz.prog 37 [ptr b, recV r] (ndL b q m ++ [ro h0]) (fun v hs => v = int (addM m r).1 ∧ hs = ndL b q (addM m r).2 ++ [ro h0]) := by
 have hok := h.log.ok
 have hv := StOk.v hok
 have hwl := StOk.w hok
 have h8 := h.n8
 have hxl := h.log.len
 have hu := h.used
 have hrm := h.room
 have hp := recB_parts hr
 obtain ⟨hok', hni⟩ := StOk.acc hok hr (o := r.o.toNat) (by omega) (by omega) hq hp.2.2.2
 have hacc : accM m.s r = ⟨m.s.v.set r.o.toNat r.q, m.s.w, m.s.rs ++ [r]⟩ := accM_yes hr (by omega) hq
 have hrs : m.s.rs ++ [r] = (accM m.s r).rs := by rw [hacc]
 have hvl : (accM m.s r).v.length ≤ 1000 := by rw [hacc]; show (m.s.v.set _ _).length ≤ 1000; rw [List.length_set]; omega
 have hfew := h.few
 obtain ⟨o, hO⟩ : ∃ o, o = wS m.room m.n m.made m.xs (recE r) m.s.v m.s.w := ⟨_, rfl⟩
 refine Cti Tryz.func37 (by kernel_rfl) 52 Tryz.ntmps37 rfl rfl fun w0 R => ?_
 refine Gsr (La rfl (ac_box rfl rfl) ?_)
 rintro _ _ ⟨rb, rfl, rfl⟩
 refine Las rfl rfl (Lnt (Gs.seq (Gs.seq (Gs.regD mixed (by kernel_rfl) (Rmv 0 rfl (by kernel_rfl) rfl (Rq 1 rfl (by kernel_rfl) (by first | exact pu_nil rfl | exact pu_nilF rfl) ?_))))))
 refine Rq 2 rfl (by kernel_rfl) (pu_fa fa_76_0 rfl) (Rq 3 rfl (by kernel_rfl) (pu_fa fa_74_5 rfl) (Rr 4 rfl (by kernel_rfl) (rd_ld na_72 rfl (Rdc.cl1 (by repeat constructor) rfl)) ?_))
 refine Rr 5 rfl (by kernel_rfl) (rd_lda ag_50 rfl (Rdc.cl 5 (by repeat constructor) rfl) rfl) ?_
 refine Rq 6 rfl (by kernel_rfl) (pu_build bd_106 (by repeat constructor) rfl) ?_
 refine Rmv 7 rfl (by kernel_rfl) rfl (Rmv 9 rfl (by kernel_rfl) rfl (Rg.one (by kernel_rfl) (Stp.acR 8 [4, 5] rfl rfl (by kernel_rfl) trivial (asC (nV_spec b q m.id m.n m.wall m.s.v m.s.w m.s.rs (by omega))) (by rintro _ _ ⟨_, ⟨va, vc, rfl, rfl⟩, rfl⟩; exact (Reads.cons rfl rfl rfl trivial rfl (rd_ld na_72 rfl (Rdc.cl1 (by repeat constructor) rfl)) (Reads.cons rfl rfl rfl trivial rfl (rd_lda ag_50 rfl (Rdc.cl 5 (by repeat constructor) rfl) rfl) Reads.nil))) ?_)))
 rintro _ _ ⟨_, ⟨va, vc, rfl, rfl⟩, rfl⟩
 refine Rg.one (by kernel_rfl) (Stp.acR 10 [4, 5] rfl rfl (by kernel_rfl) trivial (asC (nW_spec b q m.id m.n m.wall m.s.v m.s.w m.s.rs (by omega))) (by rintro _ _ ⟨_, ⟨wa, wc, rfl, rfl⟩, rfl⟩; exact (Reads.cons rfl rfl rfl trivial rfl (rd_ld na_72 rfl (Rdc.cl1 (by repeat constructor) rfl)) (Reads.cons rfl rfl rfl trivial rfl (rd_lda ag_50 rfl (Rdc.cl 5 (by repeat constructor) rfl) rfl) Reads.nil))) ?_)
 rintro _ _ ⟨_, ⟨wa, wc, rfl, rfl⟩, rfl⟩
 refine Rg.one (by kernel_rfl) (Stp.ac 11 rfl rfl (by kernel_rfl) trivial (asC (writeG_spec (b := q.lg) (d := q.dk) (n := m.n) (most := m.room) (made := m.made) (xs := m.xs) (L := [sl 3 1 intC va vc m.s.v, sl 3 1 intC wa wc m.s.w, ro h0]) (e := ⟨2, ⟨none, [], 0⟩, ⟨none, [], 0⟩, r⟩) (v := m.s.v) (w := m.s.w) ⟨Srd.nil, Srd.nil⟩ (Srd.bigs (A := sl 3 1 intC va vc m.s.v) Srd.own (by simp)) (Srd.bigs (A := sl 3 1 intC wa wc m.s.w) Srd.own (by simp)) ((rms_ro T.1).inn (Inn.mem (by simp))) (by have := h.n1; omega) (by omega) h.log.st hm (by omega) (by omega)))  ?_)
 rintro _ _ ⟨_, ⟨rfl, rfl⟩, rfl⟩
 rw [show (wS m.room m.n m.made m.xs (EntV.p ⟨2, ⟨none, [], 0⟩, ⟨none, [], 0⟩, r⟩) m.s.v m.s.w) = o from hO.symm]
 refine Rq 12 rfl (by kernel_rfl) (pu_assign rfl) (Rg.end (by kernel_rfl) (Gn (Gsr (Lmv rfl rfl (Lq rfl (pu_ne rfl rfl) (Lnt (Gs.cond rfl (fun hc0 => ?_) (fun hc0 => ?_))))))))
 ·
  have hz := of_decide_eq_true hc0
  have hA : addM m r = (o.e, ⟨m.id, m.n, m.wall, m.room, m.clk, m.s, m.held, o.made, o.xs⟩) := by
    unfold addM; rw [← hO]; exact if_neg hz
  refine Gsr (Lmv rfl rfl (Las rfl rfl (Lnt (Gs.ret (Gr ?_)))))
  exact Gs.fin1 Tryz.results37 rfl _ (⟨by rw [hA], by rw [hA]⟩) (by repeat constructor)
 have hz := Decidable.not_not.1 (of_decide_eq_false hc0)
 have hA : addM m r = (0, ⟨m.id, m.n, m.wall, m.room, m.clk, accM m.s r, dropL (accM m.s r).v m.held, o.made, o.xs⟩) := by
   unfold addM; rw [← hO]; exact if_pos hz
 refine Gs.skip (Gn (Gs.seq (Gs.regD mixed (by kernel_rfl) (Rmv 0 rfl (by kernel_rfl) rfl (Rq 1 rfl (by kernel_rfl) (by first | exact pu_nil rfl | exact pu_nilF rfl) ?_)))))
 refine Rq 2 rfl (by kernel_rfl) (pu_fa fa_76_0 rfl) (Rq 3 rfl (by kernel_rfl) (pu_fa fa_74_0 rfl) (Rr 4 rfl (by kernel_rfl) (rd_ld na_67 rfl (Rdc.cl1 (by repeat constructor) rfl)) ?_))
 refine Rr 5 rfl (by kernel_rfl) (rd_lda ag_50 rfl (Rdc.cl 5 (by repeat constructor) rfl) rfl) ?_
 refine Rg.one (by kernel_rfl) (Stp.ac 6 rfl rfl (by kernel_rfl) trivial (asC (accept_spec T.1 q.st m.s hok h8 r))  ?_)
 rintro _ _ ⟨_, ⟨⟨e1, rfl⟩, rfl⟩, rfl⟩
 refine Rg.end (by kernel_rfl) (Gn (Gs.seq (Gs.regD mixed (by kernel_rfl) (Rmv 0 rfl (by kernel_rfl) rfl (Rq 1 rfl (by kernel_rfl) (by first | exact pu_nil rfl | exact pu_nilF rfl) ?_)))))
 refine Rq 2 rfl (by kernel_rfl) (pu_fa fa_76_0 rfl) (Rq 3 rfl (by kernel_rfl) (pu_fa fa_74_2 rfl) (Rr 4 rfl (by kernel_rfl) (rd_ld na_69 rfl (Rdc.cl1 (by repeat constructor) rfl)) ?_))
 refine Rr 5 rfl (by kernel_rfl) (rd_lda ag_50 rfl (Rdc.cl 5 (by repeat constructor) rfl) rfl) ?_
 refine Rg.one (by kernel_rfl) (Stp.acK 6 rfl rfl (by kernel_rfl) trivial (ac_lit encC_50 ([r]) et_32 ek_50 rfl (by repeat constructor) rfl rfl (by decide)) (by rintro _ _ ⟨a34, rfl, rfl⟩ w s; first | exact s.drop | exact s | exact Ent.sat (by repeat constructor) s) ?_)
 rintro _ _ ⟨a34, rfl, rfl⟩
 refine Rg.one (by kernel_rfl) (Stp.ac 7 rfl rfl (by kernel_rfl) trivial (asC (shPut_spec T q.sh m.s.rs r hr hni hl (some ⟨a34, 0, none⟩) 1))  ?_)
 rintro _ _ ⟨_, ⟨⟨e2, rfl⟩, rfl⟩, rfl⟩
 rw [hrs]
 refine Rg.end (by kernel_rfl) (Gn (Gs.seq (Gs.regD mixed (by kernel_rfl) (Rmv 0 rfl (by kernel_rfl) rfl (Rq 1 rfl (by kernel_rfl) (by first | exact pu_nil rfl | exact pu_nilF rfl) ?_)))))
 refine Rq 2 rfl (by kernel_rfl) (pu_fa fa_76_0 rfl) (Rq 3 rfl (by kernel_rfl) (pu_fa fa_74_3 rfl) (Rr 4 rfl (by kernel_rfl) (rd_ld na_70 rfl (Rdc.cl1 (by repeat constructor) rfl)) ?_))
 refine Rr 5 rfl (by kernel_rfl) (rd_lda ag_50 rfl (Rdc.cl 5 (by repeat constructor) rfl) rfl) ?_
 refine Rg.one (by kernel_rfl) (Stp.acK 6 rfl rfl (by kernel_rfl) trivial (ac_lit encC_50 ([r]) et_32 ek_50 rfl (by repeat constructor) rfl rfl (by decide)) (by rintro _ _ ⟨a42, rfl, rfl⟩ w s; first | exact s.drop | exact s | exact Ent.sat (by repeat constructor) s) ?_)
 rintro _ _ ⟨a42, rfl, rfl⟩
 refine Rg.one (by kernel_rfl) (Stp.ac 7 rfl rfl (by kernel_rfl) trivial (asC (trPut_spec T q.tr m.s.rs r hr hni (by omega) (some ⟨a42, 0, none⟩) 1))  ?_)
 rintro _ _ ⟨_, ⟨⟨e3, rfl⟩, rfl⟩, rfl⟩
 rw [hrs]
 refine Rg.end (by kernel_rfl) (Gn (Gs.seq (Gs.regD mixed (by kernel_rfl) (Rmv 0 rfl (by kernel_rfl) rfl (Rq 1 rfl (by kernel_rfl) (by first | exact pu_nil rfl | exact pu_nilF rfl) ?_)))))
 refine Rq 2 rfl (by kernel_rfl) (pu_fa fa_76_0 rfl) (Rq 3 rfl (by kernel_rfl) (pu_fa fa_74_4 rfl) (Rr 4 rfl (by kernel_rfl) (rd_ld na_71 rfl (Rdc.cl1 (by repeat constructor) rfl)) ?_))
 refine Rmv 5 rfl (by kernel_rfl) rfl (Rg.one (by kernel_rfl) (Stp.acR 6 [4] rfl rfl (by kernel_rfl) trivial (asC (nV_spec b q m.id m.n m.wall (accM m.s r).v (accM m.s r).w (accM m.s r).rs hvl)) (by rintro _ _ ⟨_, ⟨xa, xc, rfl, rfl⟩, rfl⟩; exact (Reads.cons rfl rfl rfl trivial rfl (rd_ld na_71 rfl (Rdc.cl1 (by repeat constructor) rfl)) Reads.nil)) ?_))
 rintro _ _ ⟨_, ⟨xa, xc, rfl, rfl⟩, rfl⟩
 refine Rg.one (by kernel_rfl) (Stp.ac 7 rfl rfl (by kernel_rfl) trivial (asC (drop_specH q.he q.mh 12 m.held (by omega) (fun x hx => (recB_parts (h.held x hx).1).1) (S := sl 3 1 intC xa xc (accM m.s r).v) Srd.own))  ?_)
 rintro _ _ ⟨_, ⟨rfl, rfl⟩, rfl⟩
 refine Rg.end (by kernel_rfl) (Gn (Gsr (Las rfl rfl (Lnt (Gs.ret ?_)))))
 exact Gs.fin1 Tryz.results37 rfl _ (⟨by rw [hA], by rw [hA]⟩) (by repeat constructor)
def appM (m : NdM) (t : ByteArray) : (Key × Int) × NdM :=
 if textB t = false then ((⟨0, 0⟩, 3), m)
 else if 1023 < at0 m.s.v m.id + 1 then ((⟨0, 0⟩, 4), m)
 else
   let c := tickC m.clk m.wall
   let m1 : NdM := ⟨m.id, m.n, m.wall, m.room, c.1, m.s, m.held, m.made, m.xs⟩
   if c.2 ≠ 0 then ((⟨0, 0⟩, c.2), m1)
   else
     let r : Rec := ⟨m.id, at0 m.s.v m.id + 1, c.1.1, c.1.2, t⟩
     let a := addM m1 r
     if a.1 = 0 then ((r.key, 0), a.2) else ((⟨0, 0⟩, a.1), ⟨m.id, m.n, m.wall, m.room, m.clk, a.2.s, a.2.held, a.2.made, a.2.xs⟩)
theorem app_rec {m : NdM} (h : NdOk m) {t : ByteArray} (ht : textB t = true) (hq : ¬ 1023 < at0 m.s.v m.id + 1) : recB ⟨m.id, at0 m.s.v m.id + 1, (tickC m.clk m.wall).1.1, (tickC m.clk m.wall).1.2, t⟩ = true := by
 have hle := StOk.le h.log.ok m.id h.idn
 have hid := h.idn
 have h8 := h.n8
 have hc : stampB (tickC m.clk m.wall).1.1 (tickC m.clk m.wall).1.2 = true := tickC_ok h.clk m.wall
 unfold recB keyB
 simp only [Bool.and_eq_true, decide_eq_true_eq]
 refine ⟨⟨⟨⟨⟨?_, ?_⟩, ?_⟩, ?_⟩, hc⟩, ht⟩
 · show (0 : Int) ≤ (m.id : Int); omega
 · show (m.id : Int) < 8; omega
 · show 1 ≤ at0 m.s.v m.id + 1; omega
 · show at0 m.s.v m.id + 1 ≤ 1023; omega
theorem NdOk.clock {m : NdM} (h : NdOk m) {c : Int × Int} (hc : clkB c = true) : NdOk ⟨m.id, m.n, m.wall, m.room, c, m.s, m.held, m.made, m.xs⟩ :=
 ⟨h.n1, h.n8, h.idn, h.log, hc, h.wall, h.few, h.held, h.used, h.room⟩
theorem addM_keep (m : NdM) (r : Rec) : (addM m r).2.id = m.id ∧ (addM m r).2.n = m.n ∧ (addM m r).2.wall = m.wall ∧ (addM m r).2.room = m.room ∧ (addM m r).2.clk = m.clk := by
 unfold addM; dsimp only; split <;> exact ⟨rfl, rfl, rfl, rfl, rfl⟩
theorem nappend_spec {h0 : Hp} (T : TabX h0) (b : Nat) (m : NdM) (h : NdOk m) (t : ByteArray) (hm : m.made < 98) (hl : m.s.rs.length ≤ 700) :
   Ct Tryz.prog 13 [ptr b, .string t] [ndA b m, ro h0] (fun v hs => v = .tuple #[keyV (appM m t).1.1, int (appM m t).1.2] ∧ hs = [ndA b (appM m t).2, ro h0]) := by
 have hok := h.log.ok
 have hv := StOk.v hok
 have h8 := h.n8
 have hidl : m.id < m.s.v.length := by rw [hv]; exact h.idn
 have hle := StOk.le hok m.id h.idn
 have gV := at0_get hidl
 have hne : m.s.v ≠ [] := by intro e; rw [e] at hidl; simp at hidl
 have hin : (Int.toNat ((m.id : Nat) : Int)) = m.id := Int.toNat_natCast _
 have hcl := clkB_iff.1 (tickC_ok h.clk m.wall)
 refine Cti Tryz.func13 (by kernel_rfl) 78 Tryz.ntmps13 rfl rfl fun w0 R => ?_
 refine Gs.nd fun q => ?_
 refine Gsr (La rfl (ac_alloc zv_35 rfl) ?_)
 rintro _ _ ⟨ob, rfl, rfl⟩
 refine Las rfl rfl (Lnt (Gs.seq (Gsr (Lmv rfl rfl (La rfl (asC (ndown_spec b q m.id m.n m.wall)) ?_)))))
 rintro _ _ ⟨_, ⟨rfl, rfl⟩, rfl⟩
 refine Las rfl rfl (Lnt (Gsr (Lmv rfl rfl (Lq rfl (pu_ne rfl rfl) (Lnt (Gs.cond_ff rfl rfl (Gs.skip (Gn (Gs.seq (Gs.regD mixed (by kernel_rfl) (Rmv 0 rfl (by kernel_rfl) rfl ?_)))))))))))
 refine Rq 1 rfl (by kernel_rfl) (by first | exact pu_nil rfl | exact pu_nilF rfl) ?_
 refine Rq 2 rfl (by kernel_rfl) (pu_fa fa_76_1 rfl) (Rr 3 rfl (by kernel_rfl) (rd_ld na_3 rfl (Rdc.cl1 (by repeat constructor) rfl)) ?_)
 refine Rmv 4 rfl (by kernel_rfl) rfl (Rmv 6 rfl (by kernel_rfl) rfl (Rq 7 rfl (by kernel_rfl) (by first | exact pu_nil rfl | exact pu_nilF rfl) ?_))
 refine Rq 8 rfl (by kernel_rfl) (pu_fa fa_76_1 rfl) (Rr 9 rfl (by kernel_rfl) (rd_ld na_3 rfl (Rdc.cl1 (by repeat constructor) rfl)) ?_)
 refine Rmv 14 rfl (by kernel_rfl) rfl (Rg.two (by kernel_rfl) (Stp.acR 5 [3, 9] rfl rfl (by kernel_rfl) trivial (asC (nV_some b q m.id m.n m.wall m.s.v m.s.w m.s.rs (by omega) hne)) (by rintro _ _ ⟨_, ⟨vb, vo, vc, rfl, rfl⟩, rfl⟩; exact (Reads.cons rfl rfl rfl trivial rfl (rd_ld na_3 rfl (Rdc.cl1 (by repeat constructor) rfl)) (Reads.cons rfl rfl rfl trivial rfl (rd_ld na_3 rfl (Rdc.cl1 (by repeat constructor) rfl)) Reads.nil))) ?_) (Stp.acK 16 rfl rfl (by kernel_rfl) trivial (ac_alloc zv_50 rfl) (by rintro _ _ ⟨nb, rfl, rfl⟩ w s; first | exact s.drop | exact s | exact Ent.sat (by repeat constructor) s) ?_))
 ·
  rintro _ _ ⟨_, ⟨vb, vo, vc, rfl, rfl⟩, rfl⟩
  refine Rq 10 rfl (by kernel_rfl) (pu_ia se_30 rfl rfl (by omega) (by omega)) (Rr 11 rfl (by kernel_rfl) (rd_ld na_3 rfl (Rdc.el0 (i := m.id) (SlH.own (by repeat constructor)) gV rfl rfl)) ?_)
  refine Rq 12 rfl (by kernel_rfl) (by first | exact pu_addI rfl rfl rfl (by omega) (by omega) | exact pu_add rfl rfl) ?_
  refine Rq 13 rfl (by kernel_rfl) (pu_build bd_35 (by repeat constructor) rfl) ?_
  refine Rq 15 rfl (by kernel_rfl) (pu_build bd_50 (by repeat constructor) rfl) ?_
  refine Rg.one (by kernel_rfl) (Stp.acK 16 rfl rfl (by kernel_rfl) trivial (ac_alloc zv_50 rfl) (by rintro _ _ ⟨nb, rfl, rfl⟩ w s; first | exact s.drop | exact s | exact Ent.sat (by repeat constructor) s) ?_)
  rintro _ _ ⟨nb, rfl, rfl⟩
  refine Rg.one (by kernel_rfl) (Stp.ac0 17 rfl rfl (by kernel_rfl) trivial (ac_st sz_50 rfl rfl (by repeat constructor) rfl rfl rfl rfl)  ?_)
  rintro _ _ rfl
  refine Rg.end (by kernel_rfl) (Gn (Gs.seq (Gs.block (Gsr (Lmv rfl rfl (La rfl (asC (textMay_spec T.1 t)) ?_))))))
  rintro _ _ ⟨_, ⟨rfl, rfl⟩, rfl⟩
  refine Lq rfl (pu_not rfl) (Las rfl rfl (Lnt (Gs.cond rfl (fun hc1 => ?_) (fun hc1 => ?_))))
  ·
   have ht : textB t = false := not_t hc1
   have hA : appM m t = ((⟨0, 0⟩, 3), m) := by unfold appM; rw [if_pos ht]
   refine Gsr (Lq rfl (pu_build bd_35 (by repeat constructor) rfl) ?_)
   refine Lac0 rfl trivial (ac_st sz_35 rfl rfl (by repeat constructor) rfl rfl rfl rfl) ?_
   rintro _ _ rfl
   refine Las rfl rfl (Lnt (Gs.ret (Gs.blk_r (Gr (Gs.takes (As := ndL b q m) (by repeat constructor) (Gs.ndc q ?_))))))
   exact Gs.finc2 Tryz.results13 ag_35 rfl (Rdc.cl 2 (by repeat constructor) rfl) rfl rfl _ (⟨by rw [hA], by rw [hA]⟩) (by repeat constructor)
  have ht : textB t = true := not_f hc1
  refine Gsr (Lq rfl (pu_fa fa_50_0 rfl) (Lq rfl (pu_fa fa_35_1 rfl) (Lr rfl (rd_ld na_3 rfl (Rdc.cl1 (by repeat constructor) rfl)) ?_)))
  refine Lq rfl (pu_gt rfl rfl) (Las rfl rfl (Lnt (Gs.cond rfl (fun hc2 => ?_) (fun hc2 => ?_))))
  ·
   have hA : appM m t = ((⟨0, 0⟩, 4), m) := by unfold appM; rw [if_neg (by rw [ht]; decide), if_pos (of_decide_eq_true hc2)]
   refine Gsr (Lq rfl (pu_build bd_35 (by repeat constructor) rfl) ?_)
   refine Lac0 rfl trivial (ac_st sz_35 rfl rfl (by repeat constructor) rfl rfl rfl rfl) ?_
   rintro _ _ rfl
   refine Las rfl rfl (Lnt (Gs.ret (Gs.blk_r (Gr (Gs.takes (As := ndL b q m) (by repeat constructor) (Gs.ndc q ?_))))))
   exact Gs.finc2 Tryz.results13 ag_35 rfl (Rdc.cl 2 (by repeat constructor) rfl) rfl rfl _ (⟨by rw [hA], by rw [hA]⟩) (by repeat constructor)
  have hq := of_decide_eq_false hc2
  obtain ⟨cl, hcl0⟩ : ∃ cl, cl = tickC m.clk m.wall := ⟨_, rfl⟩
  refine Gs.skip (Gs.blk_n (Gn (Gsr (Lmv rfl rfl (La rfl (asC (nLast_spec b q m.id m.n m.wall m.clk)) ?_)))))
  rintro _ _ ⟨_, ⟨rfl, rfl⟩, rfl⟩
  refine La rfl (ac_alloc zv_48 rfl) ?_
  rintro _ _ ⟨wb, rfl, rfl⟩
  refine Lac0 rfl trivial (ac_st sz_48 rfl rfl (by repeat constructor) rfl rfl rfl rfl) ?_
  rintro _ _ rfl
  refine Lnt (Gsr (Las rfl rfl (Lnt (Gs.seq (Gs.seq (Gs.regD mixed (by kernel_rfl) (Rmv 0 rfl (by kernel_rfl) rfl (Rq 1 rfl (by kernel_rfl) (by first | exact pu_nil rfl | exact pu_nilF rfl) ?_))))))))
  refine Rq 2 rfl (by kernel_rfl) (pu_fa fa_76_0 rfl) (Rq 3 rfl (by kernel_rfl) (pu_fa fa_74_1 rfl) (Rr 4 rfl (by kernel_rfl) (rd_ld na_68 rfl (Rdc.cl1 (by repeat constructor) rfl)) ?_))
  refine Rmv 5 rfl (by kernel_rfl) rfl (Rq 6 rfl (by kernel_rfl) (by first | exact pu_nil rfl | exact pu_nilF rfl) ?_)
  refine Rq 7 rfl (by kernel_rfl) (pu_fa fa_76_3 rfl) (Rr 8 rfl (by kernel_rfl) (rd_ld na_3 rfl (Rdc.cl1 (by repeat constructor) rfl)) ?_)
  refine Rg.one (by kernel_rfl) (Stp.ac 9 rfl rfl (by kernel_rfl) trivial (asC (ctick_spec q.ck m.clk m.wall h.clk))  ?_)
  rintro _ _ ⟨_, ⟨rfl, rfl⟩, rfl⟩
  rw [← hcl0]
  refine Rmv 10 rfl (by kernel_rfl) rfl (Rq 11 rfl (by kernel_rfl) (pu_extract rfl rfl) (Rq 12 rfl (by kernel_rfl) (pu_extract rfl rfl) (Rq 13 rfl (by kernel_rfl) (pu_fa fa_50_1 rfl) (Rg.one (by kernel_rfl) (Stp.ac0 14 rfl rfl (by kernel_rfl) trivial (ac_st sz_48 rfl rfl (by repeat constructor) rfl rfl rfl rfl)  ?_)))))
  rintro _ _ rfl
  refine Rq 15 rfl (by kernel_rfl) (pu_assign rfl) (Rg.end (by kernel_rfl) (Gn (Gsr (Lmv rfl rfl (Lq rfl (pu_ne rfl rfl) (Lnt (Gs.cond rfl (fun hc3 => ?_) (fun hc3 => ?_))))))))
  ·
   have hz := of_decide_eq_true hc3
   have hA : appM m t = ((⟨0, 0⟩, cl.2), ⟨m.id, m.n, m.wall, m.room, cl.1, m.s, m.held, m.made, m.xs⟩) := by
     unfold appM; rw [if_neg (by rw [ht]; decide), if_neg hq, ← hcl0]; exact if_pos hz
   refine Gsr (Lq rfl (pu_build bd_35 (by repeat constructor) rfl) ?_)
   refine Lmv rfl rfl (Lac0 rfl trivial (ac_st sz_35 rfl rfl (by repeat constructor) rfl rfl rfl rfl) ?_)
   rintro _ _ rfl
   refine Las rfl rfl (Lnt (Gs.ret (Gr (Gs.takes (As := ndL b q ⟨m.id, m.n, m.wall, m.room, cl.1, m.s, m.held, m.made, m.xs⟩) (by repeat constructor) (Gs.ndc q ?_)))))
   exact Gs.finc2 Tryz.results13 ag_35 rfl (Rdc.cl 2 (by repeat constructor) rfl) rfl rfl _ (⟨by rw [hA], by rw [hA]⟩) (by repeat constructor)
  have hz := Decidable.not_not.1 (of_decide_eq_false hc3)
  rw [if_pos hz]
  obtain ⟨r, hr0⟩ : ∃ r : Rec, r = ⟨m.id, at0 m.s.v m.id + 1, cl.1.1, cl.1.2, t⟩ := ⟨_, rfl⟩
  obtain ⟨m1, hm1⟩ : ∃ m1 : NdM, m1 = ⟨m.id, m.n, m.wall, m.room, cl.1, m.s, m.held, m.made, m.xs⟩ := ⟨_, rfl⟩
  have hA : appM m t = if (addM m1 r).1 = 0 then ((r.key, 0), (addM m1 r).2) else ((⟨0, 0⟩, (addM m1 r).1), ⟨m.id, m.n, m.wall, m.room, m.clk, (addM m1 r).2.s, (addM m1 r).2.held, (addM m1 r).2.made, (addM m1 r).2.xs⟩) := by
    unfold appM; rw [if_neg (by rw [ht]; decide), if_neg hq, ← hcl0, hr0, hm1]; exact if_neg (fun h => h hz)
  have hrb : recB r = true := by rw [hr0, hcl0]; exact app_rec h ht hq
  have hok1 : NdOk m1 := by rw [hm1, hcl0]; exact h.clock (tickC_ok h.clk m.wall)
  have hadd := nadd_spec T b q m1 hok1 r hrb (by rw [hr0, hm1]; show (m.id : Int) < (m.n : Int); have := h.idn; omega) (by rw [hr0, hm1]; rfl) (by rw [hm1]; exact hm) (by rw [hm1]; exact hl)
  rw [hr0, hm1] at hadd
  rw [hr0, hm1] at hA
  have hkeep := addM_keep m1 r
  rw [hr0, hm1] at hkeep
  obtain ⟨k1, k2, k3, k4, k5⟩ := hkeep
  dsimp only at k1 k2 k3 k4 k5
  obtain ⟨o, hO⟩ : ∃ o, o = addM ⟨m.id, m.n, m.wall, m.room, cl.1, m.s, m.held, m.made, m.xs⟩ ⟨m.id, at0 m.s.v m.id + 1, cl.1.1, cl.1.2, t⟩ := ⟨_, rfl⟩
  rw [← hO] at hadd hA k1 k2 k3 k4 k5
  refine Gs.skip (Gn (Gs.seq (Gsr (Lmv rfl rfl (Lr rfl (rd_lda ag_50 rfl (Rdc.cl 5 (by repeat constructor) rfl) rfl) ?_)))))
  refine La rfl (asC (hadd)) ?_
  rintro _ _ ⟨_, ⟨rfl, rfl⟩, rfl⟩
  refine Las rfl rfl (Lnt (Gsr (Lmv rfl rfl (Lq rfl (pu_ne rfl rfl) (Lnt (Gs.cond rfl (fun hc4 => ?_) (fun hc4 => ?_)))))))
  ·
   have hz2 := of_decide_eq_true hc4
   rw [if_neg hz2] at hA
   refine Gsr (Lmv rfl rfl (Lr rfl (rd_lda ag_48 rfl (Rdc.cl 2 (by repeat constructor) rfl) rfl) ?_))
   refine La rfl (asC (cnew_spec m.clk.1 m.clk.2 h.clk)) ?_
   rintro _ _ ⟨_, ⟨cb, rfl, rfl⟩, rfl⟩
   refine Lq rfl (by first | exact pu_nil rfl | exact pu_nilF rfl) ?_
   refine Lq rfl (pu_fa fa_76_0 rfl) (Lq rfl (pu_fa fa_74_1 rfl) (Lac0 rfl trivial (ac_st sz_68 rfl rfl (by repeat constructor) rfl rfl rfl rfl) ?_))
   rintro _ _ rfl
   refine Lnt (Gsr (Lq rfl (pu_build bd_35 (by repeat constructor) rfl) ?_))
   refine Lmv rfl rfl (Lac0 rfl trivial (ac_st sz_35 rfl rfl (by repeat constructor) rfl rfl rfl rfl) ?_)
   rintro _ _ rfl
   refine Las rfl rfl (Lnt (Gs.ret (Gr (Gs.takes (As := ndL b ⟨q.st, cb, q.sh, q.tr, q.he, q.mh, q.lg, q.dk⟩ ⟨m.id, m.n, m.wall, m.room, m.clk, o.2.s, o.2.held, o.2.made, o.2.xs⟩) (by rw [k1, k2, k3, k4]; repeat constructor) (Gs.ndc ⟨q.st, cb, q.sh, q.tr, q.he, q.mh, q.lg, q.dk⟩ ?_)))))
   exact Gs.finc2 Tryz.results13 ag_35 rfl (Rdc.cl 2 (by repeat constructor) rfl) rfl rfl _ (⟨by rw [hA], by rw [hA]⟩) (by repeat constructor)
  have hz2 := Decidable.not_not.1 (of_decide_eq_false hc4)
  rw [if_pos hz2] at hA
  refine Gs.skip (Gn (Gsr (Lq rfl (pu_fa fa_50_0 rfl) (Lr rfl (rd_lda ag_35 rfl (Rdc.cl 2 (by repeat constructor) rfl) rfl) ?_))))
  refine Lac0 rfl trivial (ac_st sz_35 rfl rfl (by repeat constructor) rfl rfl rfl rfl) ?_
  rintro _ _ rfl
  refine Las rfl rfl (Lnt (Gs.ret (Gs.takes (As := ndL b q o.2) (by repeat constructor) (Gs.ndc q ?_))))
  exact Gs.finc2 Tryz.results13 ag_35 rfl (Rdc.cl 2 (by repeat constructor) rfl) rfl rfl _ (⟨by rw [hA]; rfl, by rw [hA]⟩) (by repeat constructor)
 rintro _ _ ⟨nb, rfl, rfl⟩
 refine Rg.one (by kernel_rfl) (Stp.acR 5 [3, 9] rfl rfl (by kernel_rfl) trivial (asC (nV_some b q m.id m.n m.wall m.s.v m.s.w m.s.rs (by omega) hne)) (by rintro _ _ ⟨_, ⟨vb, vo, vc, rfl, rfl⟩, rfl⟩; exact (Reads.cons rfl rfl rfl trivial rfl (rd_ld na_3 rfl (Rdc.cl1 (by repeat constructor) rfl)) (Reads.cons rfl rfl rfl trivial rfl (rd_ld na_3 rfl (Rdc.cl1 (by repeat constructor) rfl)) Reads.nil))) ?_)
 rintro _ _ ⟨_, ⟨vb, vo, vc, rfl, rfl⟩, rfl⟩
 refine Rq 10 rfl (by kernel_rfl) (pu_ia se_30 rfl rfl (by omega) (by omega)) (Rr 11 rfl (by kernel_rfl) (rd_ld na_3 rfl (Rdc.el0 (i := m.id) (SlH.own (by repeat constructor)) gV rfl rfl)) ?_)
 refine Rq 12 rfl (by kernel_rfl) (by first | exact pu_addI rfl rfl rfl (by omega) (by omega) | exact pu_add rfl rfl) ?_
 refine Rq 13 rfl (by kernel_rfl) (pu_build bd_35 (by repeat constructor) rfl) ?_
 refine Rq 15 rfl (by kernel_rfl) (pu_build bd_50 (by repeat constructor) rfl) ?_
 refine Rg.one (by kernel_rfl) (Stp.ac0 17 rfl rfl (by kernel_rfl) trivial (ac_st sz_50 rfl rfl (by repeat constructor) rfl rfl rfl rfl)  ?_)
 rintro _ _ rfl
 refine Rg.end (by kernel_rfl) (Gn (Gs.seq (Gs.block (Gsr (Lmv rfl rfl (La rfl (asC (textMay_spec T.1 t)) ?_))))))
 rintro _ _ ⟨_, ⟨rfl, rfl⟩, rfl⟩
 refine Lq rfl (pu_not rfl) (Las rfl rfl (Lnt (Gs.cond rfl (fun hc1 => ?_) (fun hc1 => ?_))))
 ·
  have ht : textB t = false := not_t hc1
  have hA : appM m t = ((⟨0, 0⟩, 3), m) := by unfold appM; rw [if_pos ht]
  refine Gsr (Lq rfl (pu_build bd_35 (by repeat constructor) rfl) ?_)
  refine Lac0 rfl trivial (ac_st sz_35 rfl rfl (by repeat constructor) rfl rfl rfl rfl) ?_
  rintro _ _ rfl
  refine Las rfl rfl (Lnt (Gs.ret (Gs.blk_r (Gr (Gs.takes (As := ndL b q m) (by repeat constructor) (Gs.ndc q ?_))))))
  exact Gs.finc2 Tryz.results13 ag_35 rfl (Rdc.cl 2 (by repeat constructor) rfl) rfl rfl _ (⟨by rw [hA], by rw [hA]⟩) (by repeat constructor)
 have ht : textB t = true := not_f hc1
 refine Gsr (Lq rfl (pu_fa fa_50_0 rfl) (Lq rfl (pu_fa fa_35_1 rfl) (Lr rfl (rd_ld na_3 rfl (Rdc.cl1 (by repeat constructor) rfl)) ?_)))
 refine Lq rfl (pu_gt rfl rfl) (Las rfl rfl (Lnt (Gs.cond rfl (fun hc2 => ?_) (fun hc2 => ?_))))
 ·
  have hA : appM m t = ((⟨0, 0⟩, 4), m) := by unfold appM; rw [if_neg (by rw [ht]; decide), if_pos (of_decide_eq_true hc2)]
  refine Gsr (Lq rfl (pu_build bd_35 (by repeat constructor) rfl) ?_)
  refine Lac0 rfl trivial (ac_st sz_35 rfl rfl (by repeat constructor) rfl rfl rfl rfl) ?_
  rintro _ _ rfl
  refine Las rfl rfl (Lnt (Gs.ret (Gs.blk_r (Gr (Gs.takes (As := ndL b q m) (by repeat constructor) (Gs.ndc q ?_))))))
  exact Gs.finc2 Tryz.results13 ag_35 rfl (Rdc.cl 2 (by repeat constructor) rfl) rfl rfl _ (⟨by rw [hA], by rw [hA]⟩) (by repeat constructor)
 have hq := of_decide_eq_false hc2
 obtain ⟨cl, hcl0⟩ : ∃ cl, cl = tickC m.clk m.wall := ⟨_, rfl⟩
 refine Gs.skip (Gs.blk_n (Gn (Gsr (Lmv rfl rfl (La rfl (asC (nLast_spec b q m.id m.n m.wall m.clk)) ?_)))))
 rintro _ _ ⟨_, ⟨rfl, rfl⟩, rfl⟩
 refine La rfl (ac_alloc zv_48 rfl) ?_
 rintro _ _ ⟨wb, rfl, rfl⟩
 refine Lac0 rfl trivial (ac_st sz_48 rfl rfl (by repeat constructor) rfl rfl rfl rfl) ?_
 rintro _ _ rfl
 refine Lnt (Gsr (Las rfl rfl (Lnt (Gs.seq (Gs.seq (Gs.regD mixed (by kernel_rfl) (Rmv 0 rfl (by kernel_rfl) rfl (Rq 1 rfl (by kernel_rfl) (by first | exact pu_nil rfl | exact pu_nilF rfl) ?_))))))))
 refine Rq 2 rfl (by kernel_rfl) (pu_fa fa_76_0 rfl) (Rq 3 rfl (by kernel_rfl) (pu_fa fa_74_1 rfl) (Rr 4 rfl (by kernel_rfl) (rd_ld na_68 rfl (Rdc.cl1 (by repeat constructor) rfl)) ?_))
 refine Rmv 5 rfl (by kernel_rfl) rfl (Rq 6 rfl (by kernel_rfl) (by first | exact pu_nil rfl | exact pu_nilF rfl) ?_)
 refine Rq 7 rfl (by kernel_rfl) (pu_fa fa_76_3 rfl) (Rr 8 rfl (by kernel_rfl) (rd_ld na_3 rfl (Rdc.cl1 (by repeat constructor) rfl)) ?_)
 refine Rg.one (by kernel_rfl) (Stp.ac 9 rfl rfl (by kernel_rfl) trivial (asC (ctick_spec q.ck m.clk m.wall h.clk))  ?_)
 rintro _ _ ⟨_, ⟨rfl, rfl⟩, rfl⟩
 rw [← hcl0]
 refine Rmv 10 rfl (by kernel_rfl) rfl (Rq 11 rfl (by kernel_rfl) (pu_extract rfl rfl) (Rq 12 rfl (by kernel_rfl) (pu_extract rfl rfl) (Rq 13 rfl (by kernel_rfl) (pu_fa fa_50_1 rfl) (Rg.one (by kernel_rfl) (Stp.ac0 14 rfl rfl (by kernel_rfl) trivial (ac_st sz_48 rfl rfl (by repeat constructor) rfl rfl rfl rfl)  ?_)))))
 rintro _ _ rfl
 refine Rq 15 rfl (by kernel_rfl) (pu_assign rfl) (Rg.end (by kernel_rfl) (Gn (Gsr (Lmv rfl rfl (Lq rfl (pu_ne rfl rfl) (Lnt (Gs.cond rfl (fun hc3 => ?_) (fun hc3 => ?_))))))))
 ·
  have hz := of_decide_eq_true hc3
  have hA : appM m t = ((⟨0, 0⟩, cl.2), ⟨m.id, m.n, m.wall, m.room, cl.1, m.s, m.held, m.made, m.xs⟩) := by
    unfold appM; rw [if_neg (by rw [ht]; decide), if_neg hq, ← hcl0]; exact if_pos hz
  refine Gsr (Lq rfl (pu_build bd_35 (by repeat constructor) rfl) ?_)
  refine Lmv rfl rfl (Lac0 rfl trivial (ac_st sz_35 rfl rfl (by repeat constructor) rfl rfl rfl rfl) ?_)
  rintro _ _ rfl
  refine Las rfl rfl (Lnt (Gs.ret (Gr (Gs.takes (As := ndL b q ⟨m.id, m.n, m.wall, m.room, cl.1, m.s, m.held, m.made, m.xs⟩) (by repeat constructor) (Gs.ndc q ?_)))))
  exact Gs.finc2 Tryz.results13 ag_35 rfl (Rdc.cl 2 (by repeat constructor) rfl) rfl rfl _ (⟨by rw [hA], by rw [hA]⟩) (by repeat constructor)
 have hz := Decidable.not_not.1 (of_decide_eq_false hc3)
 rw [if_pos hz]
 obtain ⟨r, hr0⟩ : ∃ r : Rec, r = ⟨m.id, at0 m.s.v m.id + 1, cl.1.1, cl.1.2, t⟩ := ⟨_, rfl⟩
 obtain ⟨m1, hm1⟩ : ∃ m1 : NdM, m1 = ⟨m.id, m.n, m.wall, m.room, cl.1, m.s, m.held, m.made, m.xs⟩ := ⟨_, rfl⟩
 have hA : appM m t = if (addM m1 r).1 = 0 then ((r.key, 0), (addM m1 r).2) else ((⟨0, 0⟩, (addM m1 r).1), ⟨m.id, m.n, m.wall, m.room, m.clk, (addM m1 r).2.s, (addM m1 r).2.held, (addM m1 r).2.made, (addM m1 r).2.xs⟩) := by
   unfold appM; rw [if_neg (by rw [ht]; decide), if_neg hq, ← hcl0, hr0, hm1]; exact if_neg (fun h => h hz)
 have hrb : recB r = true := by rw [hr0, hcl0]; exact app_rec h ht hq
 have hok1 : NdOk m1 := by rw [hm1, hcl0]; exact h.clock (tickC_ok h.clk m.wall)
 have hadd := nadd_spec T b q m1 hok1 r hrb (by rw [hr0, hm1]; show (m.id : Int) < (m.n : Int); have := h.idn; omega) (by rw [hr0, hm1]; rfl) (by rw [hm1]; exact hm) (by rw [hm1]; exact hl)
 rw [hr0, hm1] at hadd
 rw [hr0, hm1] at hA
 have hkeep := addM_keep m1 r
 rw [hr0, hm1] at hkeep
 obtain ⟨k1, k2, k3, k4, k5⟩ := hkeep
 dsimp only at k1 k2 k3 k4 k5
 obtain ⟨o, hO⟩ : ∃ o, o = addM ⟨m.id, m.n, m.wall, m.room, cl.1, m.s, m.held, m.made, m.xs⟩ ⟨m.id, at0 m.s.v m.id + 1, cl.1.1, cl.1.2, t⟩ := ⟨_, rfl⟩
 rw [← hO] at hadd hA k1 k2 k3 k4 k5
 refine Gs.skip (Gn (Gs.seq (Gsr (Lmv rfl rfl (Lr rfl (rd_lda ag_50 rfl (Rdc.cl 5 (by repeat constructor) rfl) rfl) ?_)))))
 refine La rfl (asC (hadd)) ?_
 rintro _ _ ⟨_, ⟨rfl, rfl⟩, rfl⟩
 refine Las rfl rfl (Lnt (Gsr (Lmv rfl rfl (Lq rfl (pu_ne rfl rfl) (Lnt (Gs.cond rfl (fun hc4 => ?_) (fun hc4 => ?_)))))))
 ·
  have hz2 := of_decide_eq_true hc4
  rw [if_neg hz2] at hA
  refine Gsr (Lmv rfl rfl (Lr rfl (rd_lda ag_48 rfl (Rdc.cl 2 (by repeat constructor) rfl) rfl) ?_))
  refine La rfl (asC (cnew_spec m.clk.1 m.clk.2 h.clk)) ?_
  rintro _ _ ⟨_, ⟨cb, rfl, rfl⟩, rfl⟩
  refine Lq rfl (by first | exact pu_nil rfl | exact pu_nilF rfl) ?_
  refine Lq rfl (pu_fa fa_76_0 rfl) (Lq rfl (pu_fa fa_74_1 rfl) (Lac0 rfl trivial (ac_st sz_68 rfl rfl (by repeat constructor) rfl rfl rfl rfl) ?_))
  rintro _ _ rfl
  refine Lnt (Gsr (Lq rfl (pu_build bd_35 (by repeat constructor) rfl) ?_))
  refine Lmv rfl rfl (Lac0 rfl trivial (ac_st sz_35 rfl rfl (by repeat constructor) rfl rfl rfl rfl) ?_)
  rintro _ _ rfl
  refine Las rfl rfl (Lnt (Gs.ret (Gr (Gs.takes (As := ndL b ⟨q.st, cb, q.sh, q.tr, q.he, q.mh, q.lg, q.dk⟩ ⟨m.id, m.n, m.wall, m.room, m.clk, o.2.s, o.2.held, o.2.made, o.2.xs⟩) (by rw [k1, k2, k3, k4]; repeat constructor) (Gs.ndc ⟨q.st, cb, q.sh, q.tr, q.he, q.mh, q.lg, q.dk⟩ ?_)))))
  exact Gs.finc2 Tryz.results13 ag_35 rfl (Rdc.cl 2 (by repeat constructor) rfl) rfl rfl _ (⟨by rw [hA], by rw [hA]⟩) (by repeat constructor)
 have hz2 := Decidable.not_not.1 (of_decide_eq_false hc4)
 rw [if_pos hz2] at hA
 refine Gs.skip (Gn (Gsr (Lq rfl (pu_fa fa_50_0 rfl) (Lr rfl (rd_lda ag_35 rfl (Rdc.cl 2 (by repeat constructor) rfl) rfl) ?_))))
 refine Lac0 rfl trivial (ac_st sz_35 rfl rfl (by repeat constructor) rfl rfl rfl rfl) ?_
 rintro _ _ rfl
 refine Las rfl rfl (Lnt (Gs.ret (Gs.takes (As := ndL b q o.2) (by repeat constructor) (Gs.ndc q ?_))))
 exact Gs.finc2 Tryz.results13 ag_35 rfl (Rdc.cl 2 (by repeat constructor) rfl) rfl rfl _ (⟨by rw [hA]; rfl, by rw [hA]⟩) (by repeat constructor)
end Go.Proofs.YtflfhpokmidnmaaGreatDoor
namespace Go.Proofs.YtflfhpokmidnmaaGreatDoor
open Go Go.Sl Go.Gv Go.Kv Go.Po Go.Ix Go.Qu Go.Shelf
set_option maxRecDepth 100000
def chainM : Nat → NdM → Rec → (Nat × Int) × NdM
 | 0, m, _ => ((0, 0), m)
 | k + 1, m, r =>
   let c := seeC m.clk (r.w, r.c) m.wall
   let m1 : NdM := ⟨m.id, m.n, m.wall, m.room, c.1, m.s, m.held, m.made, m.xs⟩
   if c.2 ≠ 0 then ((0, c.2), m1)
   else
     let a := addM m1 r
     if a.1 ≠ 0 then ((0, a.1), a.2)
     else
       let m2 : NdM := ⟨m.id, m.n, m.wall, m.room, c.1, a.2.s, delL a.2.held ⟨r.o, r.q + 1⟩, a.2.made, a.2.xs⟩
       match look a.2.held ⟨r.o, r.q + 1⟩ with
       | none => ((1, 0), m2)
       | some r2 => (((chainM k m2 r2).1.1 + 1, (chainM k m2 r2).1.2), (chainM k m2 r2).2)
structure Nxt (m : NdM) (r : Rec) : Prop where
 may : recB r = true
 o : r.o < (m.n : Int)
 q : r.q = at0 m.s.v r.o.toNat + 1
theorem look_mem {L : List Rec} {k : Key} {r : Rec} (h : look L k = some r) : r ∈ L ∧ r.key = k := ⟨List.mem_of_find?_eq_some h, of_decide_eq_true (List.find?_some (p := fun r : Rec => decide (r.key = k)) h)⟩
theorem delL_less {L : List Rec} {k : Key} {r : Rec} (h : look L k = some r) : (delL L k).length < L.length := by
 obtain ⟨h1, h2⟩ := look_mem h
 unfold delL
 have : ∀ (L : List Rec), r ∈ L → (L.filter fun r => decide (r.key ≠ k)).length < L.length := by
   intro L
   induction L with
   | nil => intro h; cases h
   | cons a L ih =>
     intro hm
     rcases List.mem_cons.1 hm with e | hm
     · subst e
       rw [List.filter_cons_of_neg (by simp [h2]), List.length_cons]
       exact Nat.lt_succ_of_le (List.length_filter_le ..)
     · have := ih hm
       by_cases hk : a.key = k
       · rw [List.filter_cons_of_neg (by simp [hk]), List.length_cons]; omega
       · rw [List.filter_cons_of_pos (by simp [hk]), List.length_cons, List.length_cons]; omega
 exact this L h1
theorem delL_sub (L : List Rec) (k : Key) : ∀ r ∈ delL L k, r ∈ L := fun r h => (List.mem_filter.1 h).1
theorem delL_len (L : List Rec) (k : Key) : (delL L k).length ≤ L.length := List.length_filter_le ..
theorem addM_ok {m : NdM} {r : Rec} (h : (addM m r).1 = 0) : (addM m r).2.s = accM m.s r ∧ (addM m r).2.held = dropL (accM m.s r).v m.held := by
 unfold addM at h ⊢
 dsimp only at h ⊢
 split
 · exact ⟨rfl, rfl⟩
 · rename_i hc
   rw [if_neg hc] at h
   exact (hc h).elim
theorem accM_len (s : StM) (r : Rec) : (accM s r).rs.length ≤ s.rs.length + 1 := by
 unfold accM; split <;> simp
theorem addM_pot {m : NdM} (h : NdOk m) (r : Rec) : (addM m r).2.made ≤ m.made + 1 ∧ (addM m r).2.held.length ≤ m.held.length ∧ (addM m r).2.s.rs.length ≤ m.s.rs.length + 1 ∧ m.made ≤ (addM m r).2.made := by
 have hw := wS_made (most := m.room) (e := recE r) (v := m.s.v) (w := m.s.w) h.log.st
 have h1 := accM_len m.s r
 have h2 := dropL_len (accM m.s r).v m.held
 unfold addM
 dsimp only
 split
 · exact ⟨hw.2, h2, h1, hw.1⟩
 · exact ⟨hw.2, Nat.le_refl _, Nat.le_succ _, hw.1⟩
theorem NdOk.seen {m : NdM} (h : NdOk m) (s : Int × Int) : NdOk ⟨m.id, m.n, m.wall, m.room, (seeC m.clk s m.wall).1, m.s, m.held, m.made, m.xs⟩ := h.clock (seeC_ok h.clk m.wall)
theorem chain_next {m : NdM} {r r2 : Rec} (h : NdOk m) (hn : Nxt m r) {c : Int × Int} (hc : clkB c = true) (ha : (addM m r).1 = 0) (hl : look (addM m r).2.held ⟨r.o, r.q + 1⟩ = some r2) :
   NdOk ⟨m.id, m.n, m.wall, m.room, c, (addM m r).2.s, delL (addM m r).2.held ⟨r.o, r.q + 1⟩, (addM m r).2.made, (addM m r).2.xs⟩ ∧ Nxt ⟨m.id, m.n, m.wall, m.room, c, (addM m r).2.s, delL (addM m r).2.held ⟨r.o, r.q + 1⟩, (addM m r).2.made, (addM m r).2.xs⟩ r2 := by
 have h1 := h.add hn.may hn.o
 obtain ⟨k1, k2, k3, k4, -⟩ := addM_keep m r
 obtain ⟨e1, e2⟩ := addM_ok ha
 obtain ⟨hm, hk⟩ := look_mem hl
 have hr2 := h1.held r2 hm
 rw [k2] at hr2
 have hp := recB_parts hn.may
 have hv := StOk.v h.log.ok
 refine ⟨⟨h.n1, h.n8, h.idn, by have := h1.log; rw [k2] at this; exact this, hc, h.wall, Nat.le_trans (delL_len ..) h1.few, fun x hx => by have := h1.held x (delL_sub _ _ x hx); rw [k2] at this; exact this, by have := h1.used; rw [k4] at this; exact this, h.room⟩, ⟨hr2.1, hr2.2, ?_⟩⟩
 have e3 : r2.o = r.o := congrArg Key.o hk
 have e4 : r2.q = r.q + 1 := congrArg Key.q hk
 show r2.q = at0 (addM m r).2.s.v r2.o.toNat + 1
 rw [e1, accM_yes hn.may (by have := hn.o; omega) hn.q, e3, e4]
 show r.q + 1 = at0 (m.s.v.set r.o.toNat r.q) r.o.toNat + 1
 rw [at0_set (by have := hn.o; omega), if_pos rfl]
theorem NdOk.nexted {m : NdM} {r : Rec} (h : NdOk m) (hn : Nxt m r) {c : Int × Int} (hc : clkB c = true) :
   NdOk ⟨m.id, m.n, m.wall, m.room, c, (addM m r).2.s, delL (addM m r).2.held ⟨r.o, r.q + 1⟩, (addM m r).2.made, (addM m r).2.xs⟩ := by
 have h1 := h.add hn.may hn.o
 obtain ⟨k1, k2, k3, k4, -⟩ := addM_keep m r
 exact ⟨h.n1, h.n8, h.idn, by have := h1.log; rw [k2] at this; exact this, hc, h.wall, Nat.le_trans (delL_len ..) h1.few, fun x hx => by have := h1.held x (delL_sub _ _ x hx); rw [k2] at this; exact this, by have := h1.used; rw [k4] at this; exact this, h.room⟩
theorem chain_all : ∀ (k : Nat) {m : NdM} {r : Rec}, NdOk m → Nxt m r → NdOk (chainM k m r).2 ∧ (chainM k m r).2.made + (chainM k m r).2.held.length ≤ m.made + m.held.length + 1 ∧ (chainM k m r).2.s.rs.length + (chainM k m r).2.held.length ≤ m.s.rs.length + m.held.length + 1 ∧
   ((chainM k m r).2.id = m.id ∧ (chainM k m r).2.n = m.n ∧ (chainM k m r).2.wall = m.wall ∧ (chainM k m r).2.room = m.room)
 | 0, m, r, h, _ => ⟨h, Nat.le_succ _, Nat.le_succ _, rfl, rfl, rfl, rfl⟩
 | k + 1, m, r, h, hn => by
   rw [chainM]
   dsimp only
   have hs := h.seen (r.w, r.c)
   obtain ⟨m1, hm1⟩ : ∃ m1 : NdM, m1 = ⟨m.id, m.n, m.wall, m.room, (seeC m.clk (r.w, r.c) m.wall).1, m.s, m.held, m.made, m.xs⟩ := ⟨_, rfl⟩
   rw [← hm1] at hs ⊢
   have hn1 : Nxt m1 r := by rw [hm1]; exact ⟨hn.may, hn.o, hn.q⟩
   have hp := addM_pot hs r
   have hp2 : m1.made = m.made ∧ m1.held = m.held ∧ m1.s = m.s ∧ m1.id = m.id ∧ m1.n = m.n ∧ m1.wall = m.wall ∧ m1.room = m.room := by rw [hm1]; exact ⟨rfl, rfl, rfl, rfl, rfl, rfl, rfl⟩
   obtain ⟨p1, p2, p3, p4, p5, p6, p7⟩ := hp2
   have hkp := addM_keep m1 r
   have hcl : clkB (seeC m.clk (r.w, r.c) m.wall).1 = true := seeC_ok h.clk m.wall
   rw [p1, p2, p3] at hp
   split
   · dsimp only
     rw [p1, p2, p3, p4, p5, p6, p7]
     exact ⟨hs, Nat.le_succ _, Nat.le_succ _, rfl, rfl, rfl, rfl⟩
   · split
     · dsimp only
       exact ⟨hs.add hn1.may hn1.o, by omega, by omega, by rw [hkp.1, p4], by rw [hkp.2.1, p5], by rw [hkp.2.2.1, p6], by rw [hkp.2.2.2.1, p7]⟩
     · rename_i ha
       have ha : (addM m1 r).1 = 0 := Decidable.not_not.1 ha
       have hd := delL_len (addM m1 r).2.held ⟨r.o, r.q + 1⟩
       split
       · have h9 := hs.nexted hn1 hcl
         rw [p4, p5, p6, p7] at h9
         refine ⟨h9, ?_, ?_, rfl, rfl, rfl, rfl⟩
         · show (addM m1 r).2.made + (delL (addM m1 r).2.held ⟨r.o, r.q + 1⟩).length ≤ _; omega
         · show (addM m1 r).2.s.rs.length + (delL (addM m1 r).2.held ⟨r.o, r.q + 1⟩).length ≤ _; omega
       · rename_i r2 hl
         have h9 := chain_next hs hn1 hcl ha hl
         rw [p4, p5, p6, p7] at h9
         have ih := chain_all k h9.1 h9.2
         have hlt := delL_less hl
         dsimp only at ih ⊢
         refine ⟨ih.1, ?_, ?_, ih.2.2.2⟩
         · have := ih.2.1; omega
         · have := ih.2.2.1; omega
theorem nchain_spec {h0 : Hp} (T : TabX h0) (b : Nat) (q : NdQ) (m : NdM) (h : NdOk m) (r : Rec) (hn : Nxt m r) (hm : m.made + m.held.length < 98) (hl : m.s.rs.length + m.held.length ≤ 700) :
   Ct Tryz.prog 80 [ptr b, recV r] (ndL b q m ++ [ro h0]) (fun v hs => v = .tuple #[int ((chainM (m.held.length + 1) m r).1.1 : Nat), int (chainM (m.held.length + 1) m r).1.2] ∧ hs = ndL b q (chainM (m.held.length + 1) m r).2 ++ [ro h0]) := by
 obtain ⟨Z, hZ⟩ : ∃ Z, Z = chainM (m.held.length + 1) m r := ⟨_, rfl⟩
 rw [← hZ]
 refine Cti Tryz.func80 (by kernel_rfl) 55 Tryz.ntmps80 rfl rfl fun w0 R => ?_
 refine Gsr (La rfl (ac_box rfl rfl) ?_)
 rintro _ _ ⟨rb, rfl, rfl⟩
 refine Las rfl rfl (Las rfl rfl (Lnt (Gsr (Las rfl rfl (Las rfl rfl (Lnt (Gs.block (Gs.loop1 (fun s : Nat × Nat × NdM × Rec × Bool => s.1 ≤ 20 ∧ ((s.2.2.2.2 = true ∧ NdOk s.2.2.1 ∧ Nxt s.2.2.1 s.2.2.2.1 ∧ s.2.2.1.held.length < s.2.1 ∧ s.2.2.1.made + s.2.2.1.held.length < 98 ∧ s.2.2.1.s.rs.length + s.2.2.1.held.length ≤ 700 ∧ s.1 + s.2.2.1.held.length ≤ 12 ∧ Z = ((s.1 + (chainM s.2.1 s.2.2.1 s.2.2.2.1).1.1, (chainM s.2.1 s.2.2.1 s.2.2.2.1).1.2), (chainM s.2.1 s.2.2.1 s.2.2.2.1).2)) ∨ (s.2.2.2.2 = false ∧ Z = ((s.1, 0), s.2.2.1)))) (fun s => [(0, ptr b), (3, ptr rb), (6, int s.1), (7, .bool s.2.2.2.2)]) (fun s => ndL b q s.2.2.1 ++ [cl rb 50 (recC s.2.2.2.1), ro h0] ++ R) (fun s => if s.2.2.2.2 then s.2.1 + 1 else 0) (0, m.held.length + 1, m, r, true) (⟨Nat.zero_le _, .inl ⟨rfl, h, hn, Nat.lt_succ_self _, hm, hl, by have := h.few; show 0 + m.held.length ≤ 12; omega, by rw [hZ, Nat.zero_add]⟩⟩) (by repeat constructor) (by repeat constructor) (fun s hs => ?_)))))))))
 obtain ⟨i, k, m', r', ok⟩ := s
 obtain ⟨hi, hs⟩ := hs
 dsimp only at hi hs ⊢
 refine Gs.seq (Gs.block (Gs.seq (Gsr (Lmv rfl rfl (Lq rfl (pu_not rfl) (Lnt (Gs.cond rfl (fun hc0 => ?_) (fun hc0 => ?_))))))))
 ·
  have hok : ok = false := not_t hc0
  subst hok
  obtain hz : Z = ((i, 0), m') := by
    rcases hs with ⟨h1, -⟩ | ⟨-, h1⟩
    · cases h1
    · exact h1
  refine Gsr (Lmv rfl rfl (Las rfl rfl (Las rfl rfl (Lnt (Gs.ret (Gr (Gs.blk_r (Gr (Gr (Gs.blk_r ?_))))))))))
  exact Gs.fin2 Tryz.results80 rfl rfl _ (⟨by rw [hz], by rw [hz]⟩) (by repeat constructor)
 have hok : ok = true := not_f hc0
 subst hok
 obtain ⟨h', hn', hk, hmd, hrl, hih, hz⟩ : NdOk m' ∧ Nxt m' r' ∧ m'.held.length < k ∧ m'.made + m'.held.length < 98 ∧ m'.s.rs.length + m'.held.length ≤ 700 ∧ i + m'.held.length ≤ 12 ∧ Z = ((i + (chainM k m' r').1.1, (chainM k m' r').1.2), (chainM k m' r').2) := by
   rcases hs with ⟨-, h1⟩ | ⟨h1, -⟩
   · exact h1
   · cases h1
 obtain ⟨k, rfl⟩ : ∃ j, k = j + 1 := ⟨k - 1, by omega⟩
 rw [chainM] at hz
 dsimp only at hz
 obtain ⟨c, hc⟩ : ∃ c, c = seeC m'.clk (r'.w, r'.c) m'.wall := ⟨_, rfl⟩
 have hclk : clkB c.1 = true := by rw [hc]; exact seeC_ok h'.clk m'.wall
 rw [← hc] at hz
 refine Gs.skip (Gn (Gs.seq (Gs.seq (Gs.regD mixed (by kernel_rfl) (Rmv 0 rfl (by kernel_rfl) rfl (Rq 1 rfl (by kernel_rfl) (by first | exact pu_nil rfl | exact pu_nilF rfl) ?_))))))
 refine Rq 2 rfl (by kernel_rfl) (pu_fa fa_76_0 rfl) (Rq 3 rfl (by kernel_rfl) (pu_fa fa_74_1 rfl) (Rr 4 rfl (by kernel_rfl) (rd_ld na_68 rfl (Rdc.cl1 (by repeat constructor) rfl)) ?_))
 refine Rq 5 rfl (by kernel_rfl) (pu_fa fa_50_1 rfl) (Rr 6 rfl (by kernel_rfl) (rd_lda ag_48 rfl (Rdc.cl 2 (by repeat constructor) rfl) rfl) ?_)
 refine Rmv 7 rfl (by kernel_rfl) rfl (Rq 8 rfl (by kernel_rfl) (by first | exact pu_nil rfl | exact pu_nilF rfl) ?_)
 refine Rq 9 rfl (by kernel_rfl) (pu_fa fa_76_3 rfl) (Rr 10 rfl (by kernel_rfl) (rd_ld na_3 rfl (Rdc.cl1 (by repeat constructor) rfl)) ?_)
 refine Rg.one (by kernel_rfl) (Stp.ac 11 rfl rfl (by kernel_rfl) trivial (asC (csee_spec q.ck m'.clk (r'.w, r'.c) m'.wall h'.clk))  ?_)
 rintro _ _ ⟨_, ⟨rfl, rfl⟩, rfl⟩
 rw [← hc]
 refine Rq 12 rfl (by kernel_rfl) (pu_assign rfl) (Rg.end (by kernel_rfl) (Gn (Gsr (Lmv rfl rfl (Lq rfl (pu_ne rfl rfl) (Lnt (Gs.cond rfl (fun hc1 => ?_) (fun hc1 => ?_))))))))
 ·
  rw [if_pos (of_decide_eq_true hc1)] at hz
  refine Gsr (Lmv rfl rfl (Lmv rfl rfl (Las rfl rfl (Las rfl rfl (Lnt (Gs.ret (Gr (Gs.blk_r (Gr (Gr (Gs.blk_r ?_)))))))))))
  exact Gs.fin2 Tryz.results80 rfl rfl _ (⟨by rw [hz]; rfl, by rw [hz]⟩) (by repeat constructor)
 have hc0' := Decidable.not_not.1 (of_decide_eq_false hc1)
 rw [if_neg (fun h => h hc0')] at hz
 obtain ⟨m1, hm1⟩ : ∃ m1 : NdM, m1 = ⟨m'.id, m'.n, m'.wall, m'.room, c.1, m'.s, m'.held, m'.made, m'.xs⟩ := ⟨_, rfl⟩
 have h1 : NdOk m1 := by rw [hm1]; exact h'.clock hclk
 have hn1 : Nxt m1 r' := by rw [hm1]; exact ⟨hn'.may, hn'.o, hn'.q⟩
 have hadd := nadd_spec T b q m1 h1 r' hn1.may hn1.o hn1.q (by rw [hm1]; show m'.made < 98; omega) (by rw [hm1]; show m'.s.rs.length ≤ 700; omega)
 have hkp := addM_keep m1 r'
 have hpot := addM_pot h1 r'
 have hnxt := fun r2 => chain_next (r2 := r2) h1 hn1 hclk
 have hnxd := h1.nexted hn1 hclk
 rw [hm1] at hadd hkp hpot hnxt hnxd
 dsimp only at hkp hpot hnxt hnxd
 obtain ⟨o, hO⟩ : ∃ o, o = addM ⟨m'.id, m'.n, m'.wall, m'.room, c.1, m'.s, m'.held, m'.made, m'.xs⟩ r' := ⟨_, rfl⟩
 rw [← hO] at hadd hz hkp hpot hnxt hnxd
 obtain ⟨k1, k2, k3, k4, k5⟩ := hkp
 refine Gs.skip (Gn (Gs.seq (Gsr (Lmv rfl rfl (Lr rfl (rd_lda ag_50 rfl (Rdc.cl 5 (by repeat constructor) rfl) rfl) ?_)))))
 refine La rfl (asC (hadd)) ?_
 rintro _ _ ⟨_, ⟨rfl, rfl⟩, rfl⟩
 refine Las rfl rfl (Lnt (Gsr (Lmv rfl rfl (Lq rfl (pu_ne rfl rfl) (Lnt (Gs.cond rfl (fun hc2 => ?_) (fun hc2 => ?_)))))))
 ·
  rw [if_pos (of_decide_eq_true hc2)] at hz
  refine Gsr (Lmv rfl rfl (Lmv rfl rfl (Las rfl rfl (Las rfl rfl (Lnt (Gs.ret (Gr (Gs.blk_r (Gr (Gr (Gs.blk_r ?_)))))))))))
  exact Gs.fin2 Tryz.results80 rfl rfl _ (⟨by rw [hz]; rfl, by rw [hz]⟩) (by repeat constructor)
 have hc2' := Decidable.not_not.1 (of_decide_eq_false hc2)
 rw [if_neg (fun h => h hc2')] at hz
 have hrq := recB_parts hn'.may
 refine Gs.skip (Gn (Gs.regD mixed (by kernel_rfl) (Rmv 0 rfl (by kernel_rfl) rfl (Rq 1 rfl (by kernel_rfl) (by first | exact pu_nil rfl | exact pu_nilF rfl) ?_))))
 refine Rq 2 rfl (by kernel_rfl) (pu_fa fa_76_0 rfl) (Rq 3 rfl (by kernel_rfl) (pu_fa fa_74_4 rfl) (Rr 4 rfl (by kernel_rfl) (rd_ld na_71 rfl (Rdc.cl1 (by repeat constructor) rfl)) ?_))
 refine Rq 5 rfl (by kernel_rfl) (pu_fa fa_50_0 rfl) (Rq 6 rfl (by kernel_rfl) (pu_fa fa_35_0 rfl) (Rr 7 rfl (by kernel_rfl) (rd_ld na_3 rfl (Rdc.cl1 (by repeat constructor) rfl)) ?_))
 refine Rq 8 rfl (by kernel_rfl) (pu_fa fa_50_0 rfl) (Rq 9 rfl (by kernel_rfl) (pu_fa fa_35_1 rfl) (Rr 10 rfl (by kernel_rfl) (rd_ld na_3 rfl (Rdc.cl1 (by repeat constructor) rfl)) ?_))
 refine Rq 11 rfl (by kernel_rfl) (by first | exact pu_addI rfl rfl rfl (by omega) (by omega) | exact pu_add rfl rfl) ?_
 refine Rq 12 rfl (by kernel_rfl) (pu_build bd_35 (by repeat constructor) rfl) ?_
 refine Rg.one (by kernel_rfl) (Stp.ac 13 rfl rfl (by kernel_rfl) trivial (asC (next_specH q.he q.mh 12 o.2.held ⟨r'.o, r'.q + 1⟩))  ?_)
 rintro _ _ ⟨_, ⟨rfl, rfl⟩, rfl⟩
 refine Rmv 14 rfl (by kernel_rfl) rfl (Rq 15 rfl (by kernel_rfl) (pu_extract rfl rfl) (Rq 16 rfl (by kernel_rfl) (pu_extract rfl rfl) (Rg.one (by kernel_rfl) (Stp.ac0 17 rfl rfl (by kernel_rfl) trivial (ac_st sz_50 rfl rfl (by repeat constructor) rfl rfl rfl rfl)  ?_))))
 rintro _ _ rfl
 refine Rq 18 rfl (by kernel_rfl) (pu_assign rfl) (Rg.end (by kernel_rfl) (Gs.blk_n (Gn (Gs.reg (Lmv rfl rfl (Lq rfl (by first | exact pu_addI rfl rfl rfl (by omega) (by omega) | exact pu_add rfl rfl) ?_))))))
 refine Las rfl rfl (Lnt (Gs.again1 (i + 1, k, ⟨m'.id, m'.n, m'.wall, m'.room, c.1, o.2.s, delL o.2.held ⟨r'.o, r'.q + 1⟩, o.2.made, o.2.xs⟩, (look o.2.held ⟨r'.o, r'.q + 1⟩).getD Rec.zero, (look o.2.held ⟨r'.o, r'.q + 1⟩).isSome) ?_ ?_ (by repeat constructor) (by rw [← k1, ← k2, ← k3, ← k4, ← k5]; repeat constructor)))
 · refine ⟨by show i + 1 ≤ 20; omega, ?_⟩
   cases hlk : look o.2.held ⟨r'.o, r'.q + 1⟩ with
   | none =>
     rw [hlk] at hz
     exact .inr ⟨rfl, by rw [hz]⟩
   | some r2 =>
     rw [hlk] at hz
     have hx := hnxt r2 hc2' hlk
     have hlt := delL_less hlk
     refine .inl ⟨rfl, hx.1, hx.2, ?_, ?_, ?_, ?_, ?_⟩
     · show (delL o.2.held _).length < k; omega
     · show o.2.made + (delL o.2.held _).length < 98; omega
     · show o.2.s.rs.length + (delL o.2.held _).length ≤ 700; omega
     · show i + 1 + (delL o.2.held _).length ≤ 12; omega
     · rw [hz]
       refine Prod.ext (Prod.ext ?_ rfl) rfl
       dsimp only [Option.getD]
       omega
 · show (if (look o.2.held ⟨r'.o, r'.q + 1⟩).isSome then k + 1 else 0) < (if true = true then k + 1 + 1 else 0)
   rw [if_pos rfl]; split <;> omega
def ingM (m : NdM) (r : Rec) : (Nat × Int) × NdM :=
 if recB r = false ∨ (m.n : Int) ≤ r.o then ((0, 2), m)
 else if r.q - at0 m.s.v r.o.toNat < 1 then ((0, 0), m)
 else if r.q - at0 m.s.v r.o.toNat = 1 then chainM (m.held.length + 1) m r
 else ((0, if putE 12 m.held r = 6 then 0 else putE 12 m.held r), ⟨m.id, m.n, m.wall, m.room, m.clk, m.s, putL 12 m.held r, m.made, m.xs⟩)
theorem putL_len (L : List Rec) (r : Rec) (h : L.length ≤ 12) : (putL 12 L r).length ≤ 12 ∧ (putL 12 L r).length ≤ L.length + 1 ∧ ∀ x ∈ putL 12 L r, x ∈ L ∨ x = r := by
 unfold putL
 split
 · rename_i he
   unfold putE at he
   split at he
   · split at he
     · cases he
     · split at he
       · cases he
       · rename_i hlt
         rw [List.length_append, List.length_singleton]
         refine ⟨by omega, Nat.le_refl _, fun x hx => ?_⟩
         rcases List.mem_append.1 hx with h | h
         · exact .inl h
         · exact .inr (List.mem_singleton.1 h)
   · cases he
 · exact ⟨h, Nat.le_succ _, fun x hx => .inl hx⟩
theorem ing_all {m : NdM} (h : NdOk m) (r : Rec) : NdOk (ingM m r).2 ∧ (ingM m r).2.made + (ingM m r).2.held.length ≤ m.made + m.held.length + 1 ∧ (ingM m r).2.s.rs.length + (ingM m r).2.held.length ≤ m.s.rs.length + m.held.length + 1 ∧
   ((ingM m r).2.id = m.id ∧ (ingM m r).2.n = m.n ∧ (ingM m r).2.wall = m.wall ∧ (ingM m r).2.room = m.room) := by
 unfold ingM
 split
 · exact ⟨h, Nat.le_succ _, Nat.le_succ _, rfl, rfl, rfl, rfl⟩
 · rename_i h1
   have hb : recB r = true := by
     cases hb : recB r with
     | true => rfl
     | false => exact (h1 (.inl hb)).elim
   have ho : r.o < (m.n : Int) := by
     have : ¬ (m.n : Int) ≤ r.o := fun hc => h1 (.inr hc)
     omega
   split
   · exact ⟨h, Nat.le_succ _, Nat.le_succ _, rfl, rfl, rfl, rfl⟩
   · split
     · rename_i hq
       exact chain_all _ h ⟨hb, ho, by omega⟩
     · obtain ⟨p1, p2, p3⟩ := putL_len m.held r h.few
       refine ⟨⟨h.n1, h.n8, h.idn, h.log, h.clk, h.wall, p1, fun x hx => ?_, h.used, h.room⟩, ?_, ?_, rfl, rfl, rfl, rfl⟩
       · rcases p3 x hx with hx | rfl
         · exact h.held x hx
         · exact ⟨hb, ho⟩
       · show m.made + (putL 12 m.held r).length ≤ _; omega
       · show m.s.rs.length + (putL 12 m.held r).length ≤ _; omega
theorem ingest1_spec {h0 : Hp} (T : TabX h0) (b : Nat) (q : NdQ) (m : NdM) (h : NdOk m) (r : Rec) (hm : m.made + m.held.length < 98) (hl : m.s.rs.length + m.held.length ≤ 700) :
   Ct Tryz.prog 47 [ptr b, recV r] (ndL b q m ++ [ro h0]) (fun v hs => v = .tuple #[int ((ingM m r).1.1 : Nat), int (ingM m r).1.2] ∧ hs = ndL b q (ingM m r).2 ++ [ro h0]) := by
 have hok := h.log.ok
 have hv := StOk.v hok
 have h8 := h.n8
 refine Cti Tryz.func47 (by kernel_rfl) 53 Tryz.ntmps47 rfl rfl fun w0 R => ?_
 refine Gsr (La rfl (ac_box rfl rfl) ?_)
 rintro _ _ ⟨rb, rfl, rfl⟩
 refine Las rfl rfl (Las rfl rfl (Lnt (Gs.seq (Gs.seq (Gs.regD mixed (by kernel_rfl) (Rr 0 rfl (by kernel_rfl) (rd_lda ag_50 rfl (Rdc.cl 5 (by repeat constructor) rfl) rfl) ?_))))))
 refine Rg.one (by kernel_rfl) (Stp.ac 1 rfl rfl (by kernel_rfl) trivial (asC (recMay_spec T.1 r))  ?_)
 rintro _ _ ⟨_, ⟨rfl, rfl⟩, rfl⟩
 refine Rq 2 rfl (by kernel_rfl) (pu_not rfl) (Rg.puB 3 rfl rfl (by kernel_rfl) trivial (pu_move rfl) (fun hg3 => ?_) (fun hg3 => ?_))
 ·
  have hb : recB r = false := not_t hg3
  have hA : ingM m r = ((0, 2), m) := by unfold ingM; rw [if_pos (.inl hb)]
  refine Rof 4 rfl (by kernel_rfl) rfl (Rof 5 rfl (by kernel_rfl) rfl (Rof 6 rfl (by kernel_rfl) rfl (Rof 7 rfl (by kernel_rfl) rfl (Rof 8 rfl (by kernel_rfl) rfl (Rof 9 rfl (by kernel_rfl) rfl (Rof 10 rfl (by kernel_rfl) rfl (Rof 11 rfl (by kernel_rfl) rfl (Rpk 12 rfl (by kernel_rfl) rfl rfl (Rg.end (by kernel_rfl) (Gn (Gs.cond_t rfl ?_)))))))))))
  refine Gsr (Las rfl rfl (Las rfl rfl (Lnt (Gs.ret (Gr ?_)))))
  exact Gs.fin2 Tryz.results47 rfl rfl _ (⟨by rw [hA]; rfl, by rw [hA]⟩) (by repeat constructor)
 have hb : recB r = true := not_f hg3
 have hp := recB_parts hb
 refine Rg.pu 4 rfl rfl (by kernel_rfl) ⟨_, rfl, rfl⟩ (pu_fa fa_50_0 rfl) (Rg.pu 5 rfl rfl (by kernel_rfl) ⟨_, rfl, rfl⟩ (pu_fa fa_35_0 rfl) (Rg.rd 6 rfl rfl (by kernel_rfl) ⟨_, rfl, rfl⟩ (rd_ld na_3 rfl (Rdc.cl1 (by repeat constructor) rfl)) ?_))
 refine Rg.pu 7 rfl rfl (by kernel_rfl) ⟨_, rfl, rfl⟩ (pu_move rfl) (Rg.pu 8 rfl rfl (by kernel_rfl) ⟨_, rfl, rfl⟩ (by first | exact pu_nil rfl | exact pu_nilF rfl) ?_)
 refine Rg.pu 9 rfl rfl (by kernel_rfl) ⟨_, rfl, rfl⟩ (pu_fa fa_76_2 rfl) (Rg.rd 10 rfl rfl (by kernel_rfl) ⟨_, rfl, rfl⟩ (rd_ld na_3 rfl (Rdc.cl1 (by repeat constructor) rfl)) ?_)
 refine Rg.pu 11 rfl rfl (by kernel_rfl) ⟨_, rfl, rfl⟩ (pu_ge rfl rfl) (Rpk 12 rfl (by kernel_rfl) rfl rfl (Rg.end (by kernel_rfl) (Gn (Gs.cond rfl (fun hc0 => ?_) (fun hc0 => ?_)))))
 ·
  have hA : ingM m r = ((0, 2), m) := by unfold ingM; rw [if_pos (.inr (of_decide_eq_true hc0))]
  refine Gsr (Las rfl rfl (Las rfl rfl (Lnt (Gs.ret (Gr ?_)))))
  exact Gs.fin2 Tryz.results47 rfl rfl _ (⟨by rw [hA]; rfl, by rw [hA]⟩) (by repeat constructor)
 have ho : r.o < (m.n : Int) := by have := of_decide_eq_false hc0; omega
 have hoi : r.o.toNat < m.s.v.length := by omega
 have gV := at0_get hoi
 have hne : m.s.v ≠ [] := by intro e; rw [e] at hoi; simp at hoi
 have hle := StOk.le hok r.o.toNat (by omega)
 have hno : ¬ (recB r = false ∨ (m.n : Int) ≤ r.o) := by rintro (h | h); rw [hb] at h; cases h; omega
 refine Gs.skip (Gn (Gs.seq (Gs.seq (Gs.regD mixed (by kernel_rfl) (Rq 0 rfl (by kernel_rfl) (pu_fa fa_50_0 rfl) (Rq 1 rfl (by kernel_rfl) (pu_fa fa_35_1 rfl) (Rr 2 rfl (by kernel_rfl) (rd_ld na_3 rfl (Rdc.cl1 (by repeat constructor) rfl)) ?_)))))))
 refine Rmv 3 rfl (by kernel_rfl) rfl (Rq 5 rfl (by kernel_rfl) (pu_fa fa_50_0 rfl) (Rq 6 rfl (by kernel_rfl) (pu_fa fa_35_0 rfl) (Rr 7 rfl (by kernel_rfl) (rd_ld na_3 rfl (Rdc.cl1 (by repeat constructor) rfl)) ?_)))
 refine Rg.one (by kernel_rfl) (Stp.acR 4 [2, 7] rfl rfl (by kernel_rfl) trivial (asC (nV_some b q m.id m.n m.wall m.s.v m.s.w m.s.rs (by omega) hne)) (by rintro _ _ ⟨_, ⟨vb, vo, vc, rfl, rfl⟩, rfl⟩; exact (Reads.cons rfl rfl rfl trivial rfl (rd_ld na_3 rfl (Rdc.cl1 (by repeat constructor) rfl)) (Reads.cons rfl rfl rfl trivial rfl (rd_ld na_3 rfl (Rdc.cl1 (by repeat constructor) rfl)) Reads.nil))) ?_)
 rintro _ _ ⟨_, ⟨vb, vo, vc, rfl, rfl⟩, rfl⟩
 refine Rq 8 rfl (by kernel_rfl) (pu_ia se_30 rfl rfl (by omega) (by omega)) (Rr 9 rfl (by kernel_rfl) (rd_ld na_3 rfl (Rdc.el0 (SlH.own (by repeat constructor)) gV rfl rfl)) ?_)
 refine Rq 10 rfl (by kernel_rfl) (by first | exact pu_subI rfl rfl rfl (by omega) (by omega) | exact pu_sub rfl rfl) ?_
 refine Rq 11 rfl (by kernel_rfl) (pu_assign rfl) (Rg.end (by kernel_rfl) (Gn (Gs.block (Gsr (Lmv rfl rfl (Lq rfl (pu_lt rfl rfl) (Las rfl rfl (Lnt (Gs.cond rfl (fun hc1 => ?_) (fun hc1 => ?_))))))))))
 ·
  have hA : ingM m r = ((0, 0), m) := by unfold ingM; rw [if_neg hno, if_pos (of_decide_eq_true hc1)]
  refine Gsr (Las rfl rfl (Las rfl rfl (Lnt (Gs.ret (Gs.blk_r (Gr ?_))))))
  exact Gs.fin2 Tryz.results47 rfl rfl _ (⟨by rw [hA]; rfl, by rw [hA]⟩) (by repeat constructor)
 have hn1 := of_decide_eq_false hc1
 refine Gsr (Lmv rfl rfl (Lq rfl (pu_eq rfl rfl) (Las rfl rfl (Lnt (Gs.cond rfl (fun hc2 => ?_) (fun hc2 => ?_))))))
 ·
  have hq1 := of_decide_eq_true hc2
  have hA : ingM m r = chainM (m.held.length + 1) m r := by unfold ingM; rw [if_neg hno, if_neg hn1, if_pos hq1]
  refine Gsr (Lmv rfl rfl (Lr rfl (rd_lda ag_50 rfl (Rdc.cl 5 (by repeat constructor) rfl) rfl) ?_))
  refine La rfl (asC (nchain_spec T b q m h r ⟨hb, ho, by omega⟩ hm hl)) ?_
  rintro _ _ ⟨_, ⟨rfl, rfl⟩, rfl⟩
  refine Lq rfl (pu_extract rfl rfl) (Lq rfl (pu_extract rfl rfl) (Las rfl rfl (Las rfl rfl (Lnt (Gs.ret (Gs.blk_r (Gr ?_)))))))
  exact Gs.fin2 Tryz.results47 rfl rfl _ (⟨by rw [hA], by rw [hA]⟩) (by repeat constructor)
 have hA : ingM m r = ((0, if putE 12 m.held r = 6 then 0 else putE 12 m.held r), ⟨m.id, m.n, m.wall, m.room, m.clk, m.s, putL 12 m.held r, m.made, m.xs⟩) := by unfold ingM; rw [if_neg hno, if_neg hn1, if_neg (of_decide_eq_false hc2)]
 refine Gs.skip (Gs.blk_n (Gn (Gs.seq (Gs.seq (Gs.regD mixed (by kernel_rfl) (Rmv 0 rfl (by kernel_rfl) rfl (Rq 1 rfl (by kernel_rfl) (by first | exact pu_nil rfl | exact pu_nilF rfl) ?_)))))))
 refine Rq 2 rfl (by kernel_rfl) (pu_fa fa_76_0 rfl) (Rq 3 rfl (by kernel_rfl) (pu_fa fa_74_4 rfl) (Rr 4 rfl (by kernel_rfl) (rd_ld na_71 rfl (Rdc.cl1 (by repeat constructor) rfl)) ?_))
 refine Rr 5 rfl (by kernel_rfl) (rd_lda ag_50 rfl (Rdc.cl 5 (by repeat constructor) rfl) rfl) ?_
 refine Rg.one (by kernel_rfl) (Stp.ac 6 rfl rfl (by kernel_rfl) trivial (asC (put_specH T.1 q.he q.mh 12 m.held r))  ?_)
 rintro _ _ ⟨_, ⟨rfl, rfl⟩, rfl⟩
 refine Rq 7 rfl (by kernel_rfl) (pu_assign rfl) (Rg.end (by kernel_rfl) (Gn (Gsr (Lmv rfl rfl (Lq rfl (pu_ne rfl rfl) (Lnt (Gs.cond rfl (fun hc3 => ?_) (fun hc3 => ?_))))))))
 ·
  have hz := of_decide_eq_true hc3
  rw [if_neg hz] at hA
  refine Gsr (Lmv rfl rfl (Las rfl rfl (Las rfl rfl (Lnt (Gs.ret (Gr ?_))))))
  exact Gs.fin2 Tryz.results47 rfl rfl _ (⟨by rw [hA]; rfl, by rw [hA]⟩) (by repeat constructor)
 have hz := Decidable.not_not.1 (of_decide_eq_false hc3)
 rw [if_pos hz] at hA
 refine Gs.skip (Gn (Gsr (Las rfl rfl (Las rfl rfl (Lnt (Gs.ret ?_))))))
 exact Gs.fin2 Tryz.results47 rfl rfl _ (⟨by rw [hA]; rfl, by rw [hA]⟩) (by repeat constructor)
def ingS (z : (Nat × Int) × NdM) (r : Rec) : (Nat × Int) × NdM := ((z.1.1 + (ingM z.2 r).1.1, if z.1.2 = 0 then (ingM z.2 r).1.2 else z.1.2), (ingM z.2 r).2)
def ingA (m : NdM) (rs : List Rec) : (Nat × Int) × NdM := rs.foldl ingS ((0, 0), m)
theorem ingA_take {m : NdM} {rs : List Rec} {i : Nat} {r : Rec} (h : rs[i]? = some r) : ingA m (rs.take (i + 1)) = ingS (ingA m (rs.take i)) r := by
 unfold ingA; rw [List.take_add_one, h, List.foldl_append]; rfl
theorem chain_many : ∀ (k : Nat) (m : NdM) (r : Rec), (chainM k m r).1.1 ≤ k
 | 0, _, _ => Nat.le_refl _
 | k + 1, m, r => by
   rw [chainM]
   dsimp only
   split
   · exact Nat.zero_le _
   · split
     · exact Nat.zero_le _
     · split
       · exact Nat.succ_le_succ (Nat.zero_le _)
       · exact Nat.succ_le_succ (chain_many k _ _)
theorem ing_many {m : NdM} (h : NdOk m) (r : Rec) : (ingM m r).1.1 ≤ 13 := by
 have := chain_many (m.held.length + 1) m r
 have := h.few
 unfold ingM
 split
 · exact Nat.zero_le _
 · split
   · exact Nat.zero_le _
   · split
     · omega
     · exact Nat.zero_le _
theorem ingA_all {m : NdM} (h : NdOk m) : ∀ (rs : List Rec), NdOk (ingA m rs).2 ∧ (ingA m rs).2.made + (ingA m rs).2.held.length ≤ m.made + m.held.length + rs.length ∧ (ingA m rs).2.s.rs.length + (ingA m rs).2.held.length ≤ m.s.rs.length + m.held.length + rs.length ∧
   ((ingA m rs).2.id = m.id ∧ (ingA m rs).2.n = m.n ∧ (ingA m rs).2.wall = m.wall ∧ (ingA m rs).2.room = m.room) ∧ (ingA m rs).1.1 ≤ 13 * rs.length := fun rs => by
 have : ∀ j, j ≤ rs.length → NdOk (ingA m (rs.take j)).2 ∧ (ingA m (rs.take j)).2.made + (ingA m (rs.take j)).2.held.length ≤ m.made + m.held.length + j ∧ (ingA m (rs.take j)).2.s.rs.length + (ingA m (rs.take j)).2.held.length ≤ m.s.rs.length + m.held.length + j ∧
   ((ingA m (rs.take j)).2.id = m.id ∧ (ingA m (rs.take j)).2.n = m.n ∧ (ingA m (rs.take j)).2.wall = m.wall ∧ (ingA m (rs.take j)).2.room = m.room) ∧ (ingA m (rs.take j)).1.1 ≤ 13 * j := by
   intro j
   induction j with
   | zero => intro _; exact ⟨h, Nat.le_refl _, Nat.le_refl _, ⟨rfl, rfl, rfl, rfl⟩, Nat.le_refl _⟩
   | succ j ih =>
     intro hj
     have hr : rs[j]? = some rs[j] := List.getElem?_eq_getElem (by omega)
     rw [ingA_take hr]
     obtain ⟨i1, i2, i3, ⟨i4, i5, i6, i7⟩, i8⟩ := ih (by omega)
     obtain ⟨a1, a2, a3, a4, a5, a6, a7⟩ := ing_all i1 rs[j]
     have a8 := ing_many i1 rs[j]
     refine ⟨a1, ?_, ?_, ⟨a4.trans i4, a5.trans i5, a6.trans i6, a7.trans i7⟩, ?_⟩
     · show (ingM _ _).2.made + (ingM _ _).2.held.length ≤ _; omega
     · show (ingM _ _).2.s.rs.length + (ingM _ _).2.held.length ≤ _; omega
     · show _ + (ingM _ _).1.1 ≤ _; omega
 have := this rs.length (Nat.le_refl _)
 rwa [List.take_length] at this
theorem ingest_spec {h0 : Hp} (T : TabX h0) (b : Nat) (m : NdM) (h : NdOk m) {S : HProp} {a : Option Addr} {c : Nat} {rs : List Rec} (hS : Srd S 5 recC a rs) (hm : m.made + m.held.length + rs.length ≤ 98) (hl : m.s.rs.length + m.held.length + rs.length ≤ 700) :
   Ct Tryz.prog 23 [ptr b, .slice a rs.length c] [ndA b m, S, ro h0] (fun v hs => v = .tuple #[int ((ingA m rs).1.1 : Nat), int (ingA m rs).1.2] ∧ hs = [ndA b (ingA m rs).2, S, ro h0]) := by
 refine Cti Tryz.func23 (by kernel_rfl) 38 Tryz.ntmps23 rfl rfl fun w0 R => ?_
 refine Gs.nd fun q => ?_
 refine Gs.slAddr (hS.h (by repeat constructor)) fun ab ao ha => ?_
 refine Gsr (Las rfl rfl (Las rfl rfl (Lnt (Gsr (Lmv rfl rfl (La rfl (asC (ndown_spec b q m.id m.n m.wall)) ?_))))))
 rintro _ _ ⟨_, ⟨rfl, rfl⟩, rfl⟩
 refine Las rfl rfl (Lnt (Gs.seq (Gsr (Lmv rfl rfl (Lq rfl (pu_ne rfl rfl) (Lnt (Gs.cond_ff rfl rfl (Gs.skip (Gn (Gsr (Las rfl rfl ?_)))))))))))
 refine Lnt (Gs.seq (Gsr (Lmv rfl rfl (Lq rfl (pu_len Tryz.underlying32 rfl) (Lmv rfl rfl (Lnt (Gs.block (Gs.loop1 (fun i : Nat => i ≤ rs.length) (fun i => [(0, ptr b), (6, int (ingA m (rs.take i)).1.2), (7, int ((ingA m (rs.take i)).1.1 : Nat)), (17, .slice a rs.length c), (18, int rs.length), (19, int i)]) (fun i => ndL b q (ingA m (rs.take i)).2 ++ [S, ro h0] ++ R) (fun i => rs.length - i) 0 (Nat.zero_le _) (by repeat constructor) (by repeat constructor) (fun i hi => ?_)))))))))
 refine Gsr (Lq rfl (pu_lt rfl rfl) (Lnt (Gs.seq (Gs.cond rfl (fun hc1 => ?_) (fun hc1 => ?_)))))
 ·
  have hlt : i < rs.length := by have := of_decide_eq_true hc1; omega
  obtain ⟨x, hx⟩ : ∃ x, rs[i]? = some x := ⟨rs[i], by simp [hlt]⟩
  obtain rfl := ha (by rintro rfl; simp at hlt)
  have hsn := ingA_take (m := m) hx
  obtain ⟨i1, i2, i3, -, i8⟩ := ingA_all h (rs.take i)
  rw [List.length_take] at i2 i3 i8
  obtain ⟨z, hz⟩ : ∃ z, z = ingA m (rs.take i) := ⟨_, rfl⟩
  rw [← hz] at i1 i2 i3 i8 hsn ⊢
  have i9 := ing_many i1 x
  unfold ingS at hsn
  refine Gs.skip (Gn (Gs.seq (Gs.block (Gsr (Lq rfl (pu_ia se_32 rfl rfl (by omega) (by omega)) (Lr rfl (rd_lda ag_50 rfl (Rdc.el0 (hS.h (by repeat constructor)) hx rfl rfl) rfl) ?_))))))
  refine La rfl (ac_alloc zv_50 rfl) ?_
  rintro _ _ ⟨xb, rfl, rfl⟩
  refine Lac0 rfl trivial (ac_st sz_50 rfl rfl (by repeat constructor) rfl rfl rfl rfl) ?_
  rintro _ _ rfl
  refine Lnt (Gsr (Lmv rfl rfl (Lr rfl (rd_lda ag_50 rfl (Rdc.cl 5 (by repeat constructor) rfl) rfl) ?_)))
  refine La rfl (asC (ingest1_spec T b q z.2 i1 x (by omega) (by omega))) ?_
  rintro _ _ ⟨_, ⟨rfl, rfl⟩, rfl⟩
  refine Lmv rfl rfl (Lq rfl (pu_extract rfl rfl) (Lq rfl (pu_extract rfl rfl) (Las rfl rfl (Las rfl rfl (Lnt (Gsr (Lmv rfl rfl (Lmv rfl rfl (Lq rfl (pu_addI (z := ((z.1.1 + (ingM z.2 x).1.1 : Nat) : Int)) rfl rfl (by omega) (by omega) (by omega)) ?_)))))))))
  refine Las rfl rfl (Lnt (Gsr (Lmv rfl rfl (Lq rfl (pu_eq rfl rfl) (Lnt (Gs.cond rfl (fun hc2 => ?_) (fun hc2 => ?_)))))))
  ·
   have hz0 := of_decide_eq_true hc2
   rw [if_pos hz0] at hsn
   refine Gs.reg (Lmv rfl rfl (Las rfl rfl (Lnil (Gs.blk_n (Gn (Gs.reg (Lq rfl (by first | exact pu_addI rfl rfl rfl (by omega) (by omega) | exact pu_add rfl rfl) ?_)))))))
   refine Lmv rfl rfl (Lnt ?_)
   exact Gs.again1 (i + 1) hlt (by show rs.length - (i + 1) < rs.length - i; omega) (by simp only [hsn]; repeat constructor) (by simp only [hsn]; repeat constructor)
  have hz0 := of_decide_eq_false hc2
  rw [if_neg hz0] at hsn
  refine Gs.skip (Gs.blk_n (Gn (Gs.reg (Lq rfl (by first | exact pu_addI rfl rfl rfl (by omega) (by omega) | exact pu_add rfl rfl) ?_))))
  refine Lmv rfl rfl (Lnt ?_)
  exact Gs.again1 (i + 1) hlt (by show rs.length - (i + 1) < rs.length - i; omega) (by simp only [hsn]; repeat constructor) (by simp only [hsn]; repeat constructor)
 have hge : i = rs.length := by have := of_decide_eq_false hc1; omega
 rw [hge, List.take_length]
 refine Gs.exit (Gx (Gx (Gs.blk_hit (Gn (Gsr (Lmv rfl rfl (Lmv rfl rfl (Las rfl rfl (Las rfl rfl (Lnt (Gs.ret ?_)))))))))))
 refine Gs.takes (As := ndL b q (ingA m rs).2) (by repeat constructor) (Gs.ndc q ?_)
 exact Gs.fin2 Tryz.results23 rfl rfl _ (⟨rfl, rfl⟩) (by repeat constructor)
end Go.Proofs.YtflfhpokmidnmaaGreatDoor
namespace Go.Proofs.YtflfhpokmidnmaaGreatDoor
open Go Go.Sl Go.Gv Go.Kv Go.Po Go.Ix Go.Qu Go.Shelf Go.Dv Go.Bst
set_option maxRecDepth 100000
theorem syncS_syn (xs : List Seg) : SyncS (xs.map syn) := fun y hy => by
 obtain ⟨z, -, rfl⟩ := List.mem_map.1 hy; rfl
theorem lasts_segN (n : Int) {x : Seg} {xs : List Seg} (hn : (names ((x :: xs).map segF)).Nodup) (hs : SyncS (x :: xs)) : lastsB ((x :: xs).map segF) ((x :: xs).map (segP n)) = true := by
 unfold lastsB
 rw [Bool.not_eq_true', List.any_eq_false]
 intro p hp
 rw [List.map_cons, List.drop_succ_cons, List.drop_zero] at hp
 obtain ⟨y, hy, rfl⟩ := List.mem_map.1 hp
 have hl : lookF ((x :: xs).map segF) (segF y).n = some (segF y) := lookF_mem hn (List.mem_map_of_mem (List.mem_cons_of_mem _ hy))
 have : looseD ((x :: xs).map segF) (segP n y).n = 0 := by
   unfold looseD
   rw [show lookF ((x :: xs).map segF) (segP n y).n = some (segF y) from hl]
   show (((layS y.es).length : Nat) : Int) - (y.s : Int) = 0
   have := hs y (List.mem_cons_of_mem _ hy)
   omega
 rw [this]; simp
theorem del_segN (n : Int) {x : Seg} {xs : List Seg} (hn : (names ((x :: xs).map segF)).Nodup) : del ((x :: xs).map segF) (segP n x).n = xs.map segF := by
 have hB : (segF x).n ∉ names (xs.map segF) := fun h => by
   simp only [names, List.map_cons] at hn
   rw [List.nodup_cons] at hn
   exact hn.1 h
 exact at_del (A := []) (f := segF x) (by simp [names]) hB
theorem trim_segN (n : Int) (w : List Int) : ∀ (xs : List Seg) (k : Nat), (names (xs.map segF)).Nodup → SyncS xs → ∃ K, trimL w (xs.map (segP n)) (xs.map segF) k = ⟨k + K, (xs.drop K).map (segP n), (xs.drop K).map segF⟩ ∧ (xs ≠ [] → K < xs.length) ∧
   ∀ x ∈ xs.take K, goneB (topsOf n x.es) w = true
 | [], k, _, _ => ⟨0, trimL_nil .., fun h => absurd rfl h, fun x hx => by cases hx⟩
 | [x], k, _, _ => ⟨0, trimL_one .., fun _ => Nat.zero_lt_one, fun x hx => by simp at hx⟩
 | x :: y :: xs, k, hn, hs => by
   have hl := lasts_segN n hn hs
   by_cases hg : goneB (topsOf n x.es) w = true
   · have hn' : (names ((y :: xs).map segF)).Nodup := by
       have := hn
       simp only [names] at this ⊢
       rw [List.map_cons, List.map_cons, List.nodup_cons] at this
       exact this.2
     obtain ⟨K, h1, h2, h3⟩ := trim_segN n w (y :: xs) (k + 1) hn' (fun z hz => hs z (by simp [hz]))
     refine ⟨K + 1, ?_, fun _ => by have := h2 (by simp); simp only [List.length_cons] at this ⊢; omega, fun z hz => ?_⟩
     · have e := trimL_go (w := w) (p := segP n x) (ps := (y :: xs).map (segP n)) ((x :: y :: xs).map segF) k (by simp) (by
         rw [show (segP n x).t = topsOf n x.es from rfl, hg]; exact hl)
       rw [del_segN n hn, h1] at e
       rw [show (x :: y :: xs).map (segP n) = segP n x :: (y :: xs).map (segP n) from rfl, e]
       rw [List.drop_succ_cons, show k + 1 + K = k + (K + 1) by omega]
     · rw [List.take_succ_cons] at hz
       rcases List.mem_cons.1 hz with rfl | hz
       · exact hg
       · exact h3 z hz
   · exact ⟨0, trimL_stop (w := w) (p := segP n x) (ps := (y :: xs).map (segP n)) ((x :: y :: xs).map segF) k (by
         rw [show (segP n x).t = topsOf n x.es from rfl, Bool.eq_false_iff.2 hg]; rfl), fun _ => by simp, fun z hz => by simp at hz⟩
theorem st_dropN {n : Int} {made : Nat} {xs : List Seg} (h : St n made xs) (K : Nat) (hK : K < xs.length) : St n made (xs.drop K) := by
 refine ⟨⟨h.inv.asc.sublist (List.drop_sublist K xs), fun x hx => h.inv.num x (List.mem_of_mem_drop hx), fun x hx => h.inv.good x (List.mem_of_mem_drop hx), fun x hx => h.inv.safe x (List.mem_of_mem_drop hx)⟩, fun e => ?_⟩
 have := congrArg List.length e
 rw [List.length_drop, List.length_nil] at this; omega
theorem noteT_ge (t : List Int) (e : EntP) (o : Nat) : t.getD o 0 ≤ (noteT t e).getD o 0 := by
 unfold noteT
 split
 · rw [List.getD_eq_getElem?_getD, List.getD_eq_getElem?_getD, List.getElem?_set]
   split
   · rename_i h
     split
     · rw [h, Option.getD_some, List.getD_eq_getElem?_getD]; omega
     · rename_i hl
       rw [List.getElem?_eq_none (by omega)]; exact Int.le_refl _
   · exact Int.le_refl _
 · exact Int.le_refl _
theorem fold_ge : ∀ (es : List EntP) (t : List Int) (o : Nat), t.getD o 0 ≤ (es.foldl noteT t).getD o 0
 | [], _, _ => Int.le_refl _
 | e :: es, t, o => Int.le_trans (noteT_ge t e o) (fold_ge es _ o)
theorem fold_top : ∀ (es : List EntP) (t : List Int) (e : EntP), e ∈ es → e.kind = 2 → e.r.o.toNat < t.length → e.r.q ≤ (es.foldl noteT t).getD e.r.o.toNat 0
 | [], _, _, h, _, _ => by cases h
 | a :: es, t, e, h, hk, hl => by
   rw [List.foldl_cons]
   rcases List.mem_cons.1 h with rfl | h
   · refine Int.le_trans ?_ (fold_ge es _ _)
     unfold noteT
     rw [if_pos hk, List.getD_eq_getElem?_getD, List.getElem?_set_self hl, Option.getD_some]
     omega
   · exact fold_top es _ e h hk (by rw [noteT_len]; exact hl)
theorem gone_le {n : Nat} {es : List EntP} {w : List Int} (hm : ∀ e ∈ es, mayE e n = true) (hw : w.length = n) (h : goneB (topsOf n es) w = true) : ∀ e ∈ es, e.kind = 2 → e.r.q ≤ at0 w e.r.o.toNat := fun e he hk => by
 have h1 := hm e he
 unfold mayE at h1
 rw [if_neg (by omega), if_neg (by omega), if_pos hk] at h1
 simp only [Bool.and_eq_true, decide_eq_true_eq] at h1
 have hr := recB_parts h1.2
 have ho : e.r.o.toNat < n := by omega
 have htop := fold_top es (zeros n) e he hk (by unfold zeros; rw [List.length_replicate]; omega)
 have htl : (topsOf n es).length = n := tops_len n es
 unfold goneB at h
 rw [List.all_eq_true] at h
 have h2 := h e.r.o.toNat (List.mem_range.2 (by omega))
 unfold overAt at h2
 have h3 : e.r.q ≤ (topsOf n es).getD e.r.o.toNat 0 := htop
 rw [decide_eq_true (show 0 < (topsOf n es).getD e.r.o.toNat 0 by omega), decide_eq_false (show ¬ w.length ≤ e.r.o.toNat by omega)] at h2
 simp only [Bool.true_and, Bool.false_or, Bool.not_eq_true', decide_eq_false_iff_not] at h2
 show e.r.q ≤ w.getD e.r.o.toNat 0
 omega
theorem bases_top {n : Nat} {c d : List EntP} {cs : List (List EntP)} (h : BasesOk n [] (c :: d :: cs)) (hg : ∀ e ∈ c, e.kind = 2 → e.r.q ≤ at0 (playM n (c ++ d ++ cs.flatten)).w e.r.o.toNat)
   (h0 : ∀ e, c.head? = some e → ∀ o, o < n → at0 e.v o ≤ at0 (playM n (c ++ d ++ cs.flatten)).w o) : ∀ e, d.head? = some e → ∀ o, o < n → at0 e.v o ≤ at0 (playM n (c ++ d ++ cs.flatten)).w o := by
 obtain ⟨⟨e1, f1, rfl, hb1, -⟩, ⟨e2, f2, rfl, hb2, h2⟩, h3⟩ := h
 have h2' : (playM n (e1 :: f1)).v = e2.v := h2 (by simp)
 have hass : e1 :: f1 ++ e2 :: f2 ++ cs.flatten = (e1 :: f1) ++ e2 :: (f2 ++ cs.flatten) := by simp
 rw [hass] at hg h0 ⊢
 intro e he o ho
 have he' : e2 = e := by simpa using he
 subst he'
 obtain ⟨W, hW⟩ : ∃ W, W = (playM n ((e1 :: f1) ++ e2 :: (f2 ++ cs.flatten))).w := ⟨_, rfl⟩
 rw [← hW] at hg h0 ⊢
 have hm : at0 (playM n (e1 :: f1)).w o ≤ at0 W o := by
   rw [hW, play_app (by simp)]
   exact w_mono ho _ (OkM.play n _)
 have hv := v_steps (n := n) (o := o) (B := at0 W o) ho (e1 :: f1) ((OkM.zero n).rai e1.v) (fun e he hk ho2 => by
   have := hg e he hk
   rw [ho2, Int.toNat_natCast] at this; exact this) (.inl (by
     rw [raiM_yes (OkM.zero n) hb1]
     obtain ⟨-, -, e3, e4⟩ := vecB_iff.1 hb1
     have hz0 : at0 (List.replicate n (0 : Int)) o = 0 := by unfold at0; rw [List.getD_eq_getElem?_getD, List.getElem?_replicate, if_pos ho]; rfl
     have hzl : (List.replicate n (0 : Int)).length = e1.v.length := by rw [List.length_replicate]; omega
     show at0 (joinV (List.replicate n 0) (joinV (List.replicate n 0) e1.v)) o ≤ at0 W o
     rw [at0_join (by rw [joinV_len hzl]) (by rw [List.length_replicate]; exact ho), at0_join hzl (by rw [List.length_replicate]; exact ho), hz0]
     have h5 := h0 e1 rfl o ho
     have h6 := (e4 _ (at0_in (w := e1.v) (o := o) (by omega))).1
     omega))
 rw [← h2']
 have hv' : at0 (playM n (e1 :: f1)).v o ≤ at0 W o ∨ at0 (playM n (e1 :: f1)).v o ≤ at0 (playM n (e1 :: f1)).w o := hv
 omega
theorem flatS_cons (x : Seg) (xs : List Seg) : flatS (x :: xs) = x.es ++ flatS xs := by simp [flatS]
structure LogS (n made : Nat) (xs : List Seg) (s : StM) : Prop where
 st : St n made xs
 play : playM n (flatS xs) = s
 bases : BasesOk n [] (xs.map Seg.es)
 all : SyncS xs
 base0 : ∀ e, (flatS xs).head? = some e → ∀ o, o < n → at0 e.v o ≤ at0 s.w o
theorem LogS.ok {n made : Nat} {xs : List Seg} {s : StM} (h : LogS n made xs s) : OkM n s := by rw [← h.play]; exact OkM.play n _
theorem firm_all {xs : List Seg} (h : SyncS xs) : firmE xs = flatS xs := by
 by_cases he : xs = []
 · subst he; rfl
 · obtain ⟨X, x, rfl⟩ := last_of he
   rw [firm_snoc, flat_snoc, whole_all x.es x.s (by rw [h x (by simp)]; exact Nat.le_refl _), List.take_length]
theorem LogS.log {n made : Nat} {xs : List Seg} {s : StM} (h : LogS n made xs s) : LogOk n made xs s :=
 ⟨h.st, h.play, h.bases, fun y hy => h.all y (List.dropLast_subset _ hy), by rw [firm_all h.all, h.play]; exact h.base0⟩
theorem LogOk.syns {n made : Nat} {xs : List Seg} {s : StM} (h : LogOk n made xs s) : LogS n made (xs.map syn) s :=
 ⟨syn_st h.st, by rw [syn_flat]; exact h.play, by rw [List.map_map]; exact h.bases, syncS_syn xs, fun e he => h.base0 e (by rw [syn_flat] at he; exact he)⟩
theorem LogS.gone {n made : Nat} {x : Seg} {xs : List Seg} {s : StM} (h : LogS n made (x :: xs) s) (hne : xs ≠ []) (hg : goneB (topsOf n x.es) s.w = true) : LogS n made xs s := by
 obtain ⟨y, ys, rfl⟩ := List.exists_cons_of_ne_nil hne
 have hw := StOk.w h.ok
 have hgood := h.st.inv.good x (by simp)
 have hflat : flatS (x :: y :: ys) = x.es ++ y.es ++ (ys.map Seg.es).flatten := by rw [flatS_cons, flatS_cons, flat_esl, List.append_assoc]
 have hpl := h.play
 rw [hflat] at hpl
 have hle := gone_le hgood.may hw hg
 rw [← hpl] at hle
 have h0 : ∀ e, x.es.head? = some e → ∀ o, o < n → at0 e.v o ≤ at0 (playM n (x.es ++ y.es ++ (ys.map Seg.es).flatten)).w o := fun e he o ho => by
   rw [hpl]
   exact h.base0 e (by rw [hflat, List.append_assoc, head_app hgood.ne]; exact he) o ho
 have hb := h.bases
 rw [List.map_cons, List.map_cons] at hb
 obtain ⟨g1, g2⟩ := bases_gone hb hle h0
 have g3 := bases_top hb hle h0
 have hfl2 : flatS (y :: ys) = y.es ++ (ys.map Seg.es).flatten := by rw [flatS_cons, flat_esl]
 refine ⟨st_dropN (K := 1) h.st (by simp), by rw [hfl2, g1, hpl], g2, fun z hz => h.all z (List.mem_cons_of_mem _ hz), fun e he o ho => ?_⟩
 rw [hfl2, head_app (h.st.inv.good y (by simp)).ne] at he
 have := g3 e he o ho
 rwa [hpl] at this
theorem LogS.drop {n made : Nat} : ∀ (K : Nat) {xs : List Seg} {s : StM}, LogS n made xs s → K < xs.length → (∀ x ∈ xs.take K, goneB (topsOf n x.es) s.w = true) → LogS n made (xs.drop K) s
 | 0, _, _, h, _, _ => h
 | K + 1, [], _, _, hK, _ => by simp at hK
 | K + 1, x :: xs, s, h, hK, hg => by
   have hK' : K < xs.length := by simpa using hK
   have h1 := h.gone (by intro e; rw [e] at hK'; simp at hK') (hg x (by simp))
   exact LogS.drop K h1 hK' fun y hy => hg y (by rw [List.take_succ_cons]; exact List.mem_cons_of_mem _ hy)
def trimN (n : Int) (w : List Int) (xs : List Seg) : Nat := (trimL w ((xs.map syn).map (segP n)) ((xs.map syn).map segF) 0).k
def syncX (n : Int) (w : List Int) (xs : List Seg) : List Seg := (xs.map syn).drop (trimN n w xs)
theorem names_nodup {n : Int} {made : Nat} {xs : List Seg} (h : Inv n made xs) (hm : made < 100) : (names (xs.map segF)).Nodup := names_nd (k := Seg.k) (fun _ => rfl) h.asc fun y hy => by have := h.num y hy; omega
theorem trim_is {n made : Nat} {xs : List Seg} {s : StM} (h : LogOk n made xs s) (hm : made < 98) (w : List Int) :
   trimL w ((xs.map syn).map (segP n)) ((xs.map syn).map segF) 0 = ⟨trimN n w xs, (syncX n w xs).map (segP n), (syncX n w xs).map segF⟩ ∧ trimN n w xs < xs.length ∧ ∀ x ∈ (xs.map syn).take (trimN n w xs), goneB (topsOf n x.es) w = true := by
 have hs := h.syns
 obtain ⟨K, h1, h2, h3⟩ := trim_segN n w (xs.map syn) 0 (names_nodup hs.st.inv (by omega)) (syncS_syn xs)
 have hk : trimN n w xs = K := by unfold trimN; rw [h1]; exact Nat.zero_add _
 have h2 := h2 hs.st.ne
 rw [List.length_map] at h2
 refine ⟨?_, by omega, by rw [hk]; exact h3⟩
 unfold syncX
 rw [h1, hk, Nat.zero_add]
theorem LogOk.sync {n made : Nat} {xs : List Seg} {s : StM} (h : LogOk n made xs s) (hm : made < 98) : LogS n made (syncX n s.w xs) s ∧ (syncX n s.w xs).length ≤ xs.length := by
 obtain ⟨-, h2, h3⟩ := trim_is h hm s.w
 refine ⟨LogS.drop _ h.syns (by rw [List.length_map]; exact h2) h3, ?_⟩
 unfold syncX; rw [List.length_drop, List.length_map]; omega
theorem used_dropN : ∀ (K : Nat) (xs : List Seg), usedS (xs.drop K) ≤ usedS xs
 | 0, _ => Nat.le_refl _
 | K + 1, [] => Nat.le_refl _
 | K + 1, x :: xs => by
   have := used_dropN K xs
   have e : usedS (x :: xs) = (layS x.es).length + usedS xs := by simp [usedS]
   rw [List.drop_succ_cons, e]; omega
theorem sync_used (n : Int) (w : List Int) (xs : List Seg) : usedS (syncX n w xs) ≤ usedS xs := by
 unfold syncX
 have := used_dropN (trimN n w xs) (xs.map syn)
 rwa [syn_used] at this
def syncM (m : NdM) : NdM := ⟨m.id, m.n, m.wall, m.room, m.clk, m.s, m.held, m.made, syncX m.n m.s.w m.xs⟩
theorem NdOk.sync {m : NdM} (h : NdOk m) (hm : m.made < 98) : NdOk (syncM m) := by
 have hu := sync_used m.n m.s.w m.xs
 have := h.used
 exact ⟨h.n1, h.n8, h.idn, (h.log.sync hm).1.log, h.clk, h.wall, h.few, h.held, by show (usedS (syncX m.n m.s.w m.xs) : Int) ≤ m.room; omega, h.room⟩
theorem zero_play (n : Nat) (h1 : 1 ≤ n) (h8 : n ≤ 8) : playM n [zeroB n] = zeroM n := by
 have hz : vecB (zeros n) n = true := by
   refine vecB_iff.2 ⟨by omega, by omega, by simp [zeros], fun x hx => ?_⟩
   have := List.eq_of_mem_replicate hx
   omega
 have hz0 : ∀ o, o < n → at0 (zeros n) o = 0 := fun o ho => zeroM_w n ho
 have e1 : raiM (zeroM n) (zeros n) = zeroM n := raiM_le (OkM.zero n) (by simp [zeros]) fun o ho => by rw [hz0 o ho, zeroM_w n ho]; exact Int.le_refl _
 show stepM (raiM (zeroM n) (zeros n)) (zeroB n) = zeroM n
 rw [e1]
 show raiM (zeroM n) (zeros n) = zeroM n
 exact e1
theorem new_log {n : Nat} (h1 : 1 ≤ n) (h8 : n ≤ 8) {k : Nat} (hk : 1 ≤ k) : LogOk n k [newSeg n k] (zeroM n) := by
 have hf : flatS [newSeg n k] = [zeroB n] := by simp [flatS, newSeg]
 have hz : vecB (zeros n) n = true := by
   refine vecB_iff.2 ⟨by omega, by omega, by simp [zeros], fun x hx => ?_⟩
   have := List.eq_of_mem_replicate hx
   omega
 refine ⟨newSeg_st (by omega) (by omega) hk, by rw [hf]; exact zero_play n h1 h8, ⟨⟨zeroB n, [], rfl, hz, fun h => (h rfl).elim⟩, trivial⟩, fun y hy => by simp at hy, fun e he o ho => ?_⟩
 rw [hf] at he
 have : zeroB n = e := by simpa using he
 subst this
 show at0 (zeros n) o ≤ _
 rw [show at0 (zeros n) o = 0 from zeroM_w n ho]
 exact (StOk.le (OkM.play n _) o ho).1
theorem bases_pre {n : Nat} {X : List (List EntP)} {c : List EntP} (h : BasesOk n [] (X ++ [c])) {j : Nat} (hj : j ≠ 0) : BasesOk n [] (X ++ [c.take j]) := by
 rw [bases_app] at h ⊢
 obtain ⟨h1, ⟨b, fs, rfl, h3, h4⟩, -⟩ := h
 obtain ⟨j, rfl⟩ : ∃ i, j = i + 1 := ⟨j - 1, by omega⟩
 exact ⟨h1, ⟨b, fs.take j, rfl, h3, h4⟩, trivial⟩
theorem bases_init {n : Nat} {X : List (List EntP)} {c : List EntP} (h : BasesOk n [] (X ++ [c])) : BasesOk n [] X := ((bases_app _ _ _).1 h).1
theorem whole_monoT : ∀ (es : List EntP) {a b : Nat}, a ≤ b → wholeN es a ≤ wholeN es b
 | [], _, _, _ => Nat.le_refl _
 | e :: es, a, b, h => by
   unfold wholeN
   by_cases ha : (layE e).length ≤ a
   · rw [if_pos ha, if_pos (by omega)]; exact Nat.succ_le_succ (whole_monoT es (by omega))
   · rw [if_neg ha]; exact Nat.zero_le _
theorem whole_cut : ∀ (es : List EntP) {m J : Nat}, wholeN es m ≤ J → wholeN (es.take J) m = wholeN es m
 | [], _, _, _ => by simp
 | e :: es, m, 0, h => by
   have : wholeN (e :: es) m = 0 := by omega
   rw [this]; rfl
 | e :: es, m, J + 1, h => by
   rw [List.take_succ_cons]
   unfold wholeN at h ⊢
   by_cases ha : (layE e).length ≤ m
   · rw [if_pos ha] at h ⊢
     rw [if_pos ha, whole_cut es (by omega)]
   · rw [if_neg ha, if_neg ha]
theorem LogOk.crash {n made : Nat} {xs : List Seg} {s : StM} (h : LogOk n made xs s) (h1 : 1 ≤ n) (h8 : n ≤ 8) (hm : made < 98) (st : Int) :
   ∃ cs, crashL st (xs.map segF) = cs.map csF ∧ CsOk n cs ∧ (∀ c ∈ cs, c.k < 98) ∧ cs.length = xs.length ∧
     ∀ made' ys, OpRel n cs made' ys → ∃ es, firmE xs <+: es ∧ es <+: flatS xs ∧ playM n (flatS ys) = playM n es ∧ LogOk n made' ys (playM n es) ∧ made' ≤ made + 1 ∧ usedS ys ≤ max (usedS xs) (layE (zeroB n)).length ∧ (cs.filterMap after = [] → ys = [newSeg n made']) ∧ (st = 0 → es = firmE xs) ∧ (firmE xs <+: firmE ys ∨ firmE xs = []) ∧ (cs.filterMap after ≠ [] → flatS ys = es) := by
 obtain ⟨X, x, rfl⟩ := last_of h.st.ne
 have hsX : SyncS X := by have := h.safe; rwa [List.dropLast_concat] at this
 have hok := cut_ok h.st.inv (by omega) st
 have hk : ∀ c ∈ X.map ofSeg ++ [cutC st x], c.k ≤ made := fun c hc => by
   rcases List.mem_append.1 hc with hc | hc
   · obtain ⟨y, hy, rfl⟩ := List.mem_map.1 hc
     exact (h.st.inv.num y (List.mem_append_left _ hy)).2
   · simp only [List.mem_singleton] at hc; subst hc
     exact (h.st.inv.num x (by simp)).2
 refine ⟨X.map ofSeg ++ [cutC st x], crash_seg h.st.inv (by omega) hsX st, hok, fun c hc => by have := hk c hc; omega, by simp, fun made' ys hr => ?_⟩
 obtain ⟨J, hJ⟩ : ∃ J, J = wholeN x.es (cutC st x).m := ⟨_, rfl⟩
 have hfm : (X.map ofSeg ++ [cutC st x]).filterMap after = X ++ (after (cutC st x)).toList := by
   rw [List.filterMap_append, of_afters fun y hy => h.st.inv.good y (List.mem_append_left _ hy)]
   congr 1
 have haf : (after (cutC st x)).toList.flatMap Seg.es = x.es.take J := by rw [hJ]; exact after_flat (cutC st x)
 have hfl : flatS (X ++ (after (cutC st x)).toList) = flatS X ++ x.es.take J := by rw [flat_app]; exact congrArg _ haf
 have htop := hok.top hk
 have hpre : flatS X ++ x.es.take J <+: flatS (X ++ [x]) := by rw [flat_snoc]; exact (List.prefix_append_right_inj _).2 (List.take_prefix _ _)
 have hfp : firmE (X ++ [x]) <+: flatS X ++ x.es.take J := by
   rw [firm_snoc]
   refine (List.prefix_append_right_inj _).2 (List.take_prefix_take_left ?_)
   rw [hJ]
   exact whole_monoT _ (Nat.le_add_right _ _)
 have hb := h.bases
 rw [List.map_append] at hb
 have hst0 : st = 0 → flatS X ++ x.es.take J = firmE (X ++ [x]) := fun e => by
   rw [firm_snoc, hJ]
   have : (cutC st x).m = x.s := by
     show x.s + lostF st (segF x) = x.s
     rw [e]
     unfold lostF; simp
   rw [this]
 refine ⟨flatS X ++ x.es.take J, hfp, hpre, ?_⟩
 rcases hr with ⟨hne, e1, e2⟩ | ⟨he, e1, e2⟩
 · rw [hfm] at e1 hne
   have hst : St n made' ys := by
     rw [e2, e1, ← hfm]
     exact ⟨hok.inv, by rw [hfm]; exact hne⟩
   have hplay : playM n (flatS ys) = playM n (flatS X ++ x.es.take J) := by rw [e1, hfl]
   have hys : ys.map Seg.es = X.map Seg.es ++ (after (cutC st x)).toList.map Seg.es := by rw [e1, List.map_append]
   have hfy : firmE (X ++ [x]) <+: firmE ys := by
     rw [e1]
     cases ha : after (cutC st x) with
     | none =>
       have hJ0 : x.es.take J = [] := by rw [← haf, ha]; rfl
       rw [hJ0] at hfp
       rw [List.append_nil] at hfp
       simp only [Option.toList_none, List.append_nil]
       rw [firm_all hsX]; exact hfp
     | some y =>
       obtain ⟨a1, a2, a3, a4⟩ := after_some ha
       show firmE (X ++ [x]) <+: firmE (X ++ [y])
       rw [firm_snoc, firm_snoc]
       refine (List.prefix_append_right_inj _).2 ?_
       have a3 : y.es = x.es.take J := by rw [hJ]; exact a3
       have hys' : (cutC st x).s ≤ y.s ∨ (layS y.es).length ≤ y.s := by
         unfold after at ha
         split at ha
         · cases ha
         · cases ha
           dsimp only
           split
           · exact .inr (Nat.le_refl _)
           · exact .inl (Nat.le_refl _)
       rcases hys' with hle | hle
       · have e3 : x.s ≤ (cutC st x).s := Nat.le_add_right _ _
         have hle2 : x.s ≤ y.s := by omega
         rw [a3]
         have hw1 : wholeN x.es x.s ≤ J := by rw [hJ]; exact whole_monoT _ (Nat.le_add_right _ _)
         have hw2 : wholeN x.es x.s ≤ wholeN (x.es.take J) y.s := by
           rw [← whole_cut x.es hw1]; exact whole_monoT _ hle2
         have : x.es.take (wholeN x.es x.s) = (x.es.take J).take (wholeN x.es x.s) := by rw [List.take_take, Nat.min_eq_left hw1]
         rw [this]
         exact List.take_prefix_take_left hw2
       · rw [whole_all y.es y.s hle, List.take_length, a3]
         refine List.take_prefix_take_left ?_
         rw [hJ]; exact whole_monoT _ (Nat.le_add_right _ _)
   refine ⟨hplay, ⟨hst, hplay, ?_, ?_, fun e hh o ho => ?_⟩, by omega, ?_, fun h => (hne (by rw [← hfm]; exact h)).elim, hst0, .inl hfy, fun _ => by rw [e1, hfl]⟩
   · rw [hys]
     cases ha : after (cutC st x) with
     | none => simpa using bases_init hb
     | some y =>
       obtain ⟨a1, a2, a3, -⟩ := after_some ha
       have a3 : y.es = x.es.take J := by rw [hJ]; exact a3
       have a1 : J ≠ 0 := by rw [hJ]; exact a1
       show BasesOk n [] (X.map Seg.es ++ [y.es])
       rw [a3]; exact bases_pre hb a1
   · rw [e1]
     cases ha : after (cutC st x) with
     | none =>
       intro y hy
       simp only [Option.toList_none, List.append_nil] at hy
       exact hsX y (List.dropLast_subset _ hy)
     | some y =>
       show SyncS (X ++ [y]).dropLast
       rw [List.dropLast_concat]; exact hsX
   · -- the first base
     have hhd : (flatS (X ++ [x])).head? = some e := by
       rw [e1, hfl] at hh
       obtain ⟨t, ht⟩ := hpre
       rw [← ht, head_app (by intro e0; rw [e0] at hh; cases hh)]; exact hh
     exact Int.le_trans (h.firm e hhd o ho) (play_mono hfy ho)
   · rw [e1, used_app, used_app, used_one]
     have := after_used (cutC st x)
     have e3 : (cutC st x).es = x.es := rfl
     rw [e3] at this; omega
 · have hmade : made' = topK ((X.map ofSeg ++ [cutC st x]).map Cs.k) + 1 := e2
   rw [hfm] at he
   rw [he] at hfl
   have hnil : flatS X ++ x.es.take J = [] := by rw [← hfl]; rfl
   have hl := new_log (n := n) h1 h8 (k := made') (by omega)
   rw [← hmade] at e1
   have hpl : playM n (flatS ys) = zeroM n := by rw [e1]; exact hl.play
   rw [hnil, play_nil]
   rw [hnil] at hst0
   refine ⟨hpl, by rw [e1]; exact hl, by omega, ?_, fun _ => e1, hst0, .inr ?_, fun h => (h (by rw [hfm]; exact he)).elim⟩
   · rw [e1, used_one]
     have e3 : layS (newSeg n made').es = layE (zeroB n) := by simp [newSeg, layS]
     rw [e3]; omega
   · obtain ⟨t, ht⟩ := hfp
     rw [hnil] at ht
     exact (List.append_eq_nil_iff.1 ht).1
end Go.Proofs.YtflfhpokmidnmaaGreatDoor
